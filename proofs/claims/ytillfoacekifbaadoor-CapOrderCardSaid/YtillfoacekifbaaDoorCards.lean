/-
  DERIVED. GIVEN WITH THE SEED: THE CARDS: each row of YtillfoacekifbaaDoorRows.lean that lists a variable, with what it lists TIED to the program's text (the seventh form; the later family's looks); each row that meets fmt, with fmt's text TOLD by the authors' own Lean function (tested against real Go, not proved from fmt's source: count such statements apart). THE CARD IS WHAT COUNTS. Prove the row's statement (the work); the ties are given (YtillfoacekifbaaDoorTie.lean); close each card by the builder's one call (the guide's Derived/Test/ToyasCard.lean, 'card_holds'). Laid BY PROGRAM, IN A SANDBOX (cutbox-door.mjs). By AI agents, Wed Nov 11 2026. No macro, syntax, notation, axiom, sorry.
-/
import Derived.Test.YtillfoacekifbaaDoorRows
import GoSem.ClaimSeven
namespace Go.Proofs.YtillfoacekifbaaDoor
namespace Rows

/-- THE TIED CARD OF 'tollwaylaw25.CapChecks'. -/
def capChecksCard : Claim7 := { stood := { row := capChecksRow, standIns := [], harness := (true, "ce346a95d3f72d7966ba3a60a85934f14016b8a5aa3e6f7fcf66e0f1eec35e8a"), looks := false }, kinds := [], alts := [], laidByText := true, laidKinds := [.data], laidTests := true, laidLooks := .later }
def CapChecksCardSaid : Prop := Claim7.holds Tryd.pinned (.plain (OpenSpec.ofChange capChecksSpec)) capChecksCard

/-- THE TIED CARD OF 'tollwaylaw25.CapLefts'. -/
def capLeftsCard : Claim7 := { stood := { row := capLeftsRow, standIns := [], harness := (true, "ce346a95d3f72d7966ba3a60a85934f14016b8a5aa3e6f7fcf66e0f1eec35e8a"), looks := false }, kinds := [], alts := [], laidByText := true, laidKinds := [.data], laidTests := true, laidLooks := .later }
def CapLeftsCardSaid : Prop := Claim7.holds Tryd.pinned (.plain (OpenSpec.ofChange capLeftsSpec)) capLeftsCard

/-- THE TIED CARD OF 'tollwaylaw25.CapApplies'. -/
def capAppliesCard : Claim7 := { stood := { row := capAppliesRow, standIns := [], harness := (true, "ce346a95d3f72d7966ba3a60a85934f14016b8a5aa3e6f7fcf66e0f1eec35e8a"), looks := false }, kinds := [], alts := [], laidByText := true, laidKinds := [.data], laidTests := true, laidLooks := .later }
def CapAppliesCardSaid : Prop := Claim7.holds Tryd.pinned (.plain (OpenSpec.ofChange capAppliesSpec)) capAppliesCard

/-- THE TIED CARD OF 'tollwaylaw25.CapMany'. -/
def capManyCard : Claim7 := { stood := { row := capManyRow, standIns := [], harness := (true, "ce346a95d3f72d7966ba3a60a85934f14016b8a5aa3e6f7fcf66e0f1eec35e8a"), looks := false }, kinds := [], alts := [], laidByText := true, laidKinds := [.data], laidTests := true, laidLooks := .later }
def CapManyCardSaid : Prop := Claim7.holds Tryd.pinned (.plain (OpenSpec.ofChange capManySpec)) capManyCard

/-- THE TIED CARD OF 'tollwaylaw25.CapNever'. -/
def capNeverCard : Claim7 := { stood := { row := capNeverRow, standIns := [], harness := (true, "ce346a95d3f72d7966ba3a60a85934f14016b8a5aa3e6f7fcf66e0f1eec35e8a"), looks := false }, kinds := [], alts := [], laidByText := true, laidKinds := [.data], laidTests := true, laidLooks := .later }
def CapNeverCardSaid : Prop := Claim7.holds Tryd.pinned (.plain (OpenSpec.ofChange capNeverSpec)) capNeverCard

/-- THE TIED CARD OF 'tollwaylaw25.CapOrder'. -/
def capOrderCard : Claim7 := { stood := { row := capOrderRow, standIns := [], harness := (true, "ce346a95d3f72d7966ba3a60a85934f14016b8a5aa3e6f7fcf66e0f1eec35e8a"), looks := false }, kinds := [], alts := [], laidByText := true, laidKinds := [.data], laidTests := true, laidLooks := .later }
def CapOrderCardSaid : Prop := Claim7.holds Tryd.pinned (.plain (OpenSpec.ofChange capOrderSpec)) capOrderCard

/-- THE SECOND FORM's CARD OF 'tollwaylaw25.CapChecks'. -/
def capChecksUptoCard : Claim7 := { stood := { row := capChecksUptoRow, standIns := [], harness := (true, "ce346a95d3f72d7966ba3a60a85934f14016b8a5aa3e6f7fcf66e0f1eec35e8a"), looks := false }, kinds := [], alts := [], laidByText := true, laidKinds := [.data], laidTests := true, laidLooks := .later }
def CapChecksUptoCardSaid : Prop := Claim7.holds Tryd.pinned (.plain (OpenSpec.upto capChecksSpec)) capChecksUptoCard

/-- THE SECOND FORM's CARD OF 'tollwaylaw25.CapLefts'. -/
def capLeftsUptoCard : Claim7 := { stood := { row := capLeftsUptoRow, standIns := [], harness := (true, "ce346a95d3f72d7966ba3a60a85934f14016b8a5aa3e6f7fcf66e0f1eec35e8a"), looks := false }, kinds := [], alts := [], laidByText := true, laidKinds := [.data], laidTests := true, laidLooks := .later }
def CapLeftsUptoCardSaid : Prop := Claim7.holds Tryd.pinned (.plain (OpenSpec.upto capLeftsSpec)) capLeftsUptoCard

/-- THE SECOND FORM's CARD OF 'tollwaylaw25.CapApplies'. -/
def capAppliesUptoCard : Claim7 := { stood := { row := capAppliesUptoRow, standIns := [], harness := (true, "ce346a95d3f72d7966ba3a60a85934f14016b8a5aa3e6f7fcf66e0f1eec35e8a"), looks := false }, kinds := [], alts := [], laidByText := true, laidKinds := [.data], laidTests := true, laidLooks := .later }
def CapAppliesUptoCardSaid : Prop := Claim7.holds Tryd.pinned (.plain (OpenSpec.upto capAppliesSpec)) capAppliesUptoCard

/-- THE SECOND FORM's CARD OF 'tollwaylaw25.CapMany'. -/
def capManyUptoCard : Claim7 := { stood := { row := capManyUptoRow, standIns := [], harness := (true, "ce346a95d3f72d7966ba3a60a85934f14016b8a5aa3e6f7fcf66e0f1eec35e8a"), looks := false }, kinds := [], alts := [], laidByText := true, laidKinds := [.data], laidTests := true, laidLooks := .later }
def CapManyUptoCardSaid : Prop := Claim7.holds Tryd.pinned (.plain (OpenSpec.upto capManySpec)) capManyUptoCard

/-- THE SECOND FORM's CARD OF 'tollwaylaw25.CapNever'. -/
def capNeverUptoCard : Claim7 := { stood := { row := capNeverUptoRow, standIns := [], harness := (true, "ce346a95d3f72d7966ba3a60a85934f14016b8a5aa3e6f7fcf66e0f1eec35e8a"), looks := false }, kinds := [], alts := [], laidByText := true, laidKinds := [.data], laidTests := true, laidLooks := .later }
def CapNeverUptoCardSaid : Prop := Claim7.holds Tryd.pinned (.plain (OpenSpec.upto capNeverSpec)) capNeverUptoCard

/-- THE SECOND FORM's CARD OF 'tollwaylaw25.CapOrder'. -/
def capOrderUptoCard : Claim7 := { stood := { row := capOrderUptoRow, standIns := [], harness := (true, "ce346a95d3f72d7966ba3a60a85934f14016b8a5aa3e6f7fcf66e0f1eec35e8a"), looks := false }, kinds := [], alts := [], laidByText := true, laidKinds := [.data], laidTests := true, laidLooks := .later }
def CapOrderUptoCardSaid : Prop := Claim7.holds Tryd.pinned (.plain (OpenSpec.upto capOrderSpec)) capOrderUptoCard
end Rows
end Go.Proofs.YtillfoacekifbaaDoor
