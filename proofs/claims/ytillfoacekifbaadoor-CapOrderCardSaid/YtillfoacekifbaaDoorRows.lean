/-
  NARROWER THAN 'FOR EVERY INPUT', by the rows' own cells (each row's printed sentence says how): CapChecks: laid · CapLefts: laid · CapApplies: laid · CapMany: laid · CapNever: laid · CapOrder: laid.
  DERIVED. THE GIVEN ROWS OF THIS SEAT. 6 by the template 'for every input the law returns true; each argument reads behind the call as it read before'; 0 by the template 'total and deterministic' (their statements: YtillfoacekifbaaDoorTotals.lean).
  GIVEN WITH THE SEED: the statements are not yours to turn. If you find one false, say at which input.
  Laid BY PROGRAM, IN A SANDBOX (cutbox-rows.mjs): the forced cells as the released guide's own fill.sh prints them over the translation baed3367dae82c47… (all of the seat's roots in one cut). By AI agents, Wed Nov 11 2026. No macro, syntax, notation, axiom, sorry.
-/
import Derived.Test.YtillfoacekifbaaDoorChecked
import GoSem.Claim
import GoSem.ClaimJoined
import GoSem.ClaimMapViews
import Derived.JoinedTies
import Derived.KernelRfl
namespace Go.Proofs.YtillfoacekifbaaDoor
/- THE CELL 'sum', in the pinned program and in every row, IS THE sha256 OF THE DUMP (.gsa) THAT YtillfoacekifbaaDoorProg.lean LOADS. Nothing in Lean hashes anything: it is a label: what it is worth is what the hold of that sum in a sandbox is worth. -/
noncomputable def Tryd.pinned : Pinned := { name := "ytillfoacekifbaadoor", sum := "baed3367dae82c47dbfe05d0130847eb54d04364c6f471362bdaa1b6cdc9131e", checked := Tryd.checked }
namespace Rows
def none {H : Type} : Left H := { results := [], args := [] }

/- WHAT THE LISTED PACKAGE-LEVEL VARIABLES READ AS WHEN THE CALL BEGINS. Each datum BY PROGRAM (the guide's laid-datum.mjs) off the statement by which the dump's own 'gosem.cut.vars' lays the variable. In a bare row this is a premise. The card (YtillfoacekifbaaDoorCards.lean) ties it to the program's text. -/
def laid_tollway_clock_months {H : Type} : DataW H := .agg [.lit (.int .i64 31), .lit (.int .i64 28), .lit (.int .i64 31), .lit (.int .i64 30), .lit (.int .i64 31), .lit (.int .i64 30), .lit (.int .i64 31), .lit (.int .i64 31), .lit (.int .i64 30), .lit (.int .i64 31), .lit (.int .i64 30), .lit (.int .i64 31)]

/-- 'tollwaylaw25.CapChecks': WHATEVER THE INPUT: true; the input reads as it did. -/
def capChecksSpec : ChangeSpec := { name := "capChecks", fn := fun _ => fun
  | [d1, d2, d3] => { results := [.lit (.bool true)], args := [d1, d2, d3] }
  | _ => none }
def capChecksRow : OpenClaim := { program := "ytillfoacekifbaadoor", sum := "baed3367dae82c47dbfe05d0130847eb54d04364c6f471362bdaa1b6cdc9131e", func := "tollway/tollwaylaw25.CapChecks", spec := "capChecks", unfollowed := true, recurses := true, named := ["tollway/clock.months"], plainKeys := false, apart := false, laid := [("tollway/clock.months", laid_tollway_clock_months)] }
def CapChecksSaid : Prop := capChecksRow.holds Tryd.pinned (OpenSpec.ofChange capChecksSpec)

/-- ITS FALSE NEIGHBOUR: 'it returns false'. Refute it at one input. -/
def capChecksWrong : ChangeSpec := { name := "capChecks", fn := fun _ => fun
  | [d1, d2, d3] => { results := [.lit (.bool false)], args := [d1, d2, d3] }
  | _ => none }
def CapChecksWrongFalsely : Prop := capChecksRow.holds Tryd.pinned (OpenSpec.ofChange capChecksWrong)

/-- 'tollwaylaw25.CapLefts': WHATEVER THE INPUT: true; the input reads as it did. -/
def capLeftsSpec : ChangeSpec := { name := "capLefts", fn := fun _ => fun
  | [d1, d2, d3] => { results := [.lit (.bool true)], args := [d1, d2, d3] }
  | _ => none }
def capLeftsRow : OpenClaim := { program := "ytillfoacekifbaadoor", sum := "baed3367dae82c47dbfe05d0130847eb54d04364c6f471362bdaa1b6cdc9131e", func := "tollway/tollwaylaw25.CapLefts", spec := "capLefts", unfollowed := true, recurses := true, named := ["tollway/clock.months"], plainKeys := false, apart := false, laid := [("tollway/clock.months", laid_tollway_clock_months)] }
def CapLeftsSaid : Prop := capLeftsRow.holds Tryd.pinned (OpenSpec.ofChange capLeftsSpec)

/-- ITS FALSE NEIGHBOUR: 'it returns false'. Refute it at one input. -/
def capLeftsWrong : ChangeSpec := { name := "capLefts", fn := fun _ => fun
  | [d1, d2, d3] => { results := [.lit (.bool false)], args := [d1, d2, d3] }
  | _ => none }
def CapLeftsWrongFalsely : Prop := capLeftsRow.holds Tryd.pinned (OpenSpec.ofChange capLeftsWrong)

/-- 'tollwaylaw25.CapApplies': WHATEVER THE INPUT: true; the input reads as it did. -/
def capAppliesSpec : ChangeSpec := { name := "capApplies", fn := fun _ => fun
  | [d1, d2] => { results := [.lit (.bool true)], args := [d1, d2] }
  | _ => none }
def capAppliesRow : OpenClaim := { program := "ytillfoacekifbaadoor", sum := "baed3367dae82c47dbfe05d0130847eb54d04364c6f471362bdaa1b6cdc9131e", func := "tollway/tollwaylaw25.CapApplies", spec := "capApplies", unfollowed := true, recurses := true, named := ["tollway/clock.months"], plainKeys := false, apart := false, laid := [("tollway/clock.months", laid_tollway_clock_months)] }
def CapAppliesSaid : Prop := capAppliesRow.holds Tryd.pinned (OpenSpec.ofChange capAppliesSpec)

/-- ITS FALSE NEIGHBOUR: 'it returns false'. Refute it at one input. -/
def capAppliesWrong : ChangeSpec := { name := "capApplies", fn := fun _ => fun
  | [d1, d2] => { results := [.lit (.bool false)], args := [d1, d2] }
  | _ => none }
def CapAppliesWrongFalsely : Prop := capAppliesRow.holds Tryd.pinned (OpenSpec.ofChange capAppliesWrong)

/-- 'tollwaylaw25.CapMany': WHATEVER THE INPUT: true; the input reads as it did. -/
def capManySpec : ChangeSpec := { name := "capMany", fn := fun _ => fun
  | [d1, d2] => { results := [.lit (.bool true)], args := [d1, d2] }
  | _ => none }
def capManyRow : OpenClaim := { program := "ytillfoacekifbaadoor", sum := "baed3367dae82c47dbfe05d0130847eb54d04364c6f471362bdaa1b6cdc9131e", func := "tollway/tollwaylaw25.CapMany", spec := "capMany", unfollowed := true, recurses := true, named := ["tollway/clock.months"], plainKeys := false, apart := false, laid := [("tollway/clock.months", laid_tollway_clock_months)] }
def CapManySaid : Prop := capManyRow.holds Tryd.pinned (OpenSpec.ofChange capManySpec)

/-- ITS FALSE NEIGHBOUR: 'it returns false'. Refute it at one input. -/
def capManyWrong : ChangeSpec := { name := "capMany", fn := fun _ => fun
  | [d1, d2] => { results := [.lit (.bool false)], args := [d1, d2] }
  | _ => none }
def CapManyWrongFalsely : Prop := capManyRow.holds Tryd.pinned (OpenSpec.ofChange capManyWrong)

/-- 'tollwaylaw25.CapNever': WHATEVER THE INPUT: true; the input reads as it did. -/
def capNeverSpec : ChangeSpec := { name := "capNever", fn := fun _ => fun
  | [d1, d2] => { results := [.lit (.bool true)], args := [d1, d2] }
  | _ => none }
def capNeverRow : OpenClaim := { program := "ytillfoacekifbaadoor", sum := "baed3367dae82c47dbfe05d0130847eb54d04364c6f471362bdaa1b6cdc9131e", func := "tollway/tollwaylaw25.CapNever", spec := "capNever", unfollowed := true, recurses := true, named := ["tollway/clock.months"], plainKeys := false, apart := false, laid := [("tollway/clock.months", laid_tollway_clock_months)] }
def CapNeverSaid : Prop := capNeverRow.holds Tryd.pinned (OpenSpec.ofChange capNeverSpec)

/-- ITS FALSE NEIGHBOUR: 'it returns false'. Refute it at one input. -/
def capNeverWrong : ChangeSpec := { name := "capNever", fn := fun _ => fun
  | [d1, d2] => { results := [.lit (.bool false)], args := [d1, d2] }
  | _ => none }
def CapNeverWrongFalsely : Prop := capNeverRow.holds Tryd.pinned (OpenSpec.ofChange capNeverWrong)

/-- 'tollwaylaw25.CapOrder': WHATEVER THE INPUT: true; the input reads as it did. -/
def capOrderSpec : ChangeSpec := { name := "capOrder", fn := fun _ => fun
  | [d1, d2, d3] => { results := [.lit (.bool true)], args := [d1, d2, d3] }
  | _ => none }
def capOrderRow : OpenClaim := { program := "ytillfoacekifbaadoor", sum := "baed3367dae82c47dbfe05d0130847eb54d04364c6f471362bdaa1b6cdc9131e", func := "tollway/tollwaylaw25.CapOrder", spec := "capOrder", unfollowed := true, recurses := true, named := ["tollway/clock.months"], plainKeys := false, apart := false, laid := [("tollway/clock.months", laid_tollway_clock_months)] }
def CapOrderSaid : Prop := capOrderRow.holds Tryd.pinned (OpenSpec.ofChange capOrderSpec)

/-- ITS FALSE NEIGHBOUR: 'it returns false'. Refute it at one input. -/
def capOrderWrong : ChangeSpec := { name := "capOrder", fn := fun _ => fun
  | [d1, d2, d3] => { results := [.lit (.bool false)], args := [d1, d2, d3] }
  | _ => none }
def CapOrderWrongFalsely : Prop := capOrderRow.holds Tryd.pinned (OpenSpec.ofChange capOrderWrong)

/- THE SECOND FORM. 'bulk': how many values and letters a reading holds, each counted each time it is reached (what is shared counts as often as it is met; a slice's spare places count too). A statement '..UptoSaid' is the law's where the arguments, and the package variables that the reading takes, are together of bulk at most 1048576: NARROWER than '..Said'. Prove '..Said' where nothing that the law and all that it calls make is longer than what came in: it says more and counts as full. Else prove '..UptoSaid'. A law counts once. -/
mutual
def uptoBulk {H : Type} : DataW H → Nat
  | .lit (.string bytes) => bytes.length + 1
  | .lit _ => 1
  | .nil => 1
  | .ptr d => uptoBulk d + 1
  | .slice elems spare => uptoBulkAll elems + uptoBulkAll spare + 1
  | .agg parts => uptoBulkAll parts + 1
  | .iface _ d => uptoBulk d + 1
  | .map entries => uptoBulkEntries entries + 1
  | .held _ => 1
def uptoBulkAll {H : Type} : List (DataW H) → Nat
  | [] => 0
  | d :: r => uptoBulk d + uptoBulkAll r
def uptoBulkEntries {H : Type} : List (Lit × DataW H) → Nat
  | [] => 0
  | x :: r => uptoBulkEntry x + uptoBulkEntries r
def uptoBulkEntry {H : Type} : Lit × DataW H → Nat
  | (.string bytes, d) => bytes.length + uptoBulk d + 1
  | (_, d) => uptoBulk d + 1
 end
def uptoSmall : (H : Type) → List (DataW H) → Bool := fun _ ds => decide (uptoBulkAll ds ≤ 1048576)
def OpenSpec.upto (s : _root_.Go.ChangeSpec) : _root_.Go.OpenSpec := { _root_.Go.OpenSpec.ofChange s with cond := some uptoSmall }

/-- 'tollwaylaw25.CapChecks', WHERE WHAT IT READS IS OF BULK AT MOST 1048576: true; the input reads as it did. -/
def capChecksUptoRow : OpenClaim := { program := "ytillfoacekifbaadoor", sum := "baed3367dae82c47dbfe05d0130847eb54d04364c6f471362bdaa1b6cdc9131e", func := "tollway/tollwaylaw25.CapChecks", spec := "capChecks", unfollowed := true, recurses := true, named := ["tollway/clock.months"], plainKeys := false, apart := false, laid := [("tollway/clock.months", laid_tollway_clock_months)], narrowed := true }
def CapChecksUptoSaid : Prop := capChecksUptoRow.holds Tryd.pinned (OpenSpec.upto capChecksSpec)

/-- 'tollwaylaw25.CapLefts', WHERE WHAT IT READS IS OF BULK AT MOST 1048576: true; the input reads as it did. -/
def capLeftsUptoRow : OpenClaim := { program := "ytillfoacekifbaadoor", sum := "baed3367dae82c47dbfe05d0130847eb54d04364c6f471362bdaa1b6cdc9131e", func := "tollway/tollwaylaw25.CapLefts", spec := "capLefts", unfollowed := true, recurses := true, named := ["tollway/clock.months"], plainKeys := false, apart := false, laid := [("tollway/clock.months", laid_tollway_clock_months)], narrowed := true }
def CapLeftsUptoSaid : Prop := capLeftsUptoRow.holds Tryd.pinned (OpenSpec.upto capLeftsSpec)

/-- 'tollwaylaw25.CapApplies', WHERE WHAT IT READS IS OF BULK AT MOST 1048576: true; the input reads as it did. -/
def capAppliesUptoRow : OpenClaim := { program := "ytillfoacekifbaadoor", sum := "baed3367dae82c47dbfe05d0130847eb54d04364c6f471362bdaa1b6cdc9131e", func := "tollway/tollwaylaw25.CapApplies", spec := "capApplies", unfollowed := true, recurses := true, named := ["tollway/clock.months"], plainKeys := false, apart := false, laid := [("tollway/clock.months", laid_tollway_clock_months)], narrowed := true }
def CapAppliesUptoSaid : Prop := capAppliesUptoRow.holds Tryd.pinned (OpenSpec.upto capAppliesSpec)

/-- 'tollwaylaw25.CapMany', WHERE WHAT IT READS IS OF BULK AT MOST 1048576: true; the input reads as it did. -/
def capManyUptoRow : OpenClaim := { program := "ytillfoacekifbaadoor", sum := "baed3367dae82c47dbfe05d0130847eb54d04364c6f471362bdaa1b6cdc9131e", func := "tollway/tollwaylaw25.CapMany", spec := "capMany", unfollowed := true, recurses := true, named := ["tollway/clock.months"], plainKeys := false, apart := false, laid := [("tollway/clock.months", laid_tollway_clock_months)], narrowed := true }
def CapManyUptoSaid : Prop := capManyUptoRow.holds Tryd.pinned (OpenSpec.upto capManySpec)

/-- 'tollwaylaw25.CapNever', WHERE WHAT IT READS IS OF BULK AT MOST 1048576: true; the input reads as it did. -/
def capNeverUptoRow : OpenClaim := { program := "ytillfoacekifbaadoor", sum := "baed3367dae82c47dbfe05d0130847eb54d04364c6f471362bdaa1b6cdc9131e", func := "tollway/tollwaylaw25.CapNever", spec := "capNever", unfollowed := true, recurses := true, named := ["tollway/clock.months"], plainKeys := false, apart := false, laid := [("tollway/clock.months", laid_tollway_clock_months)], narrowed := true }
def CapNeverUptoSaid : Prop := capNeverUptoRow.holds Tryd.pinned (OpenSpec.upto capNeverSpec)

/-- 'tollwaylaw25.CapOrder', WHERE WHAT IT READS IS OF BULK AT MOST 1048576: true; the input reads as it did. -/
def capOrderUptoRow : OpenClaim := { program := "ytillfoacekifbaadoor", sum := "baed3367dae82c47dbfe05d0130847eb54d04364c6f471362bdaa1b6cdc9131e", func := "tollway/tollwaylaw25.CapOrder", spec := "capOrder", unfollowed := true, recurses := true, named := ["tollway/clock.months"], plainKeys := false, apart := false, laid := [("tollway/clock.months", laid_tollway_clock_months)], narrowed := true }
def CapOrderUptoSaid : Prop := capOrderUptoRow.holds Tryd.pinned (OpenSpec.upto capOrderSpec)

end Rows
end Go.Proofs.YtillfoacekifbaaDoor
