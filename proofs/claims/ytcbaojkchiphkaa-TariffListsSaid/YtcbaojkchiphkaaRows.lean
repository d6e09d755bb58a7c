/-
  No cell of these rows narrows 'for every input' (looked for: loops, veiled, ifaces, maps, wideKeys, modest, calm, conditions, laid).
  DERIVED. THE GIVEN ROWS OF THIS SEAT. 7 by the template 'for every input the law returns true; each argument reads behind the call as it read before'; 0 by the template 'total and deterministic' (their statements: YtcbaojkchiphkaaTotals.lean).
  GIVEN WITH THE SEED: the statements are not yours to turn. If you find one false, say at which input.
  Laid BY PROGRAM, IN A SANDBOX (cutbox-rows.mjs): the forced cells as the released guide's own fill.sh prints them over the translation ee66382c93c9c41b… (all of the seat's roots in one cut). By AI agents, Wed Nov 11 2026. No macro, syntax, notation, axiom, sorry.
-/
import Derived.Test.YtcbaojkchiphkaaChecked
import GoSem.Claim
import GoSem.ClaimJoined
import GoSem.ClaimMapViews
import Derived.JoinedTies
import Derived.KernelRfl
namespace Go.Proofs.Ytcbaojkchiphkaa
/- THE CELL 'sum', in the pinned program and in every row, IS THE sha256 OF THE DUMP (.gsa) THAT YtcbaojkchiphkaaProg.lean LOADS. Nothing in Lean hashes anything: it is a label: what it is worth is what the hold of that sum in a sandbox is worth. -/
noncomputable def Try.pinned : Pinned := { name := "ytcbaojkchiphkaa", sum := "ee66382c93c9c41bdf3a6a9c87eeb04878e2c692df8f78cda834007fb3e093e2", checked := Try.checked }
namespace Rows
def none {H : Type} : Left H := { results := [], args := [] }

/-- 'tollwaylaw22.TariffTimes': WHATEVER THE INPUT: true; the input reads as it did. -/
def tariffTimesSpec : ChangeSpec := { name := "tariffTimes", fn := fun _ => fun
  | [d1, d2, d3] => { results := [.lit (.bool true)], args := [d1, d2, d3] }
  | _ => none }
def tariffTimesRow : OpenClaim := { program := "ytcbaojkchiphkaa", sum := "ee66382c93c9c41bdf3a6a9c87eeb04878e2c692df8f78cda834007fb3e093e2", func := "tollway/tollwaylaw22.TariffTimes", spec := "tariffTimes", inPlace := ["internal/bytealg.abigen_runtime_cmpstring"], unfollowed := true, recurses := true, plainKeys := false, apart := false }
def TariffTimesSaid : Prop := tariffTimesRow.holds Try.pinned (OpenSpec.ofChange tariffTimesSpec)

/-- ITS FALSE NEIGHBOUR: 'it returns false'. Refute it at one input. -/
def tariffTimesWrong : ChangeSpec := { name := "tariffTimes", fn := fun _ => fun
  | [d1, d2, d3] => { results := [.lit (.bool false)], args := [d1, d2, d3] }
  | _ => none }
def TariffTimesWrongFalsely : Prop := tariffTimesRow.holds Try.pinned (OpenSpec.ofChange tariffTimesWrong)

/-- 'tollwaylaw22.TariffRates': WHATEVER THE INPUT: true; the input reads as it did. -/
def tariffRatesSpec : ChangeSpec := { name := "tariffRates", fn := fun _ => fun
  | [d1, d2] => { results := [.lit (.bool true)], args := [d1, d2] }
  | _ => none }
def tariffRatesRow : OpenClaim := { program := "ytcbaojkchiphkaa", sum := "ee66382c93c9c41bdf3a6a9c87eeb04878e2c692df8f78cda834007fb3e093e2", func := "tollway/tollwaylaw22.TariffRates", spec := "tariffRates", inPlace := ["internal/bytealg.abigen_runtime_cmpstring"], unfollowed := true, recurses := true, plainKeys := false, apart := false }
def TariffRatesSaid : Prop := tariffRatesRow.holds Try.pinned (OpenSpec.ofChange tariffRatesSpec)

/-- ITS FALSE NEIGHBOUR: 'it returns false'. Refute it at one input. -/
def tariffRatesWrong : ChangeSpec := { name := "tariffRates", fn := fun _ => fun
  | [d1, d2] => { results := [.lit (.bool false)], args := [d1, d2] }
  | _ => none }
def TariffRatesWrongFalsely : Prop := tariffRatesRow.holds Try.pinned (OpenSpec.ofChange tariffRatesWrong)

/-- 'tollwaylaw22.TariffWeeks': WHATEVER THE INPUT: true; the input reads as it did. -/
def tariffWeeksSpec : ChangeSpec := { name := "tariffWeeks", fn := fun _ => fun
  | [d1, d2, d3] => { results := [.lit (.bool true)], args := [d1, d2, d3] }
  | _ => none }
def tariffWeeksRow : OpenClaim := { program := "ytcbaojkchiphkaa", sum := "ee66382c93c9c41bdf3a6a9c87eeb04878e2c692df8f78cda834007fb3e093e2", func := "tollway/tollwaylaw22.TariffWeeks", spec := "tariffWeeks", inPlace := ["internal/bytealg.abigen_runtime_cmpstring"], unfollowed := true, recurses := true, plainKeys := false, apart := false }
def TariffWeeksSaid : Prop := tariffWeeksRow.holds Try.pinned (OpenSpec.ofChange tariffWeeksSpec)

/-- ITS FALSE NEIGHBOUR: 'it returns false'. Refute it at one input. -/
def tariffWeeksWrong : ChangeSpec := { name := "tariffWeeks", fn := fun _ => fun
  | [d1, d2, d3] => { results := [.lit (.bool false)], args := [d1, d2, d3] }
  | _ => none }
def TariffWeeksWrongFalsely : Prop := tariffWeeksRow.holds Try.pinned (OpenSpec.ofChange tariffWeeksWrong)

/-- 'tollwaylaw22.TariffFallback': WHATEVER THE INPUT: true; the input reads as it did. -/
def tariffFallbackSpec : ChangeSpec := { name := "tariffFallback", fn := fun _ => fun
  | [d1, d2] => { results := [.lit (.bool true)], args := [d1, d2] }
  | _ => none }
def tariffFallbackRow : OpenClaim := { program := "ytcbaojkchiphkaa", sum := "ee66382c93c9c41bdf3a6a9c87eeb04878e2c692df8f78cda834007fb3e093e2", func := "tollway/tollwaylaw22.TariffFallback", spec := "tariffFallback", inPlace := ["internal/bytealg.abigen_runtime_cmpstring"], unfollowed := true, recurses := true, plainKeys := false, apart := false }
def TariffFallbackSaid : Prop := tariffFallbackRow.holds Try.pinned (OpenSpec.ofChange tariffFallbackSpec)

/-- ITS FALSE NEIGHBOUR: 'it returns false'. Refute it at one input. -/
def tariffFallbackWrong : ChangeSpec := { name := "tariffFallback", fn := fun _ => fun
  | [d1, d2] => { results := [.lit (.bool false)], args := [d1, d2] }
  | _ => none }
def TariffFallbackWrongFalsely : Prop := tariffFallbackRow.holds Try.pinned (OpenSpec.ofChange tariffFallbackWrong)

/-- 'tollwaylaw22.TariffChecks': WHATEVER THE INPUT: true; the input reads as it did. -/
def tariffChecksSpec : ChangeSpec := { name := "tariffChecks", fn := fun _ => fun
  | [d1, d2] => { results := [.lit (.bool true)], args := [d1, d2] }
  | _ => none }
def tariffChecksRow : OpenClaim := { program := "ytcbaojkchiphkaa", sum := "ee66382c93c9c41bdf3a6a9c87eeb04878e2c692df8f78cda834007fb3e093e2", func := "tollway/tollwaylaw22.TariffChecks", spec := "tariffChecks", inPlace := ["internal/bytealg.abigen_runtime_cmpstring"], unfollowed := true, recurses := true, plainKeys := false, apart := false }
def TariffChecksSaid : Prop := tariffChecksRow.holds Try.pinned (OpenSpec.ofChange tariffChecksSpec)

/-- ITS FALSE NEIGHBOUR: 'it returns false'. Refute it at one input. -/
def tariffChecksWrong : ChangeSpec := { name := "tariffChecks", fn := fun _ => fun
  | [d1, d2] => { results := [.lit (.bool false)], args := [d1, d2] }
  | _ => none }
def TariffChecksWrongFalsely : Prop := tariffChecksRow.holds Try.pinned (OpenSpec.ofChange tariffChecksWrong)

/-- 'tollwaylaw22.TariffLists': WHATEVER THE INPUT: true; the input reads as it did. -/
def tariffListsSpec : ChangeSpec := { name := "tariffLists", fn := fun _ => fun
  | [d1, d2] => { results := [.lit (.bool true)], args := [d1, d2] }
  | _ => none }
def tariffListsRow : OpenClaim := { program := "ytcbaojkchiphkaa", sum := "ee66382c93c9c41bdf3a6a9c87eeb04878e2c692df8f78cda834007fb3e093e2", func := "tollway/tollwaylaw22.TariffLists", spec := "tariffLists", inPlace := ["internal/bytealg.abigen_runtime_cmpstring"], unfollowed := true, recurses := true, plainKeys := false, apart := false }
def TariffListsSaid : Prop := tariffListsRow.holds Try.pinned (OpenSpec.ofChange tariffListsSpec)

/-- ITS FALSE NEIGHBOUR: 'it returns false'. Refute it at one input. -/
def tariffListsWrong : ChangeSpec := { name := "tariffLists", fn := fun _ => fun
  | [d1, d2] => { results := [.lit (.bool false)], args := [d1, d2] }
  | _ => none }
def TariffListsWrongFalsely : Prop := tariffListsRow.holds Try.pinned (OpenSpec.ofChange tariffListsWrong)

/-- 'tollwaylaw22.TariffOne': WHATEVER THE INPUT: true; the input reads as it did. -/
def tariffOneSpec : ChangeSpec := { name := "tariffOne", fn := fun _ => fun
  | [d1, d2, d3] => { results := [.lit (.bool true)], args := [d1, d2, d3] }
  | _ => none }
def tariffOneRow : OpenClaim := { program := "ytcbaojkchiphkaa", sum := "ee66382c93c9c41bdf3a6a9c87eeb04878e2c692df8f78cda834007fb3e093e2", func := "tollway/tollwaylaw22.TariffOne", spec := "tariffOne", inPlace := ["internal/bytealg.abigen_runtime_cmpstring"], unfollowed := true, recurses := true, plainKeys := false, apart := false }
def TariffOneSaid : Prop := tariffOneRow.holds Try.pinned (OpenSpec.ofChange tariffOneSpec)

/-- ITS FALSE NEIGHBOUR: 'it returns false'. Refute it at one input. -/
def tariffOneWrong : ChangeSpec := { name := "tariffOne", fn := fun _ => fun
  | [d1, d2, d3] => { results := [.lit (.bool false)], args := [d1, d2, d3] }
  | _ => none }
def TariffOneWrongFalsely : Prop := tariffOneRow.holds Try.pinned (OpenSpec.ofChange tariffOneWrong)

/- THE SECOND FORM. 'bulk': how many values and letters a reading holds, each counted each time it is reached (what is shared counts as often as it is met; a slice's spare places count too). A statement '..UptoSaid' is the law's where the arguments, and the package variables that the reading takes, are together of bulk at most 1048576: NARROWER than '..Said'. Prove '..Said' where nothing that the law and all that it calls make is longer than what came in: it says more and counts as full. Else prove '..UptoSaid'. A law counts once. -/
mutual
def uptoBulk {H : Type} : DataW H → Nat
  | .lit (.string bytes) => bytes.length + 1
  | .lit _ => 1
  | .nil => 1
  | .ptr d => uptoBulk d + 1
  | .slice elems spare => uptoBulkAll elems + uptoBulkAll spare + 1
  | .agg parts => uptoBulkAll parts + 1
  | .iface _ d => uptoBulk d + 1
  | .map entries => uptoBulkEntries entries + 1
  | .held _ => 1
def uptoBulkAll {H : Type} : List (DataW H) → Nat
  | [] => 0
  | d :: r => uptoBulk d + uptoBulkAll r
def uptoBulkEntries {H : Type} : List (Lit × DataW H) → Nat
  | [] => 0
  | x :: r => uptoBulkEntry x + uptoBulkEntries r
def uptoBulkEntry {H : Type} : Lit × DataW H → Nat
  | (.string bytes, d) => bytes.length + uptoBulk d + 1
  | (_, d) => uptoBulk d + 1
 end
def uptoSmall : (H : Type) → List (DataW H) → Bool := fun _ ds => decide (uptoBulkAll ds ≤ 1048576)
def OpenSpec.upto (s : _root_.Go.ChangeSpec) : _root_.Go.OpenSpec := { _root_.Go.OpenSpec.ofChange s with cond := some uptoSmall }

/-- 'tollwaylaw22.TariffTimes', WHERE WHAT IT READS IS OF BULK AT MOST 1048576: true; the input reads as it did. -/
def tariffTimesUptoRow : OpenClaim := { program := "ytcbaojkchiphkaa", sum := "ee66382c93c9c41bdf3a6a9c87eeb04878e2c692df8f78cda834007fb3e093e2", func := "tollway/tollwaylaw22.TariffTimes", spec := "tariffTimes", inPlace := ["internal/bytealg.abigen_runtime_cmpstring"], unfollowed := true, recurses := true, plainKeys := false, apart := false, narrowed := true }
def TariffTimesUptoSaid : Prop := tariffTimesUptoRow.holds Try.pinned (OpenSpec.upto tariffTimesSpec)

/-- 'tollwaylaw22.TariffRates', WHERE WHAT IT READS IS OF BULK AT MOST 1048576: true; the input reads as it did. -/
def tariffRatesUptoRow : OpenClaim := { program := "ytcbaojkchiphkaa", sum := "ee66382c93c9c41bdf3a6a9c87eeb04878e2c692df8f78cda834007fb3e093e2", func := "tollway/tollwaylaw22.TariffRates", spec := "tariffRates", inPlace := ["internal/bytealg.abigen_runtime_cmpstring"], unfollowed := true, recurses := true, plainKeys := false, apart := false, narrowed := true }
def TariffRatesUptoSaid : Prop := tariffRatesUptoRow.holds Try.pinned (OpenSpec.upto tariffRatesSpec)

/-- 'tollwaylaw22.TariffWeeks', WHERE WHAT IT READS IS OF BULK AT MOST 1048576: true; the input reads as it did. -/
def tariffWeeksUptoRow : OpenClaim := { program := "ytcbaojkchiphkaa", sum := "ee66382c93c9c41bdf3a6a9c87eeb04878e2c692df8f78cda834007fb3e093e2", func := "tollway/tollwaylaw22.TariffWeeks", spec := "tariffWeeks", inPlace := ["internal/bytealg.abigen_runtime_cmpstring"], unfollowed := true, recurses := true, plainKeys := false, apart := false, narrowed := true }
def TariffWeeksUptoSaid : Prop := tariffWeeksUptoRow.holds Try.pinned (OpenSpec.upto tariffWeeksSpec)

/-- 'tollwaylaw22.TariffFallback', WHERE WHAT IT READS IS OF BULK AT MOST 1048576: true; the input reads as it did. -/
def tariffFallbackUptoRow : OpenClaim := { program := "ytcbaojkchiphkaa", sum := "ee66382c93c9c41bdf3a6a9c87eeb04878e2c692df8f78cda834007fb3e093e2", func := "tollway/tollwaylaw22.TariffFallback", spec := "tariffFallback", inPlace := ["internal/bytealg.abigen_runtime_cmpstring"], unfollowed := true, recurses := true, plainKeys := false, apart := false, narrowed := true }
def TariffFallbackUptoSaid : Prop := tariffFallbackUptoRow.holds Try.pinned (OpenSpec.upto tariffFallbackSpec)

/-- 'tollwaylaw22.TariffChecks', WHERE WHAT IT READS IS OF BULK AT MOST 1048576: true; the input reads as it did. -/
def tariffChecksUptoRow : OpenClaim := { program := "ytcbaojkchiphkaa", sum := "ee66382c93c9c41bdf3a6a9c87eeb04878e2c692df8f78cda834007fb3e093e2", func := "tollway/tollwaylaw22.TariffChecks", spec := "tariffChecks", inPlace := ["internal/bytealg.abigen_runtime_cmpstring"], unfollowed := true, recurses := true, plainKeys := false, apart := false, narrowed := true }
def TariffChecksUptoSaid : Prop := tariffChecksUptoRow.holds Try.pinned (OpenSpec.upto tariffChecksSpec)

/-- 'tollwaylaw22.TariffLists', WHERE WHAT IT READS IS OF BULK AT MOST 1048576: true; the input reads as it did. -/
def tariffListsUptoRow : OpenClaim := { program := "ytcbaojkchiphkaa", sum := "ee66382c93c9c41bdf3a6a9c87eeb04878e2c692df8f78cda834007fb3e093e2", func := "tollway/tollwaylaw22.TariffLists", spec := "tariffLists", inPlace := ["internal/bytealg.abigen_runtime_cmpstring"], unfollowed := true, recurses := true, plainKeys := false, apart := false, narrowed := true }
def TariffListsUptoSaid : Prop := tariffListsUptoRow.holds Try.pinned (OpenSpec.upto tariffListsSpec)

/-- 'tollwaylaw22.TariffOne', WHERE WHAT IT READS IS OF BULK AT MOST 1048576: true; the input reads as it did. -/
def tariffOneUptoRow : OpenClaim := { program := "ytcbaojkchiphkaa", sum := "ee66382c93c9c41bdf3a6a9c87eeb04878e2c692df8f78cda834007fb3e093e2", func := "tollway/tollwaylaw22.TariffOne", spec := "tariffOne", inPlace := ["internal/bytealg.abigen_runtime_cmpstring"], unfollowed := true, recurses := true, plainKeys := false, apart := false, narrowed := true }
def TariffOneUptoSaid : Prop := tariffOneUptoRow.holds Try.pinned (OpenSpec.upto tariffOneSpec)

end Rows
end Go.Proofs.Ytcbaojkchiphkaa
