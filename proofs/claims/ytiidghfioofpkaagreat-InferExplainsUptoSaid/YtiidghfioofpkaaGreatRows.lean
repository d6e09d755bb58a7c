/-
  No cell of these rows narrows 'for every input' (looked for: loops, veiled, ifaces, maps, wideKeys, modest, calm, conditions, laid).
  DERIVED. THE GIVEN ROWS OF THIS SEAT. 7 by the template 'for every input the law returns true; each argument reads behind the call as it read before'; 0 by the template 'total and deterministic' (their statements: YtiidghfioofpkaaGreatTotals.lean).
  GIVEN WITH THE SEED: the statements are not yours to turn. If you find one false, say at which input.
  Laid BY PROGRAM, IN A SANDBOX (cutbox-rows.mjs): the forced cells as the released guide's own fill.sh prints them over the translation dae80012d08c2216… (all of the seat's roots in one cut). By AI agents, Wed Nov 11 2026. No macro, syntax, notation, axiom, sorry.
-/
import Derived.Test.YtiidghfioofpkaaGreatChecked
import GoSem.Claim
import GoSem.ClaimJoined
import GoSem.ClaimMapViews
import Derived.JoinedTies
import Derived.KernelRfl
namespace Go.Proofs.YtiidghfioofpkaaGreat
/- THE CELL 'sum', in the pinned program and in every row, IS THE sha256 OF THE DUMP (.gsa) THAT YtiidghfioofpkaaGreatProg.lean LOADS. Nothing in Lean hashes anything: it is a label: what it is worth is what the hold of that sum in a sandbox is worth. -/
noncomputable def Tryz.pinned : Pinned := { name := "ytiidghfioofpkaagreat", sum := "dae80012d08c221612976e10f589c33e6555faee61473d13cfb424435499d20b", checked := Tryz.checked }
namespace Rows
def none {H : Type} : Left H := { results := [], args := [] }

/-- 'tollwaylaw20.InferMissing': WHATEVER THE INPUT: true; the input reads as it did. -/
def inferMissingSpec : ChangeSpec := { name := "inferMissing", fn := fun _ => fun
  | [d1, d2, d3] => { results := [.lit (.bool true)], args := [d1, d2, d3] }
  | _ => none }
def inferMissingRow : OpenClaim := { program := "ytiidghfioofpkaagreat", sum := "dae80012d08c221612976e10f589c33e6555faee61473d13cfb424435499d20b", func := "tollway/tollwaylaw20.InferMissing", spec := "inferMissing", inPlace := ["internal/bytealg.abigen_runtime_cmpstring"], unfollowed := true, recurses := true, named := ["math/bits.divideError", "math/bits.overflowError"], plainKeys := false, apart := false }
def InferMissingSaid : Prop := inferMissingRow.holds Tryz.pinned (OpenSpec.ofChange inferMissingSpec)

/-- ITS FALSE NEIGHBOUR: 'it returns false'. Refute it at one input. -/
def inferMissingWrong : ChangeSpec := { name := "inferMissing", fn := fun _ => fun
  | [d1, d2, d3] => { results := [.lit (.bool false)], args := [d1, d2, d3] }
  | _ => none }
def InferMissingWrongFalsely : Prop := inferMissingRow.holds Tryz.pinned (OpenSpec.ofChange inferMissingWrong)

/-- 'tollwaylaw20.InferTimes': WHATEVER THE INPUT: true; the input reads as it did. -/
def inferTimesSpec : ChangeSpec := { name := "inferTimes", fn := fun _ => fun
  | [d1, d2] => { results := [.lit (.bool true)], args := [d1, d2] }
  | _ => none }
def inferTimesRow : OpenClaim := { program := "ytiidghfioofpkaagreat", sum := "dae80012d08c221612976e10f589c33e6555faee61473d13cfb424435499d20b", func := "tollway/tollwaylaw20.InferTimes", spec := "inferTimes", inPlace := ["internal/bytealg.abigen_runtime_cmpstring"], unfollowed := true, recurses := true, named := ["math/bits.divideError", "math/bits.overflowError"], plainKeys := false, apart := false }
def InferTimesSaid : Prop := inferTimesRow.holds Tryz.pinned (OpenSpec.ofChange inferTimesSpec)

/-- ITS FALSE NEIGHBOUR: 'it returns false'. Refute it at one input. -/
def inferTimesWrong : ChangeSpec := { name := "inferTimes", fn := fun _ => fun
  | [d1, d2] => { results := [.lit (.bool false)], args := [d1, d2] }
  | _ => none }
def InferTimesWrongFalsely : Prop := inferTimesRow.holds Tryz.pinned (OpenSpec.ofChange inferTimesWrong)

/-- 'tollwaylaw20.InferStops': WHATEVER THE INPUT: true; the input reads as it did. -/
def inferStopsSpec : ChangeSpec := { name := "inferStops", fn := fun _ => fun
  | [d1, d2] => { results := [.lit (.bool true)], args := [d1, d2] }
  | _ => none }
def inferStopsRow : OpenClaim := { program := "ytiidghfioofpkaagreat", sum := "dae80012d08c221612976e10f589c33e6555faee61473d13cfb424435499d20b", func := "tollway/tollwaylaw20.InferStops", spec := "inferStops", inPlace := ["internal/bytealg.abigen_runtime_cmpstring"], unfollowed := true, recurses := true, named := ["math/bits.divideError", "math/bits.overflowError"], plainKeys := false, apart := false }
def InferStopsSaid : Prop := inferStopsRow.holds Tryz.pinned (OpenSpec.ofChange inferStopsSpec)

/-- ITS FALSE NEIGHBOUR: 'it returns false'. Refute it at one input. -/
def inferStopsWrong : ChangeSpec := { name := "inferStops", fn := fun _ => fun
  | [d1, d2] => { results := [.lit (.bool false)], args := [d1, d2] }
  | _ => none }
def InferStopsWrongFalsely : Prop := inferStopsRow.holds Tryz.pinned (OpenSpec.ofChange inferStopsWrong)

/-- 'tollwaylaw20.InferExplains': WHATEVER THE INPUT: true; the input reads as it did. -/
def inferExplainsSpec : ChangeSpec := { name := "inferExplains", fn := fun _ => fun
  | [d1, d2, d3] => { results := [.lit (.bool true)], args := [d1, d2, d3] }
  | _ => none }
def inferExplainsRow : OpenClaim := { program := "ytiidghfioofpkaagreat", sum := "dae80012d08c221612976e10f589c33e6555faee61473d13cfb424435499d20b", func := "tollway/tollwaylaw20.InferExplains", spec := "inferExplains", inPlace := ["internal/bytealg.abigen_runtime_cmpstring"], unfollowed := true, recurses := true, named := ["math/bits.divideError", "math/bits.overflowError"], plainKeys := false, apart := false }
def InferExplainsSaid : Prop := inferExplainsRow.holds Tryz.pinned (OpenSpec.ofChange inferExplainsSpec)

/-- ITS FALSE NEIGHBOUR: 'it returns false'. Refute it at one input. -/
def inferExplainsWrong : ChangeSpec := { name := "inferExplains", fn := fun _ => fun
  | [d1, d2, d3] => { results := [.lit (.bool false)], args := [d1, d2, d3] }
  | _ => none }
def InferExplainsWrongFalsely : Prop := inferExplainsRow.holds Tryz.pinned (OpenSpec.ofChange inferExplainsWrong)

/-- 'tollwaylaw20.InferRises': WHATEVER THE INPUT: true; the input reads as it did. -/
def inferRisesSpec : ChangeSpec := { name := "inferRises", fn := fun _ => fun
  | [d1, d2] => { results := [.lit (.bool true)], args := [d1, d2] }
  | _ => none }
def inferRisesRow : OpenClaim := { program := "ytiidghfioofpkaagreat", sum := "dae80012d08c221612976e10f589c33e6555faee61473d13cfb424435499d20b", func := "tollway/tollwaylaw20.InferRises", spec := "inferRises", inPlace := ["internal/bytealg.abigen_runtime_cmpstring"], unfollowed := true, recurses := true, named := ["math/bits.divideError", "math/bits.overflowError"], plainKeys := false, apart := false }
def InferRisesSaid : Prop := inferRisesRow.holds Tryz.pinned (OpenSpec.ofChange inferRisesSpec)

/-- ITS FALSE NEIGHBOUR: 'it returns false'. Refute it at one input. -/
def inferRisesWrong : ChangeSpec := { name := "inferRises", fn := fun _ => fun
  | [d1, d2] => { results := [.lit (.bool false)], args := [d1, d2] }
  | _ => none }
def InferRisesWrongFalsely : Prop := inferRisesRow.holds Tryz.pinned (OpenSpec.ofChange inferRisesWrong)

/-- 'tollwaylaw20.InferWhole': WHATEVER THE INPUT: true; the input reads as it did. -/
def inferWholeSpec : ChangeSpec := { name := "inferWhole", fn := fun _ => fun
  | [d1, d2] => { results := [.lit (.bool true)], args := [d1, d2] }
  | _ => none }
def inferWholeRow : OpenClaim := { program := "ytiidghfioofpkaagreat", sum := "dae80012d08c221612976e10f589c33e6555faee61473d13cfb424435499d20b", func := "tollway/tollwaylaw20.InferWhole", spec := "inferWhole", inPlace := ["internal/bytealg.abigen_runtime_cmpstring"], unfollowed := true, recurses := true, named := ["math/bits.divideError", "math/bits.overflowError"], plainKeys := false, apart := false }
def InferWholeSaid : Prop := inferWholeRow.holds Tryz.pinned (OpenSpec.ofChange inferWholeSpec)

/-- ITS FALSE NEIGHBOUR: 'it returns false'. Refute it at one input. -/
def inferWholeWrong : ChangeSpec := { name := "inferWhole", fn := fun _ => fun
  | [d1, d2] => { results := [.lit (.bool false)], args := [d1, d2] }
  | _ => none }
def InferWholeWrongFalsely : Prop := inferWholeRow.holds Tryz.pinned (OpenSpec.ofChange inferWholeWrong)

/-- 'tollwaylaw20.InferOnly': WHATEVER THE INPUT: true; the input reads as it did. -/
def inferOnlySpec : ChangeSpec := { name := "inferOnly", fn := fun _ => fun
  | [d1, d2, d3] => { results := [.lit (.bool true)], args := [d1, d2, d3] }
  | _ => none }
def inferOnlyRow : OpenClaim := { program := "ytiidghfioofpkaagreat", sum := "dae80012d08c221612976e10f589c33e6555faee61473d13cfb424435499d20b", func := "tollway/tollwaylaw20.InferOnly", spec := "inferOnly", inPlace := ["internal/bytealg.abigen_runtime_cmpstring"], unfollowed := true, recurses := true, named := ["math/bits.divideError", "math/bits.overflowError"], plainKeys := false, apart := false }
def InferOnlySaid : Prop := inferOnlyRow.holds Tryz.pinned (OpenSpec.ofChange inferOnlySpec)

/-- ITS FALSE NEIGHBOUR: 'it returns false'. Refute it at one input. -/
def inferOnlyWrong : ChangeSpec := { name := "inferOnly", fn := fun _ => fun
  | [d1, d2, d3] => { results := [.lit (.bool false)], args := [d1, d2, d3] }
  | _ => none }
def InferOnlyWrongFalsely : Prop := inferOnlyRow.holds Tryz.pinned (OpenSpec.ofChange inferOnlyWrong)

/- THE SECOND FORM. 'bulk': how many values and letters a reading holds, each counted each time it is reached (what is shared counts as often as it is met; a slice's spare places count too). A statement '..UptoSaid' is the law's where the arguments, and the package variables that the reading takes, are together of bulk at most 1048576: NARROWER than '..Said'. Prove '..Said' where nothing that the law and all that it calls make is longer than what came in: it says more and counts as full. Else prove '..UptoSaid'. A law counts once. -/
mutual
def uptoBulk {H : Type} : DataW H → Nat
  | .lit (.string bytes) => bytes.length + 1
  | .lit _ => 1
  | .nil => 1
  | .ptr d => uptoBulk d + 1
  | .slice elems spare => uptoBulkAll elems + uptoBulkAll spare + 1
  | .agg parts => uptoBulkAll parts + 1
  | .iface _ d => uptoBulk d + 1
  | .map entries => uptoBulkEntries entries + 1
  | .held _ => 1
def uptoBulkAll {H : Type} : List (DataW H) → Nat
  | [] => 0
  | d :: r => uptoBulk d + uptoBulkAll r
def uptoBulkEntries {H : Type} : List (Lit × DataW H) → Nat
  | [] => 0
  | x :: r => uptoBulkEntry x + uptoBulkEntries r
def uptoBulkEntry {H : Type} : Lit × DataW H → Nat
  | (.string bytes, d) => bytes.length + uptoBulk d + 1
  | (_, d) => uptoBulk d + 1
 end
def uptoSmall : (H : Type) → List (DataW H) → Bool := fun _ ds => decide (uptoBulkAll ds ≤ 1048576)
def OpenSpec.upto (s : _root_.Go.ChangeSpec) : _root_.Go.OpenSpec := { _root_.Go.OpenSpec.ofChange s with cond := some uptoSmall }

/-- 'tollwaylaw20.InferMissing', WHERE WHAT IT READS IS OF BULK AT MOST 1048576: true; the input reads as it did. -/
def inferMissingUptoRow : OpenClaim := { program := "ytiidghfioofpkaagreat", sum := "dae80012d08c221612976e10f589c33e6555faee61473d13cfb424435499d20b", func := "tollway/tollwaylaw20.InferMissing", spec := "inferMissing", inPlace := ["internal/bytealg.abigen_runtime_cmpstring"], unfollowed := true, recurses := true, named := ["math/bits.divideError", "math/bits.overflowError"], plainKeys := false, apart := false, narrowed := true }
def InferMissingUptoSaid : Prop := inferMissingUptoRow.holds Tryz.pinned (OpenSpec.upto inferMissingSpec)

/-- 'tollwaylaw20.InferTimes', WHERE WHAT IT READS IS OF BULK AT MOST 1048576: true; the input reads as it did. -/
def inferTimesUptoRow : OpenClaim := { program := "ytiidghfioofpkaagreat", sum := "dae80012d08c221612976e10f589c33e6555faee61473d13cfb424435499d20b", func := "tollway/tollwaylaw20.InferTimes", spec := "inferTimes", inPlace := ["internal/bytealg.abigen_runtime_cmpstring"], unfollowed := true, recurses := true, named := ["math/bits.divideError", "math/bits.overflowError"], plainKeys := false, apart := false, narrowed := true }
def InferTimesUptoSaid : Prop := inferTimesUptoRow.holds Tryz.pinned (OpenSpec.upto inferTimesSpec)

/-- 'tollwaylaw20.InferStops', WHERE WHAT IT READS IS OF BULK AT MOST 1048576: true; the input reads as it did. -/
def inferStopsUptoRow : OpenClaim := { program := "ytiidghfioofpkaagreat", sum := "dae80012d08c221612976e10f589c33e6555faee61473d13cfb424435499d20b", func := "tollway/tollwaylaw20.InferStops", spec := "inferStops", inPlace := ["internal/bytealg.abigen_runtime_cmpstring"], unfollowed := true, recurses := true, named := ["math/bits.divideError", "math/bits.overflowError"], plainKeys := false, apart := false, narrowed := true }
def InferStopsUptoSaid : Prop := inferStopsUptoRow.holds Tryz.pinned (OpenSpec.upto inferStopsSpec)

/-- 'tollwaylaw20.InferExplains', WHERE WHAT IT READS IS OF BULK AT MOST 1048576: true; the input reads as it did. -/
def inferExplainsUptoRow : OpenClaim := { program := "ytiidghfioofpkaagreat", sum := "dae80012d08c221612976e10f589c33e6555faee61473d13cfb424435499d20b", func := "tollway/tollwaylaw20.InferExplains", spec := "inferExplains", inPlace := ["internal/bytealg.abigen_runtime_cmpstring"], unfollowed := true, recurses := true, named := ["math/bits.divideError", "math/bits.overflowError"], plainKeys := false, apart := false, narrowed := true }
def InferExplainsUptoSaid : Prop := inferExplainsUptoRow.holds Tryz.pinned (OpenSpec.upto inferExplainsSpec)

/-- 'tollwaylaw20.InferRises', WHERE WHAT IT READS IS OF BULK AT MOST 1048576: true; the input reads as it did. -/
def inferRisesUptoRow : OpenClaim := { program := "ytiidghfioofpkaagreat", sum := "dae80012d08c221612976e10f589c33e6555faee61473d13cfb424435499d20b", func := "tollway/tollwaylaw20.InferRises", spec := "inferRises", inPlace := ["internal/bytealg.abigen_runtime_cmpstring"], unfollowed := true, recurses := true, named := ["math/bits.divideError", "math/bits.overflowError"], plainKeys := false, apart := false, narrowed := true }
def InferRisesUptoSaid : Prop := inferRisesUptoRow.holds Tryz.pinned (OpenSpec.upto inferRisesSpec)

/-- 'tollwaylaw20.InferWhole', WHERE WHAT IT READS IS OF BULK AT MOST 1048576: true; the input reads as it did. -/
def inferWholeUptoRow : OpenClaim := { program := "ytiidghfioofpkaagreat", sum := "dae80012d08c221612976e10f589c33e6555faee61473d13cfb424435499d20b", func := "tollway/tollwaylaw20.InferWhole", spec := "inferWhole", inPlace := ["internal/bytealg.abigen_runtime_cmpstring"], unfollowed := true, recurses := true, named := ["math/bits.divideError", "math/bits.overflowError"], plainKeys := false, apart := false, narrowed := true }
def InferWholeUptoSaid : Prop := inferWholeUptoRow.holds Tryz.pinned (OpenSpec.upto inferWholeSpec)

/-- 'tollwaylaw20.InferOnly', WHERE WHAT IT READS IS OF BULK AT MOST 1048576: true; the input reads as it did. -/
def inferOnlyUptoRow : OpenClaim := { program := "ytiidghfioofpkaagreat", sum := "dae80012d08c221612976e10f589c33e6555faee61473d13cfb424435499d20b", func := "tollway/tollwaylaw20.InferOnly", spec := "inferOnly", inPlace := ["internal/bytealg.abigen_runtime_cmpstring"], unfollowed := true, recurses := true, named := ["math/bits.divideError", "math/bits.overflowError"], plainKeys := false, apart := false, narrowed := true }
def InferOnlyUptoSaid : Prop := inferOnlyUptoRow.holds Tryz.pinned (OpenSpec.upto inferOnlySpec)

end Rows
end Go.Proofs.YtiidghfioofpkaaGreat
