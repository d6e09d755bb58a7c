/-
  Contracts: clock, span and their references.
-/
import Derived.Test.YtiidghfioofpkaaGreatTab
import Derived.Test.YtiidghfioofpkaaGreatTollBase
set_option linter.unusedVariables false
set_option linter.unusedSimpArgs false
set_option maxRecDepth 100000
namespace Go.Proofs.YtiidghfioofpkaaGreat
open Go Go.Abs Go.Toll
variable {gl : Globs} {h : AHeap}

theorem ref04_IsTime (t : Int) : ACalls Tryz.prog gl 35 [.int .i64 t] h fun x h' => x = .bool (isTimeB t) ∧ h' = h := by
  refine ACalls.body Tryz.f35 _ mixed Tryz.func35 rfl rfl (by simp [Tryz.ntmps35]) ?_
  simp [isTimeB]
theorem span_Valid (i : Iv) : ACalls Tryz.prog gl 69 [.agg (encIv i)] h fun x h' => x = .bool (validIB i) ∧ h' = h := by
  refine ACalls.data (.bool _) (ACalls.body Tryz.f69 _ mixed Tryz.func69 rfl rfl (by simp [Tryz.ntmps69]) ?_)
  simp [validIB]
theorem ref05_Valid (i : Iv) : ACalls Tryz.prog gl 72 [.agg (encIv i)] h fun x h' => x = .bool (validIB i) ∧ h' = h := by
  refine ACalls.data (.bool _) (ACalls.body Tryz.f72 _ mixed Tryz.func72 rfl rfl (by simp [Tryz.ntmps72]) ?_)
  simp [validIB]
end Go.Proofs.YtiidghfioofpkaaGreat
