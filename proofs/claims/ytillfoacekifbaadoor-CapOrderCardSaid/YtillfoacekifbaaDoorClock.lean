/-
  Contracts: clock, span and their references.
-/
import Derived.Test.YtillfoacekifbaaDoorTab
import Derived.Test.YtillfoacekifbaaDoorTollBase
set_option linter.unusedVariables false
set_option linter.unusedSimpArgs false
set_option maxRecDepth 100000
namespace Go.Proofs.YtillfoacekifbaaDoor
open Go Go.Abs Go.Toll
variable {gl : Globs} {h : AHeap}

theorem clock_isTime (t : Int) : ACalls Tryd.prog gl 40 [.int .i64 t] h fun x h' => x = .bool (isTimeB t) ∧ h' = h := by
  refine ACalls.body Tryd.f40 _ mixed Tryd.func40 rfl rfl (by simp [Tryd.ntmps40]) ?_
  simp [isTimeB]
theorem ref04_IsTime (t : Int) : ACalls Tryd.prog gl 44 [.int .i64 t] h fun x h' => x = .bool (isTimeB t) ∧ h' = h := by
  refine ACalls.body Tryd.f44 _ mixed Tryd.func44 rfl rfl (by simp [Tryd.ntmps44]) ?_
  simp [isTimeB]
end Go.Proofs.YtillfoacekifbaaDoor
