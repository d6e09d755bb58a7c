/-
  Contracts: clock, span and their references.
-/
import Derived.Test.YtjdchnbjegddhaaTab
import Derived.Test.YtjdchnbjegddhaaTollBase
set_option linter.unusedVariables false
set_option linter.unusedSimpArgs false
set_option maxRecDepth 100000
namespace Go.Proofs.Ytjdchnbjegddhaa
open Go Go.Abs Go.Toll
variable {gl : Globs} {h : AHeap}

theorem ref04_IsTime (t : Int) : ACalls Try.prog gl 57 [.int .i64 t] h fun x h' => x = .bool (isTimeB t) ∧ h' = h := by
  refine ACalls.body Try.f57 _ mixed Try.func57 rfl rfl (by simp [Try.ntmps57]) ?_
  simp [isTimeB]
end Go.Proofs.Ytjdchnbjegddhaa
