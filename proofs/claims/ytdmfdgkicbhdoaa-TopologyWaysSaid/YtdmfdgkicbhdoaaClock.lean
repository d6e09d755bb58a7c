/-
  Contracts: clock, span and their references.
-/
import Derived.Test.YtdmfdgkicbhdoaaTab
import Derived.Test.YtdmfdgkicbhdoaaTollBase
set_option linter.unusedVariables false
set_option linter.unusedSimpArgs false
set_option maxRecDepth 100000
namespace Go.Proofs.Ytdmfdgkicbhdoaa
open Go Go.Abs Go.Toll
variable {gl : Globs} {h : AHeap}

theorem ref04_IsTime (t : Int) : ACalls Try.prog gl 65 [.int .i64 t] h fun x h' => x = .bool (isTimeB t) ∧ h' = h := by
  refine ACalls.body Try.f65 _ mixed Try.func65 rfl rfl (by simp [Try.ntmps65]) ?_
  simp [isTimeB]
end Go.Proofs.Ytdmfdgkicbhdoaa
