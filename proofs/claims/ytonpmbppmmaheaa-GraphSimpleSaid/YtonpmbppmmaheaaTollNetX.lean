/-
  The chapter's example network.
-/
import Derived.Test.YtonpmbppmmaheaaTollPaths
import Derived.Test.YtonpmbppmmaheaaTollBest
set_option linter.unusedVariables false
set_option linter.unusedSimpArgs false
namespace Go.Toll
open Go Go.Abs

def ptX (c : UInt8) : Pt := ⟨[c], 1, []⟩
def exN : Net := ⟨[ptX 97, ptX 98, ptX 99, ptX 100], [⟨[97], [98], 10, 20⟩, ⟨[98], [100], 10, 20⟩, ⟨[97], [99], 5, 90⟩, ⟨[99], [100], 15, 30⟩, ⟨[100], [97], 1, 1⟩]⟩
theorem ex_err : netErr exN = 0 := by decide +kernel
theorem ex_valid : validN exN = exN := by rw [validN, if_pos ex_err]
theorem ex_okN : NetOk exN := netErr_ok ex_err
theorem ex_find : findPt exN [99] = some (ptX 99) := by rw [findPt, if_pos ex_err]; decide +kernel
theorem ex_best : bestP exN [97] [100] = some ([[97], [98], [100]], 20) := by decide +kernel
theorem ex_b1 : boundsM exN [[97], [99], [100]] = (20, 120, 0) := by decide +kernel
theorem ex_b2 : boundsM exN [[97], [100]] = (0, 0, 21) := by decide +kernel
theorem ex_na : nextL exN [97] = [[98], [99]] := by rw [nextL_eq ex_okN]; decide +kernel
theorem ex_nb : nextL exN [98] = [[100]] := by rw [nextL_eq ex_okN]; decide +kernel
theorem ex_nc : nextL exN [99] = [[100]] := by rw [nextL_eq ex_okN]; decide +kernel
theorem ex_nd : nextL exN [100] = [[97]] := by rw [nextL_eq ex_okN]; decide +kernel
theorem ex_reach : reachL exN [98] = [[97], [98], [99], [100]] := by decide +kernel
theorem ex_c1 : complB exN [[97], [98]] [100] = true := by simp [complB, cplB, cplLev, cplMore, cplAdd, lastT, ex_nb]
theorem ex_c2 : complB exN [[97], [99]] [100] = true := by simp [complB, cplB, cplLev, cplMore, cplAdd, lastT, ex_nc]
theorem ex_c3 : complB exN [[97], [98], [100]] [100] = true := by simp [complB, cplB, cplLev, cplMore, cplAdd, lastT]
theorem ex_c4 : complB exN [[97], [99], [100]] [100] = true := by simp [complB, cplB, cplLev, cplMore, cplAdd, lastT]
theorem ex_paths : pathsM exN [97] [100] = ([[[97], [98], [100]], [[97], [99], [100]]], 0) := by
  have e : extM exN [100] 15 [[97]] [] = [[[97], [98], [100]], [[97], [99], [100]]] := by
    simp [extM, lastT, ex_na, ex_nb, ex_nc, ex_c1, ex_c2, ex_c3, ex_c4]
  have h1 : hasPt exN.pts [97] = true := by decide
  have h2 : hasPt exN.pts [100] = true := by decide
  unfold pathsM
  rw [if_pos ⟨h1, h2⟩, e]
  rfl
end Go.Toll
