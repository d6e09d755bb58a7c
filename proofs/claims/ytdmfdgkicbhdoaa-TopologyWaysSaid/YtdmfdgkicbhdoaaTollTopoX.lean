/-
  The example topology.
-/
import Derived.Test.YtdmfdgkicbhdoaaTollMove
set_option linter.unusedVariables false
set_option linter.unusedSimpArgs false
namespace Go.Toll
open Go Go.Abs

def exT : Topo := ⟨⟨[⟨[97], 1, [115]⟩, ⟨[98], 1, [115]⟩], [⟨[97], [98], 30, 90⟩]⟩, [⟨[115], false, 0⟩]⟩
def atP (p : Bytes) (t : Int) : TPass := ⟨[], p, t, [], [], 0, 0, []⟩
theorem exT_err : topoErr exT = 0 := by decide +kernel
theorem exT_valid : validT exT = exT := by rw [validT, if_pos exT_err]
theorem exT_ok : NetOk exT.net := by have := okT exT; rwa [exT_valid] at this
theorem exT_na : nextL exT.net [97] = [[98]] := by rw [nextL_eq exT_ok]; decide +kernel
theorem exT_nb : nextL exT.net [98] = [] := by rw [nextL_eq exT_ok]; decide +kernel
theorem exT_c1 : complB exT.net [[97], [98]] [98] = true := by simp [complB, cplB, lastT]
theorem exT_ab : pathsM exT.net [97] [98] = ([[[97], [98]]], 0) := by
  have e : extM exT.net [98] 15 [[97]] [] = [[[97], [98]]] := by simp [extM, lastT, exT_na, exT_c1]
  have h1 : hasPt exT.net.pts [97] = true := by decide
  have h2 : hasPt exT.net.pts [98] = true := by decide
  unfold pathsM
  rw [if_pos ⟨h1, h2⟩, e]
  rfl
theorem exT_ba : pathsM exT.net [98] [97] = ([], 0) := by
  have e : extM exT.net [97] 15 [[98]] [] = [] := by simp [extM, lastT, exT_nb]
  have h1 : hasPt exT.net.pts [98] = true := by decide
  have h2 : hasPt exT.net.pts [97] = true := by decide
  unfold pathsM
  rw [if_pos ⟨h1, h2⟩, e]
  rfl
theorem exT_r1 : routeM exT.net [97] [98] 100 130 = ([[[97], [98]]], 0) := by
  unfold routeM routeL; rw [exT_ab]; decide +kernel
theorem exT_r2 : routeM exT.net [97] [98] 100 129 = ([], 21) := by
  unfold routeM routeL; rw [exT_ab]; decide +kernel
theorem exT_r3 : routeM exT.net [97] [98] 100 191 = ([], 21) := by
  unfold routeM routeL; rw [exT_ab]; decide +kernel
theorem exT_r4 : routeM exT.net [98] [97] 100 400 = ([], 21) := by
  unfold routeM routeL; rw [exT_ba]; decide +kernel
theorem exT_f1 : feasM exT.net [97] [98] 100 130 = true := by decide +kernel
theorem exT_f2 : feasM exT.net [97] [98] 100 129 = false := by decide +kernel
theorem exT_f3 : feasM exT.net [97] [98] 100 191 = true := by decide +kernel
theorem exT_f4 : feasM exT.net [98] [97] 100 399 = false := by decide +kernel
theorem exT_f5 : feasM exT.net [98] [97] 100 400 = true := by decide +kernel
theorem exT_f6 : feasM exT.net [97] [97] 100 160 = true := by decide +kernel
theorem exT_f7 : feasM exT.net [97] [97] 100 159 = false := by decide +kernel
theorem exT_p : pointsM exT.net [115] 1 = [[97], [98]] := by rw [← pointsM_ins exT_ok]; decide +kernel
theorem exT_k1 : coversM exT [[97], [98]] [115] = true := by unfold coversM; rw [exT_valid]; decide +kernel
theorem exT_k2 : coversM exT [] [115] = false := by unfold coversM; simp
end Go.Toll
