/-
  Contracts: the chapter's examples.
-/
import Derived.Test.YtonpmbppmmaheaaLaw07A
import Derived.Test.YtonpmbppmmaheaaGrC
import Derived.Test.YtonpmbppmmaheaaAbsLax
set_option linter.unusedVariables false
set_option linter.unusedSimpArgs false
set_option maxRecDepth 100000
namespace Go.Proofs.Ytonpmbppmmaheaa
open Go Go.Abs Go.Toll
variable {gl : Globs} {h : AHeap}

def tA : Bytes := [97]
def tB : Bytes := [98]
def tC : Bytes := [99]
def tD : Bytes := [100]
set_option maxHeartbeats 8000000 in
theorem law_awake : ACalls Try.prog gl 12 [] h fun v h' => v = .bool true ∧ h' = h := by
  refine ACalls.data (.bool _) (ACalls.body Try.f12 _ mixed Try.func12 rfl rfl (by simp [Try.ntmps12]) ?_)
  have hp : exN.pts.length ≤ 1000 := by decide
  have hl : exN.lks.length ≤ 1000 := by decide
  have c1 := fun H : AHeap => graph_Find (gl := gl) (h := H) exN [99] hp hl
  have c2 := fun H : AHeap => graph_Shortest (gl := gl) (h := H) exN [97] [100] hp hl
  have c3 := fun H : AHeap => graph_Paths (gl := gl) (h := H) exN [97] [100] hp hl
  have c4 := fun H : AHeap => graph_Bounds (gl := gl) (h := H) exN [[97], [99], [100]] hp hl (by simp)
  have c5 := fun H : AHeap => graph_Bounds (gl := gl) (h := H) exN [[97], [100]] hp hl (by simp)
  have c6 := fun H : AHeap => graph_Check (gl := gl) (h := H) exN hp hl
  have c7 := fun H : AHeap => graph_Next (gl := gl) (h := H) exN [97] hp hl
  have c8 := fun H : AHeap => graph_Reaches (gl := gl) (h := H) exN [98] hp hl
  simp only [ex_valid, ex_find, bestV, ex_best, pathsV, ex_paths, ex_b1, ex_b2, ex_err, ex_na, ex_reach, Option.isSome_some, Option.getD_some] at c1 c2 c3 c4 c5 c6 c7 c8
  have c0 := fun H : AHeap => law_network (gl := gl) (h := H)
  generalize exN = N at *
  simp [-aops_cons]
  repeat (rw [aops_cons]; simp [-aops_cons])
  refine callS.pure _ (fun _ => c0 _) ?_
  simp [-aops_cons]
  repeat (rw [aops_cons]; simp [-aops_cons])
  refine callS.pure _ (fun _ => c1 _) ?_
  simp [-aops_cons, ptX]
  repeat (rw [aops_cons]; simp [-aops_cons])
  refine callS.pure _ (fun _ => c2 _) ?_
  simp [-aops_cons]
  repeat (rw [aops_cons]; simp [-aops_cons])
  refine callS.pure _ (fun _ => c3 _) ?_
  simp [-aops_cons]
  repeat (rw [aops_cons]; simp [-aops_cons])
  refine callS.any (ACalls.lend [h.length + 2] (.cons (.same _) (.cons (FrzK.all (m := 1) (es := [[.str [97]], [.str [99]], [.str [100]]]) (by simp) (by simp)) .nil)) (c4 _)) ?_
  rintro v h' ⟨rfl, rfl⟩
  simp [-aops_cons, killL, encT, encPa]
  repeat (rw [aops_cons]; simp [-aops_cons, encT, encPa])
  refine callS.any (ACalls.lend [h.length + 3] (.cons (.same _) (.cons (FrzK.all (m := 1) (es := [[.str [97]], [.str [100]]]) (by simp) (by simp)) .nil)) (c5 _)) ?_
  rintro v h' ⟨rfl, rfl⟩
  simp [-aops_cons, killL, encT, encPa]
  repeat (rw [aops_cons]; simp [-aops_cons, encT, encPa])
  refine callS.pure _ (fun _ => c6 _) ?_
  simp [-aops_cons, killL, encT, encPa]
  repeat (rw [aops_cons]; simp [-aops_cons, encT, encPa])
  refine callS.pure _ (fun _ => ref01_SameTexts [[97], [98], [100]] [[97], [98], [100]] (by simp) _ _ (.ro (by simp)) (Rs.own (n := 1) (b := h.length + 4) (es := [[.str [97]], [.str [98]], [.str [100]]]) (by simp) (by simp))) ?_
  simp [-aops_cons, killL, encT, encPa]
  repeat (rw [aops_cons]; simp [-aops_cons, encT, encPa])
  have c9 := fun H : AHeap => ref07_SamePaths (gl := gl) (h := H) [[[97], [98], [100]], [[97], [99], [100]]] [[[97], [98], [100]], [[97], [99], [100]]] (by simp) (by simp)
  refine callS.any (ACalls.lend [h.length + 5, h.length + 6, h.length + 7] (.cons (.same _) (.cons ?_ .nil)) (c9 _)) ?_
  · exact FrzK.rows (rows := [[[.str [97]], [.str [98]], [.str [100]]], [[.str [97]], [.str [99]], [.str [100]]]]) (cs := [.own (h.length + 5) 0 3, .own (h.length + 6) 0 3]) (by simp) (by simp) (by simp) (fun k c r h1 h2 => by
      match k with
      | 0 =>
        simp at h1 h2; subst h1 h2
        exact FrzK.all (m := 1) (es := [[.str [97]], [.str [98]], [.str [100]]]) (by simp) (by simp)
      | 1 =>
        simp at h1 h2; subst h1 h2
        exact FrzK.all (m := 1) (es := [[.str [97]], [.str [99]], [.str [100]]]) (by simp) (by simp))
  rintro v h' ⟨rfl, rfl⟩
  simp [-aops_cons, killL, encT, encPa]
  repeat (rw [aops_cons]; simp [-aops_cons, encT, encPa])
  refine callS.pure _ (fun _ => c7 _) ?_
  simp [-aops_cons, killL, encT, encPa]
  repeat (rw [aops_cons]; simp [-aops_cons, encT, encPa])
  refine callS.pure _ (fun _ => ref01_SameTexts [[98], [99]] [[98], [99]] (by simp) _ _ (.ro (by simp)) (Rs.own (n := 1) (b := h.length + 8) (es := [[.str [98]], [.str [99]]]) (by simp) (by simp))) ?_
  simp [-aops_cons, killL, encT, encPa]
  repeat (rw [aops_cons]; simp [-aops_cons, encT, encPa])
  refine callS.pure _ (fun _ => c8 _) ?_
  simp [-aops_cons, killL, encT, encPa]
  repeat (rw [aops_cons]; simp [-aops_cons, encT, encPa])
  refine callS.pure _ (fun _ => ref01_SameTexts [[97], [98], [99], [100]] [[97], [98], [99], [100]] (by simp) _ _ (.ro (by simp)) (Rs.own (n := 1) (b := h.length + 9) (es := [[.str [97]], [.str [98]], [.str [99]], [.str [100]]]) (by simp) (by simp))) ?_
  simp [-aops_cons, killL, encT, encPa]
  repeat (rw [aops_cons]; simp [-aops_cons, encT, encPa])

end Go.Proofs.Ytonpmbppmmaheaa
