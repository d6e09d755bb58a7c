/-
  Contracts: the chapter's examples.
-/
import Derived.Test.YtmnmbkcdjpidgaaLoops
import Derived.Test.YtmnmbkcdjpidgaaMergeR
import Derived.Test.YtmnmbkcdjpidgaaAbsList
set_option linter.unusedVariables false
set_option linter.unusedSimpArgs false
set_option maxRecDepth 100000
namespace Go.Proofs.Ytmnmbkcdjpidgaa
open Go Go.Abs Go.Toll
variable {gl : Globs} {h : AHeap}

def exA : TSeen := ⟨[], 0, 0, [], [], 0, 950, 100, [], 1, 1⟩
def exB : TSeen := ⟨[], 0, 0, [], [65, 66, 49, 50], 0, 800, 103, [], 2, 2⟩
def exC : TSeen := ⟨[], 0, 0, [], [], 0, 0, 98, [], 1, 3⟩
def exD : TSeen := ⟨[], 0, 0, [], [65, 66, 49, 90], 0, 800, 121, [], 2, 2⟩
def exP : TPass := ⟨[], [], 100, [], [], 0, 0, []⟩
theorem ex_tab : tabF (crossF2 [[exA]] [[exB, exD]]) 1 1 200 = encMat [[105]] [200] [200] := by
  have e : crossF2 [[exA]] [[exB, exD]] 0 0 = 105 := by decide
  simp [tabF, List.range_succ, e]
theorem ex_sort : sortS [exD, exC, exB, exA] = [exC, exA, exB, exD] := by decide +kernel
theorem ex_j1 : joinsB exB exD = true := by
  simp [joinsB, exB, exD, plateD, cutB, plD, plC, likeB, pairL]
  decide
theorem ex_j2 : joinsB exA exB = false := rfl
theorem ex_j3 : joinsB exA exD = false := rfl
theorem ex_merge : (mergeG [] (sortS [exD, exC, exB, exA])).length = 2 := by
  rw [ex_sort]
  have g1 : groupB exC = false := rfl
  have g2 : groupB exA = true := rfl
  have g3 : groupB exB = true := rfl
  have g4 : groupB exD = true := rfl
  simp [mergeG, g1, g2, g3, g4, placeG, atG, idxP, headG, ex_j1, ex_j2, ex_j3]
set_option maxHeartbeats 4000000 in
theorem law_awake : ACalls Try.prog gl 11 [] h fun v h' => v = .bool true ∧ h' = h := by
  refine ACalls.data (.bool _) (ACalls.body Try.f11 _ mixed Try.func11 rfl rfl (by simp [Try.ntmps11]) ?_)
  simp [-aops_cons]
  repeat (rw [aops_cons]; simp [-aops_cons])
  have kf : ∀ H : AHeap, (killL (h ++ H) [h.length + 4, h.length + 5, h.length + 6, h.length + 7]) = h ++ killL H [4, 5, 6, 7] := fun H => by
    simp [killL, List.set_append_right]
  have c1 := fun H : AHeap => score_Matrix (gl := gl) (h := H) [[exA]] [[exB, exD]] (by simp) (by simp) (by simp [mid, exA]) (by simp [mid, exB, exD])
  simp only [List.length_singleton, ex_tab] at c1
  refine callS.any (ACalls.lend [h.length + 4, h.length + 5, h.length + 6, h.length + 7] (args' := [encGs [[exA]], encGs [[exB, exD]]]) (.cons ?_ (.cons ?_ .nil)) (c1 _)) ?_
  · exact FrzK.rows (rows := [[encSeen exA]]) (cs := [.own (h.length + 4) 0 1]) (by simp) (by simp) (by simp) (fun k c r h1 h2 => by
      match k with
      | 0 =>
        simp at h1 h2; subst h1 h2
        exact FrzK.all (m := 11) (es := [encSeen exA]) (by simp; decide) (by simp))
  · exact FrzK.rows (rows := [[encSeen exB, encSeen exD]]) (cs := [.own (h.length + 6) 0 2]) (by simp) (by simp) (by simp) (fun k c r h1 h2 => by
      match k with
      | 0 =>
        simp at h1 h2; subst h1 h2
        exact FrzK.all (m := 11) (es := [encSeen exB, encSeen exD]) (by simp; decide) (by simp))
  rintro v h' ⟨rfl, rfl⟩
  simp only [kf]
  simp [-aops_cons, killL, encMat]
  repeat (rw [aops_cons]; simp [-aops_cons])
  have e1 : pairI exA exB = 105 := by decide
  have q1 := fun H : AHeap => score_Pair (gl := gl) (h := H) exA exB (by simp [mid, exA]) (by simp [mid, exB])
  rw [e1] at q1
  refine callS.pure _ (fun _ => q1 _) ?_
  simp [-aops_cons]
  repeat (rw [aops_cons]; simp [-aops_cons])
  have e2 : pairI exA exD = -1 := by decide
  have q2 := fun H : AHeap => score_Pair (gl := gl) (h := H) exA exD (by simp [mid, exA]) (by simp [mid, exD])
  rw [e2] at q2
  refine callS.pure _ (fun _ => q2 _) ?_
  simp [-aops_cons]
  repeat (rw [aops_cons]; simp [-aops_cons])
  have e3 : axlesI exP.point exP.time 1 exC = 10 := by decide
  have q3 := fun H : AHeap => score_Axles (gl := gl) (h := H) exP 1 exC (by simp [mid, exP]) (by simp [mid, exC])
  rw [e3] at q3
  refine callS.pure _ (fun _ => ACalls.lend [] (.cons (.agg' (.cons (.same _) (.cons (.same _) (.cons (.same _) (.cons (.same _) (.cons (.same _) (.cons (.same _) (.cons (.same _) (.cons .nil .nil))))))))) (.cons (.same _) (.cons (.same _) .nil))) (q3 _)) ?_
  simp [-aops_cons]
  repeat (rw [aops_cons]; simp [-aops_cons])
  have q4 := fun H : AHeap => score_Merge (gl := gl) (h := H) [exD, exC, exB, exA] (by simp)
  refine callS.any (ACalls.lend [h.length + 9] (.cons (FrzK.all (m := 11) (es := [encSeen exD, encSeen exC, encSeen exB, encSeen exA]) (by simp; decide) (by simp)) .nil) (q4 _)) ?_
  rintro v h' ⟨rfl, rfl⟩
  simp [-aops_cons, killL, ex_merge]
  repeat (rw [aops_cons]; simp [-aops_cons, ex_merge])
  have q5 := fun H : AHeap => ref15_SameMatrix (gl := gl) (h := H) [[105]] [[105]] [200] [200] [200] [200] (by simp) (by simp) (by simp) (by simp)
  refine callS.any (ACalls.lend [h.length + 10, h.length + 11, h.length + 12, h.length + 13] (args' := [.agg (encMat [[105]] [200] [200]), .agg (encMat [[105]] [200] [200])]) (.cons (.same _) (.cons (.agg' (.cons ?_ (.cons ?_ (.cons ?_ .nil)))) .nil)) (q5 _)) ?_
  · exact FrzK.rows (rows := [[[.int .i64 105]]]) (cs := [.own (h.length + 10) 0 1]) (by simp) (by simp) (by simp) (fun k c r h1 h2 => by
      match k with
      | 0 =>
        simp at h1 h2; subst h1 h2
        exact FrzK.all (m := 1) (es := [[.int .i64 105]]) (by simp) (by simp))
  · exact FrzK.all (m := 1) (es := [[.int .i64 200]]) (by simp) (by simp)
  · exact FrzK.all (m := 1) (es := [[.int .i64 200]]) (by simp) (by simp)
  rintro v h' ⟨rfl, rfl⟩
  simp [-aops_cons, killL]
  repeat (rw [aops_cons]; simp [-aops_cons])
  have q6 := fun H : AHeap => score_Confidence (gl := gl) (h := H) 105 50 (by simp [confOk])
  rw [show confI 105 50 = 595 by decide] at q6
  refine callS.pure _ (fun _ => q6 _) ?_
  simp [-aops_cons]
  repeat (rw [aops_cons]; simp [-aops_cons])
  have q7 := fun H : AHeap => score_Confidence (gl := gl) (h := H) 0 (-1) (by simp [confOk])
  rw [show confI 0 (-1) = 1000 by decide] at q7
  refine callS.pure _ (fun _ => q7 _) ?_
  simp [-aops_cons]
  repeat (rw [aops_cons]; simp [-aops_cons])
  have q8 := fun H : AHeap => score_Confidence (gl := gl) (h := H) 700 0 (by simp [confOk])
  rw [show confI 700 0 = 0 by decide] at q8
  refine callS.pure _ (fun _ => q8 _) ?_
  simp [-aops_cons]
  repeat (rw [aops_cons]; simp [-aops_cons])
end Go.Proofs.Ytmnmbkcdjpidgaa
