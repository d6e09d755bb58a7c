/-
  Contracts: the chapter's examples.
-/
import Derived.Test.YtdmfdgkicbhdoaaLaw18A
import Derived.Test.YtdmfdgkicbhdoaaAbsLax
set_option linter.unusedVariables false
set_option linter.unusedSimpArgs false
set_option maxRecDepth 100000
namespace Go.Proofs.Ytdmfdgkicbhdoaa
open Go Go.Abs Go.Toll
variable {gl : Globs} {h : AHeap}

theorem al_r1 : ACalls Try.prog gl 14 [.agg (encTopo exT), .agg (encPass (atP [97] 100)), .agg (encPass (atP [98] 130))] h fun v h' => v = .tup [.ro [[.ro [[.str [97]], [.str [98]]]]], .int .i64 0] ∧ h' = h := by
  have := topology_Route (gl := gl) (h := h) exT (atP [97] 100) (atP [98] 130) (by decide) (by decide) (by decide)
  rw [routeV, exT_valid, show routeM exT.net (atP [97] 100).point (atP [98] 130).point (atP [97] 100).time (atP [98] 130).time = _ from exT_r1] at this
  exact this
theorem al_r2 : ACalls Try.prog gl 14 [.agg (encTopo exT), .agg (encPass (atP [97] 100)), .agg (encPass (atP [98] 129))] h fun v h' => v = .tup [.ro [], .int .i64 21] ∧ h' = h := by
  have := topology_Route (gl := gl) (h := h) exT (atP [97] 100) (atP [98] 129) (by decide) (by decide) (by decide)
  rw [routeV, exT_valid, show routeM exT.net (atP [97] 100).point (atP [98] 129).point (atP [97] 100).time (atP [98] 129).time = _ from exT_r2] at this
  exact this
theorem al_r3 : ACalls Try.prog gl 14 [.agg (encTopo exT), .agg (encPass (atP [97] 100)), .agg (encPass (atP [98] 191))] h fun v h' => v = .tup [.ro [], .int .i64 21] ∧ h' = h := by
  have := topology_Route (gl := gl) (h := h) exT (atP [97] 100) (atP [98] 191) (by decide) (by decide) (by decide)
  rw [routeV, exT_valid, show routeM exT.net (atP [97] 100).point (atP [98] 191).point (atP [97] 100).time (atP [98] 191).time = _ from exT_r3] at this
  exact this
theorem al_r4 : ACalls Try.prog gl 14 [.agg (encTopo exT), .agg (encPass (atP [98] 100)), .agg (encPass (atP [97] 400))] h fun v h' => v = .tup [.ro [], .int .i64 21] ∧ h' = h := by
  have := topology_Route (gl := gl) (h := h) exT (atP [98] 100) (atP [97] 400) (by decide) (by decide) (by decide)
  rw [routeV, exT_valid, show routeM exT.net (atP [98] 100).point (atP [97] 400).point (atP [98] 100).time (atP [97] 400).time = _ from exT_r4] at this
  exact this
theorem al_f1 : ACalls Try.prog gl 17 [.agg (encTopo exT), .agg (encPass (atP [97] 100)), .agg (encPass (atP [98] 130))] h fun v h' => v = .bool true ∧ h' = h := by
  have := topology_Feasible (gl := gl) (h := h) exT (atP [97] 100) (atP [98] 130) (by decide) (by decide) (by decide)
  rw [exT_valid, show feasM exT.net (atP [97] 100).point (atP [98] 130).point (atP [97] 100).time (atP [98] 130).time = _ from exT_f1] at this
  exact this
theorem al_f2 : ACalls Try.prog gl 17 [.agg (encTopo exT), .agg (encPass (atP [97] 100)), .agg (encPass (atP [98] 129))] h fun v h' => v = .bool false ∧ h' = h := by
  have := topology_Feasible (gl := gl) (h := h) exT (atP [97] 100) (atP [98] 129) (by decide) (by decide) (by decide)
  rw [exT_valid, show feasM exT.net (atP [97] 100).point (atP [98] 129).point (atP [97] 100).time (atP [98] 129).time = _ from exT_f2] at this
  exact this
theorem al_f3 : ACalls Try.prog gl 17 [.agg (encTopo exT), .agg (encPass (atP [97] 100)), .agg (encPass (atP [98] 191))] h fun v h' => v = .bool true ∧ h' = h := by
  have := topology_Feasible (gl := gl) (h := h) exT (atP [97] 100) (atP [98] 191) (by decide) (by decide) (by decide)
  rw [exT_valid, show feasM exT.net (atP [97] 100).point (atP [98] 191).point (atP [97] 100).time (atP [98] 191).time = _ from exT_f3] at this
  exact this
theorem al_f4 : ACalls Try.prog gl 17 [.agg (encTopo exT), .agg (encPass (atP [98] 100)), .agg (encPass (atP [97] 399))] h fun v h' => v = .bool false ∧ h' = h := by
  have := topology_Feasible (gl := gl) (h := h) exT (atP [98] 100) (atP [97] 399) (by decide) (by decide) (by decide)
  rw [exT_valid, show feasM exT.net (atP [98] 100).point (atP [97] 399).point (atP [98] 100).time (atP [97] 399).time = _ from exT_f4] at this
  exact this
theorem al_f5 : ACalls Try.prog gl 17 [.agg (encTopo exT), .agg (encPass (atP [98] 100)), .agg (encPass (atP [97] 400))] h fun v h' => v = .bool true ∧ h' = h := by
  have := topology_Feasible (gl := gl) (h := h) exT (atP [98] 100) (atP [97] 400) (by decide) (by decide) (by decide)
  rw [exT_valid, show feasM exT.net (atP [98] 100).point (atP [97] 400).point (atP [98] 100).time (atP [97] 400).time = _ from exT_f5] at this
  exact this
theorem al_f6 : ACalls Try.prog gl 17 [.agg (encTopo exT), .agg (encPass (atP [97] 100)), .agg (encPass (atP [97] 160))] h fun v h' => v = .bool true ∧ h' = h := by
  have := topology_Feasible (gl := gl) (h := h) exT (atP [97] 100) (atP [97] 160) (by decide) (by decide) (by decide)
  rw [exT_valid, show feasM exT.net (atP [97] 100).point (atP [97] 160).point (atP [97] 100).time (atP [97] 160).time = _ from exT_f6] at this
  exact this
theorem al_f7 : ACalls Try.prog gl 17 [.agg (encTopo exT), .agg (encPass (atP [97] 100)), .agg (encPass (atP [97] 159))] h fun v h' => v = .bool false ∧ h' = h := by
  have := topology_Feasible (gl := gl) (h := h) exT (atP [97] 100) (atP [97] 159) (by decide) (by decide) (by decide)
  rw [exT_valid, show feasM exT.net (atP [97] 100).point (atP [97] 159).point (atP [97] 100).time (atP [97] 159).time = _ from exT_f7] at this
  exact this
theorem al_c : ACalls Try.prog gl 11 [.agg (encTopo exT)] h fun v h' => v = .int .i64 0 ∧ h' = h := by
  have := topology_Check (gl := gl) (h := h) exT (by decide) (by decide) (by decide)
  rw [exT_err] at this
  exact this
theorem al_p : ACalls Try.prog gl 23 [.agg (encTopo exT), .str [115], .int .i64 1] h fun v h' => v = .ro [[.str [97]], [.str [98]]] ∧ h' = h := by
  have := topology_Points (gl := gl) (h := h) exT [115] 1 (by decide) (by decide) (by decide)
  rw [exT_valid, exT_p] at this
  exact this
theorem al_k1 : ACalls Try.prog gl 19 [.agg (encTopo exT), .ro [[.str [97]], [.str [98]]], .str [115]] h fun v h' => v = .bool true ∧ h' = h := by
  have := topology_Covers (gl := gl) (h := h) exT [[97], [98]] [115] (by decide) (by decide) (by decide) (by simp)
  rw [exT_k1] at this
  exact this
theorem al_k2 : ACalls Try.prog gl 19 [.agg (encTopo exT), .ro [], .str [115]] h fun v h' => v = .bool false ∧ h' = h := by
  have := topology_Covers (gl := gl) (h := h) exT [] [115] (by decide) (by decide) (by decide) (by simp)
  rw [exT_k2] at this
  exact this
def lxA : Nat → Option (List (Nat × Nat)) := fun i => if i = 10 then some [(12, 15), (13, 15), (18, 20)] else none
set_option maxHeartbeats 8000000 in
theorem law_alive [GOk gl] : ACalls Try.prog gl 13 [] h fun v h' => v = .bool true ∧ h' = h := by
  refine ACalls.data (.bool _) (ACalls.bodyL lxA Try.f13 _ mixed Try.func13 rfl rfl (by simp [Try.ntmps13]) ?_)
  have c0 := fun H : AHeap => law_example (gl := gl) (h := H)
  have r1 := fun H : AHeap => al_r1 (gl := gl) (h := H)
  have r2 := fun H : AHeap => al_r2 (gl := gl) (h := H)
  have r3 := fun H : AHeap => al_r3 (gl := gl) (h := H)
  have r4 := fun H : AHeap => al_r4 (gl := gl) (h := H)
  have f1 := fun H : AHeap => al_f1 (gl := gl) (h := H)
  have f2 := fun H : AHeap => al_f2 (gl := gl) (h := H)
  have f3 := fun H : AHeap => al_f3 (gl := gl) (h := H)
  have f4 := fun H : AHeap => al_f4 (gl := gl) (h := H)
  have f5 := fun H : AHeap => al_f5 (gl := gl) (h := H)
  have f6 := fun H : AHeap => al_f6 (gl := gl) (h := H)
  have f7 := fun H : AHeap => al_f7 (gl := gl) (h := H)
  have k1 := al_k1 (gl := gl) (h := [])
  have k2 := al_k2 (gl := gl) (h := [])
  have cp := fun H : AHeap => al_p (gl := gl) (h := H)
  have ck := fun H : AHeap => al_c (gl := gl) (h := H)
  generalize exT = T at *
  simp [-aops_cons, lxA]
  repeat (rw [aops_cons]; simp [-aops_cons, lxA])
  refine callS.pure _ (fun _ => c0 _) ?_
  simp [-aops_cons, lxA]
  repeat (rw [aops_cons]; simp [-aops_cons, lxA])
  refine ⟨by decide, callS.pure _ (fun _ => law_at [97] 100) ?_⟩
  simp [-aops_cons, lxA, atP]
  repeat (rw [aops_cons]; simp [-aops_cons, lxA, atP])
  refine callS.pure _ (fun _ => law_at [98] 130) ?_
  simp [-aops_cons, lxA, atP]
  repeat (rw [aops_cons]; simp [-aops_cons, lxA, atP])
  refine callS.pure _ (fun _ => r1 _) ?_
  simp [-aops_cons, lxA, atP]
  repeat (rw [aops_cons]; simp [-aops_cons, lxA, atP])
  refine ⟨by decide, callS.pure _ (fun _ => law_at [97] 100) ?_⟩
  simp [-aops_cons, lxA, atP]
  repeat (rw [aops_cons]; simp [-aops_cons, lxA, atP])
  refine callS.pure _ (fun _ => law_at [98] 129) ?_
  simp [-aops_cons, lxA, atP]
  repeat (rw [aops_cons]; simp [-aops_cons, lxA, atP])
  refine callS.pure _ (fun _ => r2 _) ?_
  simp [-aops_cons, lxA, atP]
  repeat (rw [aops_cons]; simp [-aops_cons, lxA, atP])
  refine ⟨by decide, callS.pure _ (fun _ => law_at [97] 100) ?_⟩
  simp [-aops_cons, lxA, atP]
  repeat (rw [aops_cons]; simp [-aops_cons, lxA, atP])
  refine callS.pure _ (fun _ => law_at [98] 191) ?_
  simp [-aops_cons, lxA, atP]
  repeat (rw [aops_cons]; simp [-aops_cons, lxA, atP])
  refine callS.pure _ (fun _ => r3 _) ?_
  simp [-aops_cons, lxA, atP]
  repeat (rw [aops_cons]; simp [-aops_cons, lxA, atP])
  refine ⟨by decide, callS.pure _ (fun _ => law_at [98] 100) ?_⟩
  simp [-aops_cons, lxA, atP]
  repeat (rw [aops_cons]; simp [-aops_cons, lxA, atP])
  refine callS.pure _ (fun _ => law_at [97] 400) ?_
  simp [-aops_cons, lxA, atP]
  repeat (rw [aops_cons]; simp [-aops_cons, lxA, atP])
  refine callS.pure _ (fun _ => r4 _) ?_
  simp [-aops_cons, lxA, atP]
  repeat (rw [aops_cons]; simp [-aops_cons, lxA, atP])
  refine callS.pure _ (fun _ => ck _) ?_
  simp [-aops_cons, lxA, atP]
  repeat (rw [aops_cons]; simp [-aops_cons, lxA, atP])
  refine callS.pure _ (fun _ => ref01_SameTexts [[97], [98]] [[97], [98]] (by simp) _ _ (.ro (by simp)) (Rs.own (n := 1) (b := h.length + 1) (es := [[.str [97]], [.str [98]]]) (by simp) (by simp))) ?_
  simp [-aops_cons, lxA, atP]
  repeat (rw [aops_cons]; simp [-aops_cons, lxA, atP])
  refine ⟨by decide, callS.pure _ (fun _ => law_at [97] 100) ?_⟩
  simp [-aops_cons, lxA, atP]
  repeat (rw [aops_cons]; simp [-aops_cons, lxA, atP])
  refine callS.pure _ (fun _ => law_at [98] 130) ?_
  simp [-aops_cons, lxA, atP]
  repeat (rw [aops_cons]; simp [-aops_cons, lxA, atP])
  refine callS.pure _ (fun _ => f1 _) ?_
  simp [-aops_cons, lxA, atP]
  repeat (rw [aops_cons]; simp [-aops_cons, lxA, atP])
  refine callS.pure _ (fun _ => law_at [97] 100) ?_
  simp [-aops_cons, lxA, atP]
  repeat (rw [aops_cons]; simp [-aops_cons, lxA, atP])
  refine callS.pure _ (fun _ => law_at [98] 129) ?_
  simp [-aops_cons, lxA, atP]
  repeat (rw [aops_cons]; simp [-aops_cons, lxA, atP])
  refine callS.pure _ (fun _ => f2 _) ?_
  simp [-aops_cons, lxA, atP]
  repeat (rw [aops_cons]; simp [-aops_cons, lxA, atP])
  refine callS.pure _ (fun _ => law_at [97] 100) ?_
  simp [-aops_cons, lxA, atP]
  repeat (rw [aops_cons]; simp [-aops_cons, lxA, atP])
  refine callS.pure _ (fun _ => law_at [98] 191) ?_
  simp [-aops_cons, lxA, atP]
  repeat (rw [aops_cons]; simp [-aops_cons, lxA, atP])
  refine callS.pure _ (fun _ => f3 _) ?_
  simp [-aops_cons, lxA, atP]
  repeat (rw [aops_cons]; simp [-aops_cons, lxA, atP])
  refine callS.pure _ (fun _ => law_at [98] 100) ?_
  simp [-aops_cons, lxA, atP]
  repeat (rw [aops_cons]; simp [-aops_cons, lxA, atP])
  refine callS.pure _ (fun _ => law_at [97] 399) ?_
  simp [-aops_cons, lxA, atP]
  repeat (rw [aops_cons]; simp [-aops_cons, lxA, atP])
  refine callS.pure _ (fun _ => f4 _) ?_
  simp [-aops_cons, lxA, atP]
  repeat (rw [aops_cons]; simp [-aops_cons, lxA, atP])
  refine callS.pure _ (fun _ => law_at [98] 100) ?_
  simp [-aops_cons, lxA, atP]
  repeat (rw [aops_cons]; simp [-aops_cons, lxA, atP])
  refine callS.pure _ (fun _ => law_at [97] 400) ?_
  simp [-aops_cons, lxA, atP]
  repeat (rw [aops_cons]; simp [-aops_cons, lxA, atP])
  refine callS.pure _ (fun _ => f5 _) ?_
  simp [-aops_cons, lxA, atP]
  repeat (rw [aops_cons]; simp [-aops_cons, lxA, atP])
  refine ⟨by decide, callS.pure _ (fun _ => law_at [97] 100) ?_⟩
  simp [lxA, atP]
  refine callS.pure _ (fun _ => law_at [97] 160) ?_
  simp [lxA, atP]
  refine callS.pure _ (fun _ => f6 _) ?_
  simp [lxA, atP]
  refine callS.pure _ (fun _ => law_at [97] 100) ?_
  simp [lxA, atP]
  refine callS.pure _ (fun _ => law_at [97] 159) ?_
  simp [lxA, atP]
  refine callS.pure _ (fun _ => f7 _) ?_
  simp [lxA, atP]
  refine callS.pure _ (fun _ => cp _) ?_
  simp [lxA, atP]
  refine callS.pure _ (fun _ => ref01_SameTexts [[97], [98]] [[97], [98]] (by simp) _ _ (.ro (by simp)) (Rs.own (n := 1) (b := h.length + 2) (es := [[.str [97]], [.str [98]]]) (by simp) (by simp))) ?_
  simp [lxA, atP]
  refine callS.pure _ (fun _ => ACalls.borrow (by simp) (.cons (.data _ (by simp)) (.cons (Frz.ownD (b := h.length + 3) (m := 1) (off := 0) (by simp; rfl) (by omega) (by simp) (by simp) (by simp)) (.cons (.data _ (by simp)) .nil))) k1) ?_
  simp [lxA, atP]
  refine callS.pure _ (fun _ => ACalls.borrow (by simp) (.cons (.data _ (by simp)) (.cons .nil (.cons (.data _ (by simp)) .nil))) k2) ?_
  simp [lxA, atP]
  refine callS.pure _ (fun _ => cp _) ?_
  simp [lxA, atP]
end Go.Proofs.Ytdmfdgkicbhdoaa
