/-
  Contracts: the law of systems, kinds and points.
-/
import Derived.Test.YtdmfdgkicbhdoaaLaw18C
set_option linter.unusedVariables false
set_option linter.unusedSimpArgs false
set_option maxRecDepth 100000
namespace Go.Proofs.Ytdmfdgkicbhdoaa
open Go Go.Abs Go.Toll
variable {gl : Globs} {h : AHeap}

set_option maxHeartbeats 4000000 in
theorem law_Asks [GOk gl] (t : Topo) (s y : Bytes) (k : Int) : ACalls Try.prog gl 9 [.agg (encTopo t), .str s, .str y, .int .i64 k] h fun v h' => v = .bool true := by
  refine ACalls.mono (ACalls.data (.bool true) (ACalls.body Try.f9 _ mixed Try.func9 rfl rfl (by simp [Try.ntmps9]) ?_)) fun _ _ h => h.1
  simp
  refine callS.pure _ (fun _ => law_small t) ?_
  by_cases hf : smallB t = true
  · have hl := small_len hf
    rw [hf]
    simp
    refine callS.pure _ (fun _ => topology_System t s (by omega) (by omega) (by omega)) ?_
    simp
    refine callS.pure _ (fun _ => ref18_System t s (by omega) (by omega) (by omega)) ?_
    generalize (sysOf t s).getD sys0 = P at *
    simp
    refine ⟨by decide, ?_⟩
    refine callS.pure _ (fun _ => topology_Kind t s (by omega) (by omega) (by omega)) ?_
    simp
    refine callS.pure _ (fun _ => ref18_Kind t s (by omega) (by omega) (by omega)) ?_
    simp
    refine callS.pure _ (fun _ => topology_Points t y k (by omega) (by omega) (by omega)) ?_
    simp
    refine callS.pure _ (fun _ => ref18_Points t y k (by omega) (by omega) (by omega)) ?_
    simp
    have hpl : (pointsM (validT t).net y k).length ≤ 1000000 := by
      have h1 : (pointsL (validT t).net y k).length ≤ (validT t).net.pts.length := by
        rw [pointsL, List.length_map]; exact List.length_filter_le _ _
      have := (validT_len t).1
      rw [pointsM, sortT_len]; omega
    refine callS.pure _ (fun _ => ref01_SameTexts (pointsM (validT t).net y k) (pointsM (validT t).net y k) hpl _ _ (.ro (texts_n _)) (.ro (texts_n _))) ?_
    simp
    refine callS.pure _ (fun _ => law_alive) ?_
    simp
  · rw [Bool.not_eq_true] at hf
    rw [hf]; simp
end Go.Proofs.Ytdmfdgkicbhdoaa
