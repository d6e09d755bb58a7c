/-
  Contracts: the laws of topologies against the reference.
-/
import Derived.Test.YtdmfdgkicbhdoaaLaw18B
import Derived.Test.YtdmfdgkicbhdoaaTollSeenShape
set_option linter.unusedVariables false
set_option linter.unusedSimpArgs false
set_option maxRecDepth 100000
namespace Go.Proofs.Ytdmfdgkicbhdoaa
open Go Go.Abs Go.Toll
variable {gl : Globs} {h : AHeap}

theorem small_len {t : Topo} (h : smallB t = true) : t.net.pts.length ≤ 12 ∧ t.net.lks.length ≤ 30 ∧ t.sys.length ≤ 100 := of_decide_eq_true h
set_option maxHeartbeats 4000000 in
theorem law_Checks [GOk gl] (t : Topo) : ACalls Try.prog gl 3 [.agg (encTopo t)] h fun v h' => v = .bool true := by
  refine ACalls.mono (ACalls.data (.bool true) (ACalls.body Try.f3 _ mixed Try.func3 rfl rfl (by simp [Try.ntmps3]) ?_)) fun _ _ h => h.1
  simp
  refine callS.pure _ (fun _ => law_small t) ?_
  by_cases hf : smallB t = true
  · have hl := small_len hf
    rw [hf]
    simp
    refine ⟨by decide, ?_⟩
    refine callS.pure _ (fun _ => topology_Check t (by omega) (by omega) (by omega)) ?_
    simp
    refine callS.pure _ (fun _ => ref18_Check t (by omega) (by omega) (by omega)) ?_
    simp
    refine callS.pure _ (fun _ => law_alive) ?_
    simp
  · rw [Bool.not_eq_true] at hf
    rw [hf]; simp
set_option maxHeartbeats 4000000 in
theorem law_Feasible [GOk gl] (t : Topo) (a b : TPass) : ACalls Try.prog gl 5 [.agg (encTopo t), .agg (encPass a), .agg (encPass b)] h fun v h' => v = .bool true := by
  refine ACalls.mono (ACalls.data (.bool true) (ACalls.body Try.f5 _ mixed Try.func5 rfl rfl (by simp [Try.ntmps5]) ?_)) fun _ _ h => h.1
  simp
  refine callS.pure _ (fun _ => law_small t) ?_
  by_cases hf : smallB t = true
  · have hl := small_len hf
    rw [hf]
    simp
    refine ⟨by decide, ?_⟩
    refine callS.pure _ (fun _ => topology_Feasible t a b (by omega) (by omega) (by omega)) ?_
    simp
    refine callS.pure _ (fun _ => ref18_Feasible t a b (by omega) (by omega) (by omega)) ?_
    simp
    refine callS.pure _ (fun _ => law_alive) ?_
    simp
  · rw [Bool.not_eq_true] at hf
    rw [hf]; simp
end Go.Proofs.Ytdmfdgkicbhdoaa
