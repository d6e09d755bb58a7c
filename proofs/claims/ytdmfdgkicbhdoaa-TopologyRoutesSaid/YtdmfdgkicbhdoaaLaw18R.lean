/-
  Contracts: the laws of topologies against the reference.
-/
import Derived.Test.YtdmfdgkicbhdoaaLaw18C
import Derived.Test.YtdmfdgkicbhdoaaSamePaths
set_option linter.unusedVariables false
set_option linter.unusedSimpArgs false
set_option maxRecDepth 100000
namespace Go.Proofs.Ytdmfdgkicbhdoaa
open Go Go.Abs Go.Toll
variable {gl : Globs} {h : AHeap}

theorem route_len {v : Net} (ok : NetOk v) (a b : Bytes) (s t : Int) : (routeM v a b s t).1.length ≤ 1024 := by
  have h := (pathsM_spec ok a b).1
  have h2 : (routeL v a b (t - s)).length ≤ (pathsM v a b).1.length := List.length_filter_le _ _
  unfold routeM
  split
  · simp
  split
  · simp
  split
  · simp
  split
  · simp
  · show (routeL v a b (t - s)).length ≤ 1024; omega
set_option maxHeartbeats 4000000 in
theorem law_Routes [GOk gl] (t : Topo) (a b : TPass) : ACalls Try.prog gl 4 [.agg (encTopo t), .agg (encPass a), .agg (encPass b)] h fun v h' => v = .bool true := by
  refine ACalls.mono (ACalls.data (.bool true) (ACalls.body Try.f4 _ mixed Try.func4 rfl rfl (by simp [Try.ntmps4]) ?_)) fun _ _ h => h.1
  simp
  refine callS.pure _ (fun _ => law_small t) ?_
  by_cases hf : smallB t = true
  · have hl := small_len hf
    rw [hf]
    have c1 := fun H : AHeap => topology_Route (gl := gl) (h := H) t a b (by omega) (by omega) (by omega)
    have c2 := fun H : AHeap => ref18_Route (gl := gl) (h := H) t a b (by omega) (by omega) (by omega)
    have ok := okT t
    have hat : ∀ q ∈ (routeM (validT t).net a.point b.point a.time b.time).1, q.length ≤ 16 := fun q hq => by
      obtain ⟨l, w, hp, _⟩ := route_at ok hq
      exact hp.len
    have hlen := route_len (v := (validT t).net) ok a.point b.point a.time b.time
    unfold routeV at c1 c2
    generalize routeM (validT t).net a.point b.point a.time b.time = R at *
    obtain ⟨L, E⟩ := R
    simp only at hat hlen c1 c2
    simp
    refine callS.pure _ (fun _ => c1 _) ?_
    simp
    refine callS.pure _ (fun _ => c2 _) ?_
    simp
    refine callS.pure _ (fun _ => ref07_SamePaths L L (by omega) fun q hq => by have := hat q hq; omega) ?_
    simp
    refine callS.pure _ (fun _ => law_alive) ?_
    simp
  · rw [Bool.not_eq_true] at hf
    rw [hf]; simp
end Go.Proofs.Ytdmfdgkicbhdoaa
