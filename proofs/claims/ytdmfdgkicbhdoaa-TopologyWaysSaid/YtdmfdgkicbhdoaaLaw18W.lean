/-
  Contracts: the law of routes, without the reference.
-/
import Derived.Test.YtdmfdgkicbhdoaaLaw18C
import Derived.Test.YtdmfdgkicbhdoaaTollSeenShape
set_option linter.unusedVariables false
set_option linter.unusedSimpArgs false
set_option maxRecDepth 100000
namespace Go.Proofs.Ytdmfdgkicbhdoaa
open Go Go.Abs Go.Toll
variable {gl : Globs} {h : AHeap}

theorem route_two {v : Net} (a b : Bytes) (s t : Int) : ((routeM v a b s t).2 ≠ 0 → (routeM v a b s t).1 = []) ∧ ((routeM v a b s t).2 = 0 → (routeM v a b s t).1 ≠ []) := by
  unfold routeM
  split
  · simp
  split
  · simp
  split
  · rename_i h; exact ⟨fun _ => rfl, fun e => absurd e h⟩
  split
  · simp
  · rename_i h; exact ⟨fun e => absurd rfl e, fun _ => h⟩
theorem route_len' {v : Net} (ok : NetOk v) (a b : Bytes) (s t : Int) : (routeM v a b s t).1.length ≤ 1024 := by
  have h := (pathsM_spec ok a b).1
  have h2 : (routeL v a b (t - s)).length ≤ (pathsM v a b).1.length := List.length_filter_le _ _
  unfold routeM
  split
  · simp
  split
  · simp
  split
  · simp
  split
  · simp
  · show (routeL v a b (t - s)).length ≤ 1024; omega
set_option maxHeartbeats 8000000 in
theorem law_Ways [GOk gl] (t : Topo) (a b : TPass) : ACalls Try.prog gl 7 [.agg (encTopo t), .agg (encPass a), .agg (encPass b)] h fun v h' => v = .bool true := by
  refine ACalls.mono (ACalls.data (.bool true) (ACalls.body Try.f7 _ mixed Try.func7 rfl rfl (by simp [Try.ntmps7]) ?_)) fun _ _ h => h.1
  simp
  refine callS.pure _ (fun _ => law_small t) ?_
  by_cases hf : smallB t = true
  · have hl := small_len hf
    rw [hf]
    have c1 := fun H : AHeap => topology_Route (gl := gl) (h := H) t a b (by omega) (by omega) (by omega)
    have c2 := fun H : AHeap => topology_Feasible (gl := gl) (h := H) t a b (by omega) (by omega) (by omega)
    have ok := okT t
    have hat : ∀ q ∈ (routeM (validT t).net a.point b.point a.time b.time).1, feasM (validT t).net a.point b.point a.time b.time = true ∧ 2 ≤ q.length ∧ ∃ l w, PathAt (validT t).net a.point b.point q l w := fun q hq => by
      obtain ⟨l, w, hp, _⟩ := route_at ok hq
      exact ⟨(route_feas ok hq).1, (route_feas ok hq).2, l, w, hp⟩
    have hlen := route_len' ok a.point b.point a.time b.time
    have h2 := route_two (v := (validT t).net) a.point b.point a.time b.time
    unfold routeV at c1
    generalize routeM (validT t).net a.point b.point a.time b.time = R at *
    generalize feasM (validT t).net a.point b.point a.time b.time = FB at *
    obtain ⟨L, E⟩ := R
    simp only at hat hlen c1 h2
    simp
    refine callS.pure _ (fun _ => c1 _) ?_
    by_cases hE : E = 0
    · subst hE
      have hL := h2.2 rfl
      simp
      refine AWP.up mixed L.length (fun i fr H => (fr 3 = .ptr h.length 0 0 ∧ fr 4 = .ptr (h.length + 1) 0 0 ∧ fr 5 = .ptr (h.length + 2) 0 0) ∧ fr 7 = .ro (L.map encPa) ∧ fr 9 = .int .i64 i ∧ H = h ++ [.cells 3 [encTopo t], .cells 8 [encPass a], .cells 8 [encPass b]]) 0 (by omega) ⟨by simp, by simp, by simp, by simp⟩ ?_
      rintro i fr H hi ⟨⟨e3, e4, e5⟩, e7, e9, rfl⟩
      rcases Nat.lt_or_ge i L.length with hlt | hge
      · obtain ⟨q, hq, hq'⟩ := get_lt hlt
        have ew := wrap_succ' (i := i) (by omega)
        obtain ⟨_, hq2, l, w, hp⟩ := hat q (List.mem_of_getElem? hq)
        have hql := hp.len
        have hqe := hp.eq
        have hlast := last_end a.point l
        rw [hp.ends, ← hqe] at hlast
        have hlast' := (List.getElem?_eq_some_iff.1 hlast).2
        have hfst : q[0]? = some a.point := by rw [hqe]; rfl
        have hfst' := (List.getElem?_eq_some_iff.1 hfst).2
        have hqn : q.length = l.length + 1 := by rw [hqe]; rfl
        have hne : q ≠ [] := by rw [hqe]; simp
        have hll : l.length < q.length := by omega
        have ewl : IntKind.i64.wrap ((q.length : Int) - 1) = (l.length : Int) := by rw [wrap64_of (by omega) (by omega)]; omega
        have d1 : ¬ (q.length : Int) < 2 := by omega
        have d1' : ¬ q.length < 2 := by omega
        have d2 : ¬ (16 : Int) < q.length := by omega
        have d2' : ¬ 16 < q.length := by omega
        have h0 : 0 < q.length := by omega
        have hhd : ∀ hh : q ≠ [], q.head hh = a.point := fun hh => by subst hqe; rfl
        have hhd' : q.head? = some a.point := by rw [hqe]; rfl
        simp [e3, e4, e5, e7, e9, hlt, hq, hq', encPa, encT, d1, d1', d2, d2', hlast, hlast', hfst, hfst', hne, hll, ewl, h0, hhd, hhd']
        refine ⟨by decide, ?_⟩
        refine callS.pure _ (fun _ => law_twice q hp.nd (by omega)) ?_
        simp [e3, e4, e5, e7, e9, hlt, hq, hq', encPa, encT, d1, d1', d2, d2', hlast, hlast', hfst, hfst', hne, hll, ewl, h0, hhd, hhd', ew]
        exact ⟨i + 1, by omega, by omega, by omega⟩
      · have hge' : ¬ (i : Int) < L.length := by omega
        have hFB : FB = true := by
          obtain ⟨q, r, rfl⟩ := List.exists_cons_of_ne_nil hL
          exact (hat q (by simp)).1
        have hl0 : 0 < L.length := List.length_pos_iff.2 hL
        have hl0' : (0 : Int) < L.length := by omega
        simp [e3, e4, e5, e7, e9, hge', Nat.not_lt.2 hge, hL, hl0, hl0']
        refine callS.pure _ (fun _ => c2 _) ?_
        simp [e3, e4, e5, e7, e9, hFB]
        refine callS.pure _ (fun _ => law_alive) ?_
        simp
    · obtain rfl := h2.1 hE
      simp [hE]
      refine callS.pure _ (fun _ => law_alive) ?_
      simp
  · rw [Bool.not_eq_true] at hf
    rw [hf]; simp
end Go.Proofs.Ytdmfdgkicbhdoaa
