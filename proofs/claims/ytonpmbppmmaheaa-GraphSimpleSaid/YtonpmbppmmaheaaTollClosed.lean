/-
  What the laws of networks say of points, best paths and all paths.
-/
import Derived.Test.YtonpmbppmmaheaaTollPaths
import Derived.Test.YtonpmbppmmaheaaTollBest
set_option linter.unusedVariables false
set_option linter.unusedSimpArgs false
namespace Go.Toll
open Go Go.Abs

theorem find_pt (n : Net) (s : Bytes) : (findPt n s).isSome = hasPt (validN n).pts s := by
  unfold findPt validN
  split
  · rw [Bool.eq_iff_iff, List.find?_isSome]; simp [hasPt]
  · rfl
section
variable {v : Net}
theorem reach_self (ok : NetOk v) (s : Bytes) : decide (s ∈ reachL v s) = hasPt v.pts s := by
  by_cases h : hasPt v.pts s = true
  · rw [h]; exact decide_eq_true ((reachL_mem ok s s).2 ⟨h, Rch.refl s⟩)
  · rw [Bool.not_eq_true] at h
    rw [h]; exact decide_eq_false fun c => by have := ((reachL_mem ok s s).1 c).1; rw [h] at this; cases this
theorem reach_none {s : Bytes} (h : hasPt v.pts s = false) : reachL v s = [] := by
  unfold reachL; rw [h]; rfl
theorem reach_next (ok : NetOk v) {s x t : Bytes} (h : x ∈ reachL v s) (ht : t ∈ nextL v x) : t ∈ reachL v s := by
  obtain ⟨h1, h2⟩ := (reachL_mem ok s x).1 h
  obtain ⟨k, hk, rfl, rfl⟩ := (nextL_mem v _ _).1 ht
  exact (reachL_mem ok s _).2 ⟨h1, Rch.step ok hk h2⟩
theorem reach_pt (ok : NetOk v) {s x : Bytes} (h : x ∈ reachL v s) : hasPt v.pts x = true := by
  obtain ⟨h1, l, t, h2, h3⟩ := (reachL_mem ok s x).1 h
  rw [← h3]
  rcases List.mem_cons.1 (endOf_mem s l) with e | e
  · rw [e]; exact h1
  · exact (wk_pts ok h2).1 _ e
theorem reach_len (ok : NetOk v) (s : Bytes) : (reachL v s).length ≤ 64 := by
  have h1 := nodup_sub_len (reachL_asc ok s).2 (m := v.pts.map (·.name)) fun z hz => (hasPt_iff _ _).1 (reach_pt ok hz)
  have := ok.plen
  rw [List.length_map] at h1; omega
theorem next_len (ok : NetOk v) (s : Bytes) : (nextL v s).length ≤ 128 := by
  have := lksOf_len v s
  have := ok.llen
  rw [nextL, List.length_map]; omega
theorem reach_less (ok : NetOk v) {s x y : Bytes} {j : Nat} (h1 : (reachL v s)[j]? = some x) (h2 : (reachL v s)[j + 1]? = some y) : Op.bytesLess x y = true := by
  obtain ⟨r1, r2⟩ := reachL_asc ok s
  obtain ⟨l1, e1⟩ := List.getElem?_eq_some_iff.1 h1
  obtain ⟨l2, e2⟩ := List.getElem?_eq_some_iff.1 h2
  have h3 := of_decide_eq_true (List.pairwise_iff_getElem.1 r1 j (j + 1) l1 l2 (by omega))
  have h4 := List.pairwise_iff_getElem.1 r2 j (j + 1) l1 l2 (by omega)
  rw [e1, e2] at h3 h4
  rw [bless]
  exact decide_eq_true (by
    rcases Nat.lt_or_ge 0 1 with _ | _
    · exact Std.lt_of_le_of_ne h3 h4
    · omega)
theorem last_end (a : Bytes) : ∀ l : List Bytes, (a :: l)[l.length]? = some (endOf a l)
  | [] => rfl
  | b :: l => by rw [List.length_cons, List.getElem?_cons_succ]; exact last_end b l
theorem bounds_wk (ok : NetOk v) {a : Bytes} {l : List Bytes} {s : Int × Int} (ha : hasPt v.pts a = true) (h : wk v a l = some s) : boundsM v (a :: l) = (s.1, s.2, 0) ∧ ∀ z ∈ a :: l, hasPt v.pts z = true := by
  have hp : ∀ z ∈ a :: l, hasPt v.pts z = true := fun z hz => by
    rcases List.mem_cons.1 hz with e | e
    · rw [e]; exact ha
    · exact (wk_pts ok h).1 z e
  refine ⟨?_, hp⟩
  rw [boundsM_ok hp, h]
/-- One of all paths. -/
structure PathAt (v : Net) (a b : Bytes) (q : List Bytes) (l : List Bytes) (s : Int × Int) : Prop where
  eq : q = a :: l
  bnd : boundsM v q = (s.1, s.2, 0)
  walk : wk v a l = some s
  ends : endOf a l = b
  nd : q.Nodup
  len : q.length ≤ 16
  pts : ∀ z ∈ q, hasPt v.pts z = true
theorem path_at (ok : NetOk v) {a b : Bytes} {i : Nat} {q : List Bytes} (h : (pathsM v a b).1[i]? = some q) : ∃ l s, PathAt v a b q l s := by
  obtain ⟨l, s, h1, h2, h3, h4, h5, h6, _⟩ := (pathsM_spec ok a b).2.2 q (List.mem_of_getElem? h)
  subst h1
  have := bounds_wk ok h6 h2
  exact ⟨l, s, rfl, this.1, h2, h3, h4, h5, this.2⟩
theorem path_less (ok : NetOk v) {a b : Bytes} {j : Nat} {p q : List Bytes} (h1 : (pathsM v a b).1[j]? = some p) (h2 : (pathsM v a b).1[j + 1]? = some q) : pcmp p q < 0 := by
  obtain ⟨l1, e1⟩ := List.getElem?_eq_some_iff.1 h1
  obtain ⟨l2, e2⟩ := List.getElem?_eq_some_iff.1 h2
  have := List.pairwise_iff_getElem.1 (pathsM_spec ok a b).2.1 j (j + 1) l1 l2 (by omega)
  rwa [e1, e2] at this
theorem take_no {q : List Bytes} {k : Nat} {x : Bytes} (hn : q.Nodup) (h : q[k]? = some x) : x ∉ q.take k := by
  intro hc
  obtain ⟨l1, e1⟩ := List.getElem?_eq_some_iff.1 h
  obtain ⟨i, hi, e⟩ := List.mem_iff_getElem.1 hc
  rw [List.length_take] at hi
  rw [List.getElem_take] at e
  exact List.pairwise_iff_getElem.1 hn i k (by omega) l1 (by omega) (by rw [e, e1])
theorem best_no (ok : NetOk v) {a b : Bytes} (h : bestP v a b = none) : b ∉ reachL v a := by
  intro hc
  have hb := reach_pt ok hc
  obtain ⟨ha, hr⟩ := (reachL_mem ok a b).1 hc
  rcases bestP_spec ok a b with ⟨l, d, e, _⟩ | ⟨_, e⟩
  · rw [h] at e; cases e
  · exact e ha hb hr
theorem best_yes (ok : NetOk v) {a b : Bytes} {l : List Bytes} {d : Int} (h : IsBest v a b l d) (ha : hasPt v.pts a = true) : b ∈ reachL v a := by
  obtain ⟨s, h1, _⟩ := h.walk
  exact (reachL_mem ok a b).2 ⟨ha, l, s, h1, h.ends⟩
theorem best_path {a b : Bytes} {l : List Bytes} {d : Int} (h : IsBest v a b l d) {q l' : List Bytes} {s : Int × Int} (p : PathAt v a b q l' s) : d ≤ s.1 ∧ (s.1 = d → ¬ q.length < l.length + 1 ∧ (q.length = l.length + 1 → 0 ≤ pcmp q (a :: l))) := by
  have hb := h.best l' s p.walk p.ends
  have hq := p.eq
  subst hq
  unfold ble at hb
  have han := pcmp_anti (a :: l) (a :: l')
  simp only [List.length_cons] at hb ⊢
  rcases hb with c | ⟨c, c2⟩
  · exact ⟨by omega, fun e => by omega⟩
  · refine ⟨by omega, fun _ => ⟨by omega, fun e => by omega⟩⟩
end
end Go.Toll
