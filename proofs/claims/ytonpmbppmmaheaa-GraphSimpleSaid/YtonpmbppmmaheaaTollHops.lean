/-
  How many links lead from a point to another one at least, past the points of a path: a search with a queue.
-/
import Derived.Test.YtonpmbppmmaheaaTollBfs
set_option linter.unusedVariables false
set_option linter.unusedSimpArgs false
namespace Go.Toll
open Go Go.Abs

def farA (v : Net) (far : List Int) (s : Bytes) : Int := far.getD (posN v s) 0
def hopSeen (v : Net) (far : List Int) (y s : Bytes) : Prop := s = y ∨ farA v far s ≠ 0
/-- Between two points of the queue. -/
structure Hop (v : Net) (p : List Bytes) (y t : Bytes) (far : List Int) (Q : List Bytes) : Prop where
  len : far.length = (ptsN v).length
  start : farA v far y = 0
  qs : ∀ s ∈ Q, hasPt v.pts s = true ∧ hopSeen v far y s
  walk : ∀ s, hasPt v.pts s = true → hopSeen v far y s → 0 ≤ farA v far s ∧ Rk v (p ++ [y]) y (farA v far s).toNat s
  sorted : Q.Pairwise fun a b => farA v far a ≤ farA v far b
  near : ∀ u, Q.head? = some u → ∀ s, hasPt v.pts s = true → hopSeen v far y s → farA v far s ≤ farA v far u + 1
  closed : ∀ s, hasPt v.pts s = true → hopSeen v far y s → s ∈ Q ∨ (s ≠ t ∧ ∀ x ∈ v.lks, x.src = s → x.dst ∈ p ++ [y] ∨ (hopSeen v far y x.dst ∧ farA v far x.dst ≤ farA v far s + 1))
/-- While the links of u are looked at: the first k are done. -/
structure HopM (v : Net) (p : List Bytes) (y t : Bytes) (far : List Int) (Q : List Bytes) (u : Bytes) (k : Nat) : Prop where
  len : far.length = (ptsN v).length
  start : farA v far y = 0
  qs : ∀ s ∈ Q, hasPt v.pts s = true ∧ hopSeen v far y s
  walk : ∀ s, hasPt v.pts s = true → hopSeen v far y s → 0 ≤ farA v far s ∧ Rk v (p ++ [y]) y (farA v far s).toNat s
  at' : hasPt v.pts u = true ∧ hopSeen v far y u ∧ u ≠ t
  sorted : Q.Pairwise fun a b => farA v far a ≤ farA v far b
  low : ∀ s ∈ Q, farA v far u ≤ farA v far s
  near : ∀ s, hasPt v.pts s = true → hopSeen v far y s → farA v far s ≤ farA v far u + 1
  done : ∀ j s, j < k → (nextL v u)[j]? = some s → s ∈ p ++ [y] ∨ hopSeen v far y s
  closed : ∀ s, hasPt v.pts s = true → hopSeen v far y s → s = u ∨ s ∈ Q ∨ (s ≠ t ∧ ∀ x ∈ v.lks, x.src = s → x.dst ∈ p ++ [y] ∨ (hopSeen v far y x.dst ∧ farA v far x.dst ≤ farA v far s + 1))
section
variable {v : Net} {p : List Bytes} {y t : Bytes} {far : List Int} {Q : List Bytes}
theorem farA_set (ok : NetOk v) {s d : Bytes} (hl : far.length = (ptsN v).length) (hd : hasPt v.pts d = true) (hs : hasPt v.pts s = true) (n : Int) : farA v (far.set (posN v d) n) s = if s = d then n else farA v far s := by
  rw [farA, farA, List.getD_eq_getElem?_getD, List.getD_eq_getElem?_getD]
  by_cases e : s = d
  · subst e
    rw [List.getElem?_set_self (by rw [hl]; exact posN_lt hs), if_pos rfl]; rfl
  · rw [List.getElem?_set_ne (fun h => e (posN_inj ok hd hs h).symm), if_neg e]
theorem farA_get {s : Bytes} (hl : far.length = (ptsN v).length) (hs : hasPt v.pts s = true) : far[posN v s]? = some (farA v far s) := by
  have h : posN v s < far.length := by rw [hl]; exact posN_lt hs
  rw [farA, List.getD_eq_getElem?_getD, List.getElem?_eq_getElem h]; rfl
theorem Hop.first (ok : NetOk v) (hy : hasPt v.pts y = true) : Hop v p y t (List.replicate (ptsN v).length 0) [y] := by
  have h0 : ∀ s, farA v (List.replicate (ptsN v).length 0) s = 0 := fun s => by
    rw [farA, List.getD_eq_getElem?_getD, List.getElem?_replicate]
    split <;> rfl
  have hs : ∀ s, hopSeen v (List.replicate (ptsN v).length 0) y s ↔ s = y := fun s => by
    unfold hopSeen; rw [h0]; simp
  refine ⟨by simp, h0 y, fun s hm => ?_, fun s hp h => ?_, by simp, fun u hu s hp h => ?_, fun s hp h => ?_⟩
  · rw [List.mem_singleton.1 hm]; exact ⟨hy, .inl rfl⟩
  · rw [(hs s).1 h, h0]
    exact ⟨by omega, [], (0, 0), rfl, rfl, by simp, rfl⟩
  · rw [h0, h0]; omega
  · rw [(hs s).1 h]; exact .inl (by simp)
/-- What is reached by a walk is seen, or the queue's head is no farther. -/
theorem Hop.claim (ok : NetOk v) (hp : Hop v p y t far Q) (hy : hasPt v.pts y = true) : ∀ k s, Rk v (p ++ [y]) y k s → hasPt v.pts s = true → (hopSeen v far y s ∧ farA v far s ≤ k) ∨ ∃ u, Q.head? = some u ∧ farA v far u ≤ k
  | 0, s, h, _ => by
    rw [h.zero]
    exact .inl ⟨.inl rfl, by rw [hp.start]; simp⟩
  | k + 1, s, h, hs => by
    obtain ⟨s', h1, h2, h3, h4⟩ := h.back ok
    have hs' : hasPt v.pts s' = true := by
      obtain ⟨x, hx, e, _⟩ := (nextL_mem v s' s).1 h2
      rw [← e]; exact (ok.ends x hx).1
    rcases hp.claim ok hy k s' h1 hs' with ⟨c1, c2⟩ | ⟨u, c1, c2⟩
    · rcases hp.closed s' hs' c1 with hq | ⟨_, hc⟩
      · right
        cases Q with
        | nil => cases hq
        | cons u Q =>
          refine ⟨u, rfl, ?_⟩
          have hsu : farA v far u ≤ farA v far s' := by
            rcases List.mem_cons.1 hq with rfl | hq
            · exact Int.le_refl _
            · exact (List.pairwise_cons.1 hp.sorted).1 s' hq
          omega
      · obtain ⟨x, hx, e1, e2⟩ := (nextL_mem v s' s).1 h2
        rcases hc x hx e1 with h5 | ⟨h5, h6⟩
        · rw [e2] at h5; exact absurd h5 h3
        · rw [e2] at h5 h6
          left
          exact ⟨h5, by omega⟩
    · exact .inr ⟨u, c1, by omega⟩
/-- A walk that meets no point of p is no longer than the points are many, at best. -/
theorem Rk.short (ok : NetOk v) {q : List Bytes} (hy : hasPt v.pts y = true) {k : Nat} {s : Bytes} (h : Rk v q y k s) : ∃ k', k' ≤ k ∧ k' ≤ 63 ∧ Rk v q y k' s := by
  obtain ⟨w, c, h1, h2, h3, h4⟩ := h
  obtain ⟨w', c', q1, q2, q3, q4, q5⟩ := simple_le ok _ y w c (Nat.le_refl _) h1
  have hl := simple_len ok q1 hy q3
  have hp := ok.plen
  refine ⟨w'.length, by rcases q5 with rfl | ⟨_, q5⟩ <;> omega, by omega, w', c', q1, by rw [q2, h2], fun z hz => h3 z (q4 z hz), rfl⟩
theorem Hop.head_short (ok : NetOk v) {u : Bytes} (hp : Hop v p y t far (u :: Q)) (hy : hasPt v.pts y = true) : 0 ≤ farA v far u ∧ farA v far u ≤ 63 := by
  obtain ⟨h1, h2⟩ := hp.qs u List.mem_cons_self
  obtain ⟨w1, w2⟩ := hp.walk u h1 h2
  obtain ⟨k', k1, k2, k3⟩ := w2.short ok hy
  rcases hp.claim ok hy k' u k3 h1 with ⟨_, c⟩ | ⟨u', c1, c2⟩
  · omega
  · obtain rfl : u = u' := Option.some.inj c1
    omega
theorem Hop.found (ok : NetOk v) (hp : Hop v p y t far (t :: Q)) (hy : hasPt v.pts y = true) : Rk v (p ++ [y]) y (farA v far t).toNat t ∧ ∀ k, Rk v (p ++ [y]) y k t → (farA v far t).toNat ≤ k := by
  obtain ⟨h1, h2⟩ := hp.qs t List.mem_cons_self
  refine ⟨(hp.walk t h1 h2).2, fun k h => ?_⟩
  rcases hp.claim ok hy k t h h1 with ⟨_, c⟩ | ⟨u', c1, c2⟩
  · omega
  · obtain rfl : t = u' := Option.some.inj c1
    omega
theorem Hop.none (ok : NetOk v) (hp : Hop v p y t far []) (hy : hasPt v.pts y = true) (ht : hasPt v.pts t = true) (k : Nat) : ¬ Rk v (p ++ [y]) y k t := fun h => by
  rcases hp.claim ok hy k t h ht with ⟨c, _⟩ | ⟨u', c1, _⟩
  · rcases hp.closed t ht c with h1 | ⟨h1, _⟩
    · cases h1
    · exact h1 rfl
  · cases c1
theorem Hop.pop {u : Bytes} (hp : Hop v p y t far (u :: Q)) (hu : u ≠ t) : HopM v p y t far Q u 0 := by
  obtain ⟨s1, s2⟩ := List.pairwise_cons.1 hp.sorted
  obtain ⟨h1, h2⟩ := hp.qs u List.mem_cons_self
  refine ⟨hp.len, hp.start, fun s hs => hp.qs s (List.mem_cons_of_mem _ hs), hp.walk, ⟨h1, h2, hu⟩, s2, s1, hp.near u rfl, fun j s hj => by omega, fun s hs hh => ?_⟩
  rcases hp.closed s hs hh with h | h
  · rcases List.mem_cons.1 h with rfl | h
    · exact .inl rfl
    · exact .inr (.inl h)
  · exact .inr (.inr h)
theorem HopM.old {u d : Bytes} {k : Nat} (m : HopM v p y t far Q u k) (hd : (nextL v u)[k]? = some d) (h : d ∈ p ++ [y] ∨ hopSeen v far y d) : HopM v p y t far Q u (k + 1) := by
  refine ⟨m.len, m.start, m.qs, m.walk, m.at', m.sorted, m.low, m.near, fun j s hj hs => ?_, m.closed⟩
  rcases Nat.lt_or_ge j k with h1 | h1
  · exact m.done j s h1 hs
  · obtain rfl : j = k := by omega
    rw [hd] at hs
    obtain rfl := Option.some.inj hs
    exact h
theorem HopM.new (ok : NetOk v) {u d : Bytes} {k : Nat} (m : HopM v p y t far Q u k) (hd : (nextL v u)[k]? = some d) (hz : farA v far d = 0) (hdy : d ≠ y) (hdp : d ∉ p) (hy : hasPt v.pts y = true) :
    HopM v p y t (far.set (posN v d) (farA v far u + 1)) (Q ++ [d]) u (k + 1) := by
  have hdm := List.mem_of_getElem? hd
  have hdpt := next_pt ok hdm
  obtain ⟨u1, u2, u3⟩ := m.at'
  obtain ⟨w1, w2⟩ := m.walk u u1 u2
  have hnd : ¬ hopSeen v far y d := by
    rintro (e | e)
    · exact hdy e
    · exact e hz
  have hne : ∀ s, hopSeen v far y s → s ≠ d := fun s h e => hnd (e ▸ h)
  have key : ∀ s, hasPt v.pts s = true → farA v (far.set (posN v d) (farA v far u + 1)) s = if s = d then farA v far u + 1 else farA v far s := fun s hs => farA_set ok m.len hdpt hs _
  have old : ∀ s, hasPt v.pts s = true → hopSeen v far y s → farA v (far.set (posN v d) (farA v far u + 1)) s = farA v far s := fun s hs h => by rw [key s hs, if_neg (hne s h)]
  have seen : ∀ s, hasPt v.pts s = true → (hopSeen v (far.set (posN v d) (farA v far u + 1)) y s ↔ s = d ∨ hopSeen v far y s) := fun s hs => by
    unfold hopSeen
    rw [key s hs]
    by_cases e : s = d
    · rw [if_pos e]
      exact ⟨fun _ => .inl e, fun _ => .inr (by omega)⟩
    · rw [if_neg e]
      constructor
      · exact fun h => .inr h
      · rintro (h | h)
        · exact absurd h e
        · exact h
  have hfd : farA v (far.set (posN v d) (farA v far u + 1)) d = farA v far u + 1 := by rw [key d hdpt, if_pos rfl]
  have hfu := old u u1 u2
  refine ⟨by rw [List.length_set]; exact m.len, by rw [old y hy (.inl rfl)]; exact m.start, fun s hs => ?_, fun s hs h => ?_, ⟨u1, (seen u u1).2 (.inr u2), u3⟩, ?_, fun s hs => ?_, fun s hs h => ?_, fun j s hj hs => ?_, fun s hs h => ?_⟩
  · rcases List.mem_append.1 hs with hs | hs
    · exact ⟨(m.qs s hs).1, (seen s (m.qs s hs).1).2 (.inr (m.qs s hs).2)⟩
    · rw [List.mem_singleton.1 hs]; exact ⟨hdpt, (seen d hdpt).2 (.inl rfl)⟩
  · rcases (seen s hs).1 h with rfl | h
    · rw [hfd]
      refine ⟨by omega, ?_⟩
      have : (farA v far u + 1).toNat = (farA v far u).toNat + 1 := by omega
      rw [this]
      exact w2.step ok hdm (by simp [hdp, hdy])
    · rw [old s hs h]; exact m.walk s hs h
  · refine List.pairwise_append.2 ⟨List.Pairwise.imp_of_mem (fun ha hb h => ?_) m.sorted, List.pairwise_singleton _ _, fun a ha b hb => ?_⟩
    · rw [old _ (m.qs _ ha).1 (m.qs _ ha).2, old _ (m.qs _ hb).1 (m.qs _ hb).2]; exact h
    · rw [List.mem_singleton.1 hb, hfd, old a (m.qs a ha).1 (m.qs a ha).2]
      exact m.near a (m.qs a ha).1 (m.qs a ha).2
  · rw [hfu]
    rcases List.mem_append.1 hs with hs | hs
    · rw [old s (m.qs s hs).1 (m.qs s hs).2]; exact m.low s hs
    · rw [List.mem_singleton.1 hs, hfd]; omega
  · rw [hfu]
    rcases (seen s hs).1 h with rfl | h
    · rw [hfd]; omega
    · rw [old s hs h]; exact m.near s hs h
  · have hsp := next_pt ok (List.mem_of_getElem? hs)
    rcases Nat.lt_or_ge j k with h1 | h1
    · rcases m.done j s h1 hs with h2 | h2
      · exact .inl h2
      · exact .inr ((seen s hsp).2 (.inr h2))
    · obtain rfl : j = k := by omega
      rw [hd] at hs
      obtain rfl := Option.some.inj hs
      exact .inr ((seen d hsp).2 (.inl rfl))
  · rcases (seen s hs).1 h with rfl | h
    · exact .inr (.inl (by simp))
    · rcases m.closed s hs h with h1 | h1 | ⟨h1, h2⟩
      · exact .inl h1
      · exact .inr (.inl (by simp [h1]))
      · refine .inr (.inr ⟨h1, fun x hx e => ?_⟩)
        rcases h2 x hx e with h3 | ⟨h3, h4⟩
        · exact .inl h3
        · have := (ok.ends x hx).2.1
          rw [old x.dst this h3, old s hs h]
          exact .inr ⟨(seen x.dst this).2 (.inr h3), h4⟩
theorem HopM.finish (ok : NetOk v) {u : Bytes} (m : HopM v p y t far Q u (nextL v u).length) : Hop v p y t far Q := by
  obtain ⟨u1, u2, u3⟩ := m.at'
  refine ⟨m.len, m.start, m.qs, m.walk, m.sorted, fun w hw s hs h => ?_, fun s hs h => ?_⟩
  · have h1 := m.near s hs h
    have h2 : farA v far u ≤ farA v far w := by
      cases Q with
      | nil => cases hw
      | cons w' Q =>
        obtain rfl : w' = w := Option.some.inj hw
        exact m.low _ List.mem_cons_self
    omega
  · rcases m.closed s hs h with rfl | h1 | h1
    · right
      refine ⟨u3, fun x hx e => ?_⟩
      have hm : x.dst ∈ nextL v s := (nextL_mem v s x.dst).2 ⟨x, hx, e, rfl⟩
      obtain ⟨j, hj⟩ := List.getElem?_of_mem hm
      rcases m.done j _ (List.getElem?_eq_some_iff.1 hj).1 hj with h2 | h2
      · exact .inl h2
      · exact .inr ⟨h2, m.near _ (ok.ends x hx).2.1 h2⟩
    · exact .inl h1
    · exact .inr h1
theorem zeros_set {far : List Int} {i : Nat} {n : Int} (h : far[i]? = some 0) (hn : n ≠ 0) : (far.set i n).count 0 + 1 = far.count 0 := by
  induction far generalizing i with
  | nil => simp at h
  | cons b far ih =>
    cases i with
    | zero =>
      simp at h; subst h
      simp [List.count_cons, hn]
    | succ i =>
      have := ih (i := i) (by simpa using h)
      rw [List.set_cons_succ, List.count_cons, List.count_cons]
      omega
/-- What the search answers. -/
def hopsR (v : Net) (p : List Bytes) (y t : Bytes) (n : Int) : Prop := (n = -1 ∧ ∀ k, ¬ Rk v (p ++ [y]) y k t) ∨ (0 ≤ n ∧ n ≤ 63 ∧ Rk v (p ++ [y]) y n.toNat t ∧ ∀ k, Rk v (p ++ [y]) y k t → n.toNat ≤ k)
theorem hopsR_compl (ok : NetOk v) {p : List Bytes} {y t : Bytes} {n : Int} (h : hopsR v p y t n) : complB v (p ++ [y]) t = decide (0 ≤ n ∧ (p.length : Int) + 1 + n ≤ 16) := by
  rw [Bool.eq_iff_iff, complB_iff ok t (by simp), decide_eq_true_iff, lastT_snoc]
  rcases h with ⟨rfl, h⟩ | ⟨h0, h63, h1, h2⟩
  · constructor
    · rintro ⟨k, hk, _⟩; exact absurd hk (h k)
    · rintro ⟨h, _⟩; omega
  · constructor
    · rintro ⟨k, hk, hl⟩
      have := h2 k hk
      simp at hl
      omega
    · rintro ⟨_, hl⟩
      exact ⟨n.toNat, h1, by simp; omega⟩
end
end Go.Toll
