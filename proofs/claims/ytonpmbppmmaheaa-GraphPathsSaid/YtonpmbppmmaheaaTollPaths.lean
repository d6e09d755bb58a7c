/-
  All simple paths between two points, in ascending order, up to a number of points; whether a path can be completed.
-/
import Derived.Test.YtonpmbppmmaheaaTollGraph
set_option linter.unusedVariables false
set_option linter.unusedSimpArgs false
namespace Go.Toll
open Go Go.Abs

def lastT (p : List Bytes) : Bytes := p.getLast?.getD []
@[simp] theorem lastT_snoc (p : List Bytes) (x : Bytes) : lastT (p ++ [x]) = x := by simp [lastT]
@[simp] theorem lastT_one (x : Bytes) : lastT [x] = x := rfl
theorem lastT_mem {p : List Bytes} (h : p ≠ []) : lastT p ∈ p := by
  rcases List.eq_nil_or_concat p with rfl | ⟨q, x, rfl⟩
  · exact absurd rfl h
  · rw [List.concat_eq_append, lastT_snoc]; simp

/-- The points that are new are marked and kept. -/
def cplAdd (st : List Bytes × List Bytes) (x : Bytes) : List Bytes × List Bytes := if x ∈ st.1 then st else (st.1 ++ [x], st.2 ++ [x])
def cplMore (v : Net) (st : List Bytes × List Bytes) (y : Bytes) : List Bytes × List Bytes := (nextL v y).foldl cplAdd st
def cplLev (v : Net) (seen front : List Bytes) : List Bytes × List Bytes := front.foldl (cplMore v) (seen, [])
def cplB (v : Net) (t : Bytes) : Nat → List Bytes → List Bytes → Bool
  | 0, _, _ => false
  | n + 1, seen, front => if t ∈ front then true else cplB v t n (cplLev v seen front).1 (cplLev v seen front).2
/-- Can a path be completed to a simple path of at most 16 points that ends with t? -/
def complB (v : Net) (p : List Bytes) (t : Bytes) : Bool := cplB v t (17 - p.length) p [lastT p]

/-- A walk of k links from a that meets no point of p. -/
def Rk (v : Net) (p : List Bytes) (a : Bytes) (k : Nat) (x : Bytes) : Prop := ∃ w s, wk v a w = some s ∧ endOf a w = x ∧ (∀ z ∈ w, z ∉ p) ∧ w.length = k
section
variable {v : Net}
theorem cplAdd_all (xs : List Bytes) : ∀ st : List Bytes × List Bytes, (∀ x, x ∈ (xs.foldl cplAdd st).1 ↔ x ∈ st.1 ∨ x ∈ xs) ∧ (∀ x, x ∈ (xs.foldl cplAdd st).2 ↔ x ∈ st.2 ∨ (x ∈ xs ∧ x ∉ st.1)) := by
  induction xs with
  | nil => intro st; simp
  | cons y xs ih =>
    intro st
    obtain ⟨i1, i2⟩ := ih (cplAdd st y)
    rw [List.foldl_cons]
    by_cases h : y ∈ st.1
    · rw [show cplAdd st y = st by rw [cplAdd, if_pos h]] at i1 i2 ⊢
      refine ⟨fun x => ?_, fun x => ?_⟩
      · rw [i1, List.mem_cons]
        constructor
        · rintro (a | a); exact .inl a; exact .inr (.inr a)
        · rintro (a | rfl | a); exact .inl a; exact .inl h; exact .inr a
      · rw [i2, List.mem_cons]
        constructor
        · rintro (a | ⟨a, b⟩); exact .inl a; exact .inr ⟨.inr a, b⟩
        · rintro (a | ⟨rfl | a, b⟩); exact .inl a; exact absurd h b; exact .inr ⟨a, b⟩
    · rw [show cplAdd st y = (st.1 ++ [y], st.2 ++ [y]) by rw [cplAdd, if_neg h]] at i1 i2 ⊢
      refine ⟨fun x => ?_, fun x => ?_⟩
      · rw [i1, List.mem_cons, List.mem_append, List.mem_singleton, or_assoc]
      · rw [i2, List.mem_cons, List.mem_append, List.mem_singleton, List.mem_append, List.mem_singleton]
        constructor
        · rintro ((a | rfl) | ⟨a, b⟩)
          · exact .inl a
          · exact .inr ⟨.inl rfl, h⟩
          · exact .inr ⟨.inr a, fun c => b (.inl c)⟩
        · rintro (a | ⟨rfl | a, b⟩)
          · exact .inl (.inl a)
          · exact .inl (.inr rfl)
          · by_cases e : x = y
            · exact .inl (.inr e)
            · exact .inr ⟨a, by rintro (c | c); exact b c; exact e c⟩
theorem cplMore_all (v : Net) (ys : List Bytes) : ∀ st : List Bytes × List Bytes, (∀ x ∈ st.2, x ∈ st.1) →
    (∀ x, x ∈ (ys.foldl (cplMore v) st).1 ↔ x ∈ st.1 ∨ ∃ y ∈ ys, x ∈ nextL v y) ∧ (∀ x, x ∈ (ys.foldl (cplMore v) st).2 ↔ x ∈ st.2 ∨ ((∃ y ∈ ys, x ∈ nextL v y) ∧ x ∉ st.1)) := by
  induction ys with
  | nil => intro st _; simp
  | cons y ys ih =>
    intro st hst
    obtain ⟨a1, a2⟩ := cplAdd_all (nextL v y) st
    have hst' : ∀ x ∈ (cplMore v st y).2, x ∈ (cplMore v st y).1 := fun x hx => by
      rw [cplMore, a2] at hx
      rw [cplMore, a1]
      rcases hx with hx | hx
      · exact .inl (hst x hx)
      · exact .inr hx.1
    obtain ⟨i1, i2⟩ := ih (cplMore v st y) hst'
    rw [List.foldl_cons]
    refine ⟨fun x => ?_, fun x => ?_⟩
    · rw [i1, cplMore, a1, or_assoc]
      simp
    · rw [i2, cplMore, a1, a2]
      constructor
      · rintro ((h | ⟨h, h'⟩) | ⟨⟨z, hz, h⟩, h'⟩)
        · exact .inl h
        · exact .inr ⟨⟨y, by simp, h⟩, h'⟩
        · exact .inr ⟨⟨z, by simp [hz], h⟩, fun c => h' (.inl c)⟩
      · rintro (h | ⟨⟨z, hz, h⟩, h'⟩)
        · exact .inl (.inl h)
        · by_cases e : x ∈ nextL v y
          · exact .inl (.inr ⟨e, h'⟩)
          · rcases List.mem_cons.1 hz with rfl | hz
            · exact absurd h e
            · exact .inr ⟨⟨z, hz, h⟩, by rintro (c | c); exact h' c; exact e c⟩
theorem cplLev_all (v : Net) (seen front : List Bytes) : (∀ x, x ∈ (cplLev v seen front).1 ↔ x ∈ seen ∨ ∃ y ∈ front, x ∈ nextL v y) ∧ (∀ x, x ∈ (cplLev v seen front).2 ↔ ((∃ y ∈ front, x ∈ nextL v y) ∧ x ∉ seen)) := by
  obtain ⟨h1, h2⟩ := cplMore_all v front (seen, []) (by simp)
  exact ⟨h1, fun x => by rw [cplLev, h2]; simp⟩
theorem Rk.step (ok : NetOk v) {p : List Bytes} {a y x : Bytes} {k : Nat} (h : Rk v p a k y) (hx : x ∈ nextL v y) (hp : x ∉ p) : Rk v p a (k + 1) x := by
  obtain ⟨w, s, h1, rfl, h3, h4⟩ := h
  obtain ⟨z, hz⟩ := (lkOf_next ok _ _).1 hx
  refine ⟨w ++ [x], _, wk_app.2 ⟨s, (z.min + 0, z.max + 0), h1, wk_cons.2 ⟨z, (0, 0), hz, rfl, rfl⟩, rfl⟩, endOf_snoc _ _ _, fun u hu => ?_, by simp [h4]⟩
  rcases List.mem_append.1 hu with hu | hu
  · exact h3 u hu
  · rw [List.mem_singleton.1 hu]; exact hp
theorem Rk.back (ok : NetOk v) {p : List Bytes} {a x : Bytes} {k : Nat} (h : Rk v p a (k + 1) x) : ∃ y, Rk v p a k y ∧ x ∈ nextL v y ∧ x ∉ p ∧ (y ∈ p → k = 0 ∧ y = a) := by
  obtain ⟨w, s, h1, h2, h3, h4⟩ := h
  rcases List.eq_nil_or_concat w with rfl | ⟨w', b, rfl⟩
  · simp at h4
  · rw [List.concat_eq_append] at h1 h2 h3 h4
    rw [endOf_snoc] at h2
    subst h2
    obtain ⟨t, u, e1, e2, _⟩ := wk_app.1 h1
    obtain ⟨z, _, e3, _, _⟩ := wk_cons.1 e2
    refine ⟨endOf a w', ⟨w', t, e1, rfl, fun z hz => h3 z (by simp [hz]), by simpa using h4⟩, (lkOf_next ok _ _).2 ⟨z, e3⟩, h3 _ (by simp), fun hy => ?_⟩
    cases w' with
    | nil => exact ⟨by simp at h4; omega, rfl⟩
    | cons c w' => exact absurd hy (h3 _ (by have := endOf_mem c w'; show endOf c w' ∈ _; rw [List.mem_append]; exact .inl this))
theorem Rk.zero {p : List Bytes} {a x : Bytes} (h : Rk v p a 0 x) : x = a := by
  obtain ⟨w, s, h1, h2, h3, h4⟩ := h
  obtain rfl := List.length_eq_zero_iff.1 h4
  exact h2.symm
theorem Rk.out {p : List Bytes} {a x : Bytes} {k : Nat} (h : Rk v p a k x) : x = a ∨ x ∉ p := by
  obtain ⟨w, s, h1, h2, h3, h4⟩ := h
  cases w with
  | nil => exact .inl h2.symm
  | cons b w =>
    right
    rw [← h2]
    exact h3 _ (endOf_mem b w)
theorem cplB_spec (ok : NetOk v) (t : Bytes) (p : List Bytes) (a : Bytes) (ha : a ∈ p) : ∀ (n k : Nat) (seen front : List Bytes), (∀ x ∈ front, Rk v p a k x) → (∀ x ∈ p, x ∈ seen) → (∀ x, (∃ j, j ≤ k ∧ Rk v p a j x) → x ∈ seen) →
    (∀ x ∈ seen, x ∈ front ∨ (∀ y ∈ nextL v x, y ∈ seen) ∨ (x ∈ p ∧ x ≠ a)) → (t ∈ seen → t ∈ front ∨ (t ∈ p ∧ t ≠ a)) → (∀ j, j < k → ¬ Rk v p a j t) →
    (cplB v t n seen front = true ↔ ∃ j, j < k + n ∧ Rk v p a j t)
  | 0, k, seen, front, i1, i2, i3, i4, i5, i6 => by
    simp only [cplB, Bool.false_eq_true, false_iff]
    rintro ⟨j, hj, h⟩
    exact i6 j (by omega) h
  | n + 1, k, seen, front, i1, i2, i3, i4, i5, i6 => by
    rw [cplB]
    by_cases hf : t ∈ front
    · rw [if_pos hf]
      simp only [true_iff]
      exact ⟨k, by omega, i1 t hf⟩
    · rw [if_neg hf]
      obtain ⟨l1, l2⟩ := cplLev_all v seen front
      have hk : ¬ Rk v p a k t := fun h => by
        rcases i5 (i3 t ⟨k, by omega, h⟩) with h1 | ⟨h1, h2⟩
        · exact hf h1
        · rcases h.out with h3 | h3
          · exact h2 h3
          · exact h3 h1
      rw [cplB_spec ok t p a ha n (k + 1) _ _ ?_ ?_ ?_ ?_ ?_ ?_]
      · constructor
        · rintro ⟨j, hj, h⟩; exact ⟨j, by omega, h⟩
        · rintro ⟨j, hj, h⟩; exact ⟨j, by omega, h⟩
      · intro x hx
        obtain ⟨⟨y, hy, hxy⟩, hxs⟩ := (l2 x).1 hx
        exact (i1 y hy).step ok hxy fun hp => hxs (i2 x hp)
      · intro x hx; exact (l1 x).2 (.inl (i2 x hx))
      · rintro x ⟨j, hj, h⟩
        rw [l1]
        rcases Nat.lt_or_ge k j with hjk | hjk
        · obtain rfl : j = k + 1 := by omega
          obtain ⟨y, hy, hxy, hxp, hyp⟩ := h.back ok
          have hys := i3 y ⟨k, by omega, hy⟩
          rcases i4 y hys with h1 | h1 | ⟨h1, h2⟩
          · exact .inr ⟨y, h1, hxy⟩
          · exact .inl (h1 x hxy)
          · exact absurd (hyp h1).2 h2
        · exact .inl (i3 x ⟨j, hjk, h⟩)
      · intro x hx
        rw [l1] at hx
        by_cases hm : x ∈ (cplLev v seen front).2
        · exact .inl hm
        · have hxs : x ∈ seen := by
            rcases hx with hx | hx
            · exact hx
            · exact Classical.byContradiction fun hc => hm ((l2 x).2 ⟨hx, hc⟩)
          rcases i4 x hxs with h1 | h1 | h1
          · exact .inr (.inl fun y hy => (l1 y).2 (.inr ⟨x, h1, hy⟩))
          · exact .inr (.inl fun y hy => (l1 y).2 (.inl (h1 y hy)))
          · exact .inr (.inr h1)
      · intro hx
        rw [l1] at hx
        by_cases hts : t ∈ seen
        · rcases i5 hts with h1 | h1
          · exact absurd h1 hf
          · exact .inr h1
        · rcases hx with hx | hx
          · exact absurd hx hts
          · exact .inl ((l2 t).2 ⟨hx, hts⟩)
      · intro j hj h
        rcases Nat.lt_or_ge j k with h1 | h1
        · exact i6 j h1 h
        · obtain rfl : j = k := by omega
          exact hk h
theorem complB_iff (ok : NetOk v) (t : Bytes) {p : List Bytes} (hp : p ≠ []) : complB v p t = true ↔ ∃ k, Rk v p (lastT p) k t ∧ p.length + k ≤ 16 := by
  rw [complB, cplB_spec ok t p (lastT p) (lastT_mem hp) (17 - p.length) 0 p [lastT p]]
  · constructor
    · rintro ⟨j, hj, h⟩; exact ⟨j, h, by omega⟩
    · rintro ⟨j, h, hj⟩; exact ⟨j, by omega, h⟩
  · intro x hx
    rw [List.mem_singleton.1 hx]
    exact ⟨[], (0, 0), rfl, rfl, by simp, rfl⟩
  · exact fun x hx => hx
  · rintro x ⟨j, hj, h⟩
    obtain rfl : j = 0 := by omega
    rw [h.zero]; exact lastT_mem hp
  · intro x hx
    by_cases e : x = lastT p
    · exact .inl (by simp [e])
    · exact .inr (.inr ⟨hx, e⟩)
  · intro ht
    by_cases e : t = lastT p
    · exact .inl (by simp [e])
    · exact .inr ⟨ht, e⟩
  · intro j hj; omega
end

/-- All simple paths that begin with a path and end with t, until there are more than 1024; n: how many points may follow. -/
def extM (v : Net) (t : Bytes) : Nat → List Bytes → List (List Bytes) → List (List Bytes)
  | 0, path, found => if lastT path = t then found ++ [path] else found
  | n + 1, path, found => if lastT path = t then found ++ [path] else (nextL v (lastT path)).foldl (fun f x => if f.length ≤ 1024 ∧ x ∉ path ∧ complB v (path ++ [x]) t = true then extM v t n (path ++ [x]) f else f) found
def pathsM (v : Net) (a b : Bytes) : List (List Bytes) × Int :=
  if hasPt v.pts a = true ∧ hasPt v.pts b = true then (if 1024 < (extM v b 15 [a] []).length then ([], 3) else (extM v b 15 [a] [], 0)) else ([], 16)

/-- A path that completes another one. -/
structure Compl (v : Net) (path : List Bytes) (t : Bytes) (q : List Bytes) : Prop where
  ex : ∃ w s, q = path ++ w ∧ wk v (lastT path) w = some s ∧ endOf (lastT path) w = t ∧ (∀ z ∈ w, z ∉ path) ∧ w.Nodup ∧ q.length ≤ 16
section
variable {v : Net}
theorem ext_fold (ok : NetOk v) (t : Bytes) (n : Nat) (path : List Bytes) (hp : path ≠ [])
    (ih : ∀ x f, x ∉ path → x ∈ nextL v (lastT path) → complB v (path ++ [x]) t = true → ∃ new, extM v t n (path ++ [x]) f = f ++ new ∧ (∀ q ∈ new, Compl v (path ++ [x]) t q) ∧ new.Pairwise fun a b => pcmp a b < 0) :
    ∀ (xs : List Bytes) (f : List (List Bytes)), ascT xs → xs.Nodup → (∀ x ∈ xs, x ∈ nextL v (lastT path)) →
      ∃ new, xs.foldl (fun f x => if f.length ≤ 1024 ∧ x ∉ path ∧ complB v (path ++ [x]) t = true then extM v t n (path ++ [x]) f else f) f = f ++ new ∧
        (∀ q ∈ new, ∃ x ∈ xs, x ∉ path ∧ Compl v (path ++ [x]) t q) ∧ new.Pairwise fun a b => pcmp a b < 0
  | [], f, _, _, _ => ⟨[], by simp, by simp, .nil⟩
  | x :: xs, f, ha, hn, hm => by
    obtain ⟨a1, a2⟩ := List.pairwise_cons.1 ha
    obtain ⟨n1, n2⟩ := List.nodup_cons.1 hn
    rw [List.foldl_cons]
    by_cases hc : f.length ≤ 1024 ∧ x ∉ path ∧ complB v (path ++ [x]) t = true
    · rw [if_pos hc]
      obtain ⟨new, e1, e2, e3⟩ := ih x f hc.2.1 (hm x List.mem_cons_self) hc.2.2
      obtain ⟨new', i1, i2, i3⟩ := ext_fold ok t n path hp ih xs (extM v t n (path ++ [x]) f) a2 n2 fun y hy => hm y (List.mem_cons_of_mem _ hy)
      refine ⟨new ++ new', by rw [i1, e1, List.append_assoc], fun q hq => ?_, List.pairwise_append.2 ⟨e3, i3, fun q hq r hr => ?_⟩⟩
      · rcases List.mem_append.1 hq with hq | hq
        · exact ⟨x, List.mem_cons_self, hc.2.1, e2 q hq⟩
        · obtain ⟨y, hy, h⟩ := i2 q hq
          exact ⟨y, List.mem_cons_of_mem _ hy, h⟩
      · obtain ⟨w, s, rfl, _⟩ := (e2 q hq).ex
        obtain ⟨y, hy, _, hY⟩ := i2 r hr
        obtain ⟨w', s', rfl, _⟩ := hY.ex
        rw [List.append_assoc, List.append_assoc, pcmp_pre]
        show pcmp (x :: w) (y :: w') < 0
        have hle : cmpS x y ≤ 0 := (cmpS_le x y).2 (of_decide_eq_true (a1 y hy))
        have hne : cmpS x y ≠ 0 := fun e => n1 (cmpS_zero.1 e ▸ hy)
        rw [pcmp, if_neg hne]; omega
    · rw [if_neg hc]
      obtain ⟨new', i1, i2, i3⟩ := ext_fold ok t n path hp ih xs f a2 n2 fun y hy => hm y (List.mem_cons_of_mem _ hy)
      exact ⟨new', i1, fun q hq => by obtain ⟨y, hy, h⟩ := i2 q hq; exact ⟨y, List.mem_cons_of_mem _ hy, h⟩, i3⟩
theorem Compl.cons (ok : NetOk v) {path : List Bytes} {t x : Bytes} {q : List Bytes} (hx : x ∈ nextL v (lastT path)) (hp : x ∉ path) (h : Compl v (path ++ [x]) t q) : Compl v path t q := by
  obtain ⟨w, s, rfl, h1, h2, h3, h4, h5⟩ := h.ex
  rw [lastT_snoc] at h1 h2
  obtain ⟨z, hz⟩ := (lkOf_next ok _ _).1 hx
  refine ⟨x :: w, _, by simp, wk_cons.2 ⟨z, s, hz, h1, rfl⟩, h2, fun u hu => ?_, List.nodup_cons.2 ⟨fun hm => ?_, h4⟩, h5⟩
  · rcases List.mem_cons.1 hu with rfl | hu
    · exact hp
    · exact fun hc => h3 u hu (by simp [hc])
  · exact h3 x hm (by simp)
theorem extM_spec (ok : NetOk v) (t : Bytes) : ∀ (n : Nat) (path : List Bytes) (f : List (List Bytes)), path ≠ [] → path.length + n = 16 →
    ∃ new, extM v t n path f = f ++ new ∧ (∀ q ∈ new, Compl v path t q) ∧ new.Pairwise fun a b => pcmp a b < 0
  | 0, path, f, hp, hl => by
    rw [extM]
    split
    · rename_i e
      exact ⟨[path], rfl, fun q hq => ⟨[], (0, 0), by rw [List.mem_singleton.1 hq]; simp, rfl, e, by simp, by simp, by rw [List.mem_singleton.1 hq]; omega⟩, List.pairwise_singleton _ _⟩
    · exact ⟨[], by simp, by simp, .nil⟩
  | n + 1, path, f, hp, hl => by
    rw [extM]
    split
    · rename_i e
      exact ⟨[path], rfl, fun q hq => ⟨[], (0, 0), by rw [List.mem_singleton.1 hq]; simp, rfl, e, by simp, by simp, by rw [List.mem_singleton.1 hq]; omega⟩, List.pairwise_singleton _ _⟩
    · obtain ⟨new, e1, e2, e3⟩ := ext_fold ok t n path hp (fun x f hx hm hc => extM_spec ok t n (path ++ [x]) f (by simp) (by simp; omega)) _ f (nextL_asc v _) (ok.nextnd _) fun x hx => hx
      refine ⟨new, e1, fun q hq => ?_, e3⟩
      obtain ⟨x, hx, hxp, h⟩ := e2 q hq
      exact h.cons ok hx hxp
theorem extM_len (ok : NetOk v) (t : Bytes) (n : Nat) (path : List Bytes) (f : List (List Bytes)) (hp : path ≠ []) (hl : path.length + n = 16) : f.length ≤ (extM v t n path f).length := by
  obtain ⟨new, e, _⟩ := extM_spec ok t n path f hp hl
  rw [e]; simp
/-- Where the path can be completed, a path is found. -/
theorem extM_grow (ok : NetOk v) (t : Bytes) : ∀ (n : Nat) (path : List Bytes) (f : List (List Bytes)), path ≠ [] → path.length + n = 16 → f.length ≤ 1024 → (∃ k, Rk v path (lastT path) k t ∧ path.length + k ≤ 16) → f.length < (extM v t n path f).length
  | 0, path, f, hp, hl, hf, ⟨k, h, hk⟩ => by
    obtain rfl : k = 0 := by omega
    rw [extM, if_pos h.zero.symm]; simp
  | n + 1, path, f, hp, hl, hf, ⟨k, h, hk⟩ => by
    rw [extM]
    by_cases e : lastT path = t
    · rw [if_pos e]; simp
    · rw [if_neg e]
      obtain ⟨w, s, h1, h2, h3, h4⟩ := h
      obtain ⟨w', s', q1, q2, q3, q4, q5⟩ := simple_le ok _ _ w s (Nat.le_refl _) h1
      have hl' : w'.length ≤ w.length := by rcases q5 with rfl | ⟨_, q5⟩ <;> omega
      rw [h2] at q2
      cases w' with
      | nil => exact absurd q2 e
      | cons x w' =>
        obtain ⟨z, s'', z1, z2, _⟩ := wk_cons.1 q1
        have hxp : x ∉ path := h3 x (q4 x (by simp))
        have hxn : x ∈ nextL v (lastT path) := (lkOf_next ok _ _).2 ⟨z, z1⟩
        have hn := (List.nodup_cons.1 q3).2
        have hxw := (List.nodup_cons.1 hn).1
        have hR : ∃ k, Rk v (path ++ [x]) (lastT (path ++ [x])) k t ∧ (path ++ [x]).length + k ≤ 16 := by
          refine ⟨w'.length, ⟨w', s'', by rw [lastT_snoc]; exact z2, by rw [lastT_snoc]; exact q2, fun u hu hc => ?_, rfl⟩, by simp at hl' ⊢; omega⟩
          rcases List.mem_append.1 hc with hc | hc
          · exact h3 u (q4 u (by simp [hu])) hc
          · exact hxw (List.mem_singleton.1 hc ▸ hu)
        have hcb := (complB_iff ok t (p := path ++ [x]) (by simp)).2 hR
        have mono : ∀ (xs : List Bytes) (g : List (List Bytes)), g.length ≤ (xs.foldl (fun f x => if f.length ≤ 1024 ∧ x ∉ path ∧ complB v (path ++ [x]) t = true then extM v t n (path ++ [x]) f else f) g).length := by
          intro xs
          induction xs with
          | nil => intro g; simp
          | cons y xs ih =>
            intro g
            rw [List.foldl_cons]
            refine Nat.le_trans ?_ (ih _)
            split
            · exact extM_len ok t n _ _ (by simp) (by simp; omega)
            · exact Nat.le_refl _
        have key : ∀ (xs : List Bytes) (g : List (List Bytes)), x ∈ xs → f.length ≤ g.length → f.length < (xs.foldl (fun f x => if f.length ≤ 1024 ∧ x ∉ path ∧ complB v (path ++ [x]) t = true then extM v t n (path ++ [x]) f else f) g).length := by
          intro xs
          induction xs with
          | nil => intro g h; cases h
          | cons y xs ih =>
            intro g hm hg
            rw [List.foldl_cons]
            by_cases ey : y = x
            · subst ey
              refine Nat.lt_of_lt_of_le ?_ (mono xs _)
              by_cases hg2 : g.length ≤ 1024
              · rw [if_pos ⟨hg2, hxp, hcb⟩]
                exact Nat.lt_of_le_of_lt hg (extM_grow ok t n _ g (by simp) (by simp; omega) hg2 hR)
              · rw [if_neg (by rintro ⟨c, _⟩; omega)]; omega
            · refine ih _ (by rcases List.mem_cons.1 hm with rfl | hm; exact absurd rfl ey; exact hm) (Nat.le_trans hg ?_)
              split
              · exact extM_len ok t n _ _ (by simp) (by simp; omega)
              · exact Nat.le_refl _
        exact key _ f hxn (Nat.le_refl _)
/-- The paths are simple, ascend, and have the given ends. -/
theorem pathsM_spec (ok : NetOk v) (a b : Bytes) : (pathsM v a b).1.length ≤ 1024 ∧ ((pathsM v a b).1.Pairwise fun p q => pcmp p q < 0) ∧
    ∀ q ∈ (pathsM v a b).1, ∃ l s, q = a :: l ∧ wk v a l = some s ∧ endOf a l = b ∧ q.Nodup ∧ q.length ≤ 16 ∧ hasPt v.pts a = true ∧ hasPt v.pts b = true := by
  obtain ⟨new, e1, e2, e3⟩ := extM_spec ok b 15 [a] [] (by simp) rfl
  unfold pathsM
  split
  · rename_i hh
    split
    · simp
    · rename_i hl
      refine ⟨by show (extM v b 15 [a] []).length ≤ 1024; omega, by show (extM v b 15 [a] []).Pairwise _; rw [e1]; exact e3, fun q hq => ?_⟩
      have hq : q ∈ extM v b 15 [a] [] := hq
      rw [e1] at hq
      obtain ⟨w, s, rfl, h1, h2, h3, h4, h5⟩ := (e2 q hq).ex
      exact ⟨w, s, rfl, h1, h2, List.nodup_cons.2 ⟨fun hm => h3 a hm (by simp), h4⟩, h5, hh⟩
  · simp
theorem pathsM_err (v : Net) (a b : Bytes) : (pathsM v a b).2 ≠ 0 → (pathsM v a b).1 = [] := by
  unfold pathsM
  split
  · split <;> simp
  · simp
theorem pathsM_some (ok : NetOk v) {a b : Bytes} {l : List Bytes} {s : Int × Int} (h0 : (pathsM v a b).2 = 0) (h1 : wk v a l = some s) (h2 : endOf a l = b) (h3 : (a :: l).Nodup) (h4 : l.length ≤ 15) : (pathsM v a b).1 ≠ [] := by
  unfold pathsM at h0 ⊢
  split at h0
  · rename_i hh
    rw [if_pos hh]
    split at h0
    · cases h0
    · rename_i hl
      rw [if_neg hl]
      have := extM_grow ok b 15 [a] [] (by simp) rfl (by simp) ⟨l.length, ⟨l, s, h1, h2, fun z hz hc => (List.nodup_cons.1 h3).1 (List.mem_singleton.1 hc ▸ hz), rfl⟩, by simp; omega⟩
      intro e
      rw [show (extM v b 15 [a] [], (0 : Int)).1 = extM v b 15 [a] [] from rfl] at e
      rw [e] at this
      simp at this
  · cases h0
/-! ### Step by step -/
def extS (v : Net) (t : Bytes) (n : Nat) (path : List Bytes) (f : List (List Bytes)) (x : Bytes) : List (List Bytes) :=
  if f.length ≤ 1024 ∧ x ∉ path ∧ complB v (path ++ [x]) t = true then (match n with | 0 => f | n + 1 => extM v t n (path ++ [x]) f) else f
def extF (v : Net) (t : Bytes) (n : Nat) (path : List Bytes) (f : List (List Bytes)) (k : Nat) : List (List Bytes) := ((nextL v (lastT path)).take k).foldl (extS v t n path) f
theorem extS_neg {v : Net} {t : Bytes} {n : Nat} {path : List Bytes} {f : List (List Bytes)} {x : Bytes} (h : ¬ (f.length ≤ 1024 ∧ x ∉ path ∧ complB v (path ++ [x]) t = true)) : extS v t n path f x = f := by
  unfold extS; rw [if_neg h]
theorem extS_pos {v : Net} {t : Bytes} {n : Nat} {path : List Bytes} {f : List (List Bytes)} {x : Bytes} (h : f.length ≤ 1024 ∧ x ∉ path ∧ complB v (path ++ [x]) t = true) : extS v t (n + 1) path f x = extM v t n (path ++ [x]) f := by
  unfold extS; rw [if_pos h]
theorem extF_zero (v : Net) (t : Bytes) (n : Nat) (path : List Bytes) (f : List (List Bytes)) : extF v t n path f 0 = f := rfl
theorem extF_succ {v : Net} {t : Bytes} {n : Nat} {path : List Bytes} {f : List (List Bytes)} {k : Nat} {x : Bytes} (h : (nextL v (lastT path))[k]? = some x) : extF v t n path f (k + 1) = extS v t n path (extF v t n path f k) x := by
  rw [extF, List.take_add_one, h, Option.toList_some, List.foldl_append]; rfl
theorem extF_all {v : Net} {t : Bytes} {n : Nat} {path : List Bytes} {f : List (List Bytes)} (h : lastT path ≠ t) : extF v t n path f (nextL v (lastT path)).length = extM v t n path f := by
  rw [extF, List.take_length]
  cases n with
  | zero =>
    rw [extM, if_neg h]
    generalize nextL v (lastT path) = l
    induction l with
    | nil => rfl
    | cons x l ih =>
      rw [List.foldl_cons]
      have : extS v t 0 path f x = f := by unfold extS; split <;> rfl
      rw [this, ih]
  | succ n => rw [extM, if_neg h]; rfl
theorem extM_leaf {v : Net} {t : Bytes} {n : Nat} {path : List Bytes} {f : List (List Bytes)} (h : lastT path = t) : extM v t n path f = f ++ [path] := by
  cases n <;> rw [extM, if_pos h]
theorem extM_le (v : Net) (t : Bytes) : ∀ (n : Nat) (path : List Bytes) (f : List (List Bytes)), f.length ≤ 1024 → (extM v t n path f).length ≤ 1025
  | 0, path, f, h => by
    rw [extM]; split
    · simp; omega
    · omega
  | n + 1, path, f, h => by
    rw [extM]; split
    · simp; omega
    · have : ∀ (l : List Bytes) (f : List (List Bytes)), f.length ≤ 1025 → (l.foldl (fun f x => if f.length ≤ 1024 ∧ x ∉ path ∧ complB v (path ++ [x]) t = true then extM v t n (path ++ [x]) f else f) f).length ≤ 1025 := by
        intro l
        induction l with
        | nil => intro f h; exact h
        | cons x l ih =>
          intro f h
          rw [List.foldl_cons]
          refine ih _ ?_
          split
          · rename_i hc
            exact extM_le v t n _ f hc.1
          · exact h
      exact this _ f (by omega)
theorem extS_le (v : Net) (t : Bytes) (n : Nat) (path : List Bytes) (f : List (List Bytes)) (x : Bytes) (h : f.length ≤ 1025) : (extS v t n path f x).length ≤ 1025 := by
  unfold extS
  split
  · rename_i hc
    cases n with
    | zero => exact h
    | succ n => exact extM_le v t n _ f hc.1
  · exact h
theorem extF_le (v : Net) (t : Bytes) (n : Nat) (path : List Bytes) (f : List (List Bytes)) (h : f.length ≤ 1025) : ∀ k, (extF v t n path f k).length ≤ 1025
  | 0 => h
  | k + 1 => by
    cases e : (nextL v (lastT path))[k]? with
    | none =>
      have : extF v t n path f (k + 1) = extF v t n path f k := by rw [extF, extF, List.take_add_one, e]; simp
      rw [this]; exact extF_le v t n path f h k
    | some x => rw [extF_succ e]; exact extS_le v t n path _ x (extF_le v t n path f h k)
end
end Go.Toll
