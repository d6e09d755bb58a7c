/-
  Networks that are valid; the points, the links that leave them, walks and what they take.
  The best path between two points: the shortest duration, then the fewest points, then the first in ascending order.
  All simple paths between two points, in ascending order, up to a number of points; whether a path can be completed.
  The prepared network: the points' names in ascending order, their numbers, and for each of them the roads that leave it.
  Searches with a queue: the points that can be reached.
  What the best paths to a point cost: values that are improved until none can be improved; the path that follows them.
  How many links lead from a point to another one at least, past the points of a path: a search with a queue.
  One round of the search for a completion, step by step.
  What the laws of networks say of points, best paths and all paths.
-/
import Derived.Test.YtiidghfioofpkaaGreatTollNet
import Derived.Test.YtiidghfioofpkaaGreatTollText
set_option linter.unusedVariables false
set_option linter.unusedSimpArgs false

section 

namespace Go.Toll
open Go Go.Abs

/-! ### Valid networks -/
structure NetOk (v : Net) : Prop where
  plen : v.pts.length ≤ 64
  llen : v.lks.length ≤ 128
  nd : (v.pts.map (·.name)).Nodup
  short : ∀ p ∈ v.pts, nameB p.name = true
  ends : ∀ x ∈ v.lks, hasPt v.pts x.src = true ∧ hasPt v.pts x.dst = true ∧ x.src ≠ x.dst
  one : v.lks.Pairwise fun x y => ¬ (x.src = y.src ∧ x.dst = y.dst)
  rng : ∀ x ∈ v.lks, 1 ≤ x.min ∧ x.min ≤ x.max ∧ x.max ≤ 2147483648

theorem hasPt_iff (l : List Pt) (s : Bytes) : hasPt l s = true ↔ s ∈ l.map (·.name) := by
  rw [hasPt, List.any_eq_true, List.mem_map]
  constructor
  · rintro ⟨p, hp, h⟩; exact ⟨p, hp, of_decide_eq_true h⟩
  · rintro ⟨p, hp, rfl⟩; exact ⟨p, hp, by simp⟩
theorem hasPt_append (l m : List Pt) (s : Bytes) : hasPt (l ++ m) s = (hasPt l s || hasPt m s) := by simp [hasPt]
theorem ptsErr_nd : ∀ {l before : List Pt}, ptsErr before l = 0 → (∀ p ∈ l, nameB p.name = true ∧ hasPt before p.name = false) ∧ (l.map (·.name)).Nodup
  | [], _, _ => by simp
  | p :: l, before, h => by
    rw [ptsErr] at h
    split at h
    · cases h
    rename_i h1
    split at h
    · cases h
    rename_i h2
    split at h
    · cases h
    split at h
    · cases h
    obtain ⟨i1, i2⟩ := ptsErr_nd h
    refine ⟨fun q hq => ?_, ?_⟩
    · rcases List.mem_cons.1 hq with rfl | hq
      · exact ⟨by simpa using h1, by simpa using h2⟩
      · obtain ⟨j1, j2⟩ := i1 q hq
        rw [hasPt_append, Bool.or_eq_false_iff] at j2
        exact ⟨j1, j2.1⟩
    · rw [List.map_cons, List.nodup_cons]
      refine ⟨fun hm => ?_, i2⟩
      obtain ⟨q, hq, e⟩ := List.mem_map.1 hm
      have j2 := (i1 q hq).2
      rw [hasPt_append, Bool.or_eq_false_iff] at j2
      simp [hasPt, e] at j2
theorem lksErr_all {pts : List Pt} : ∀ {l before : List Lk}, lksErr pts before l = 0 →
    (∀ x ∈ l, (hasPt pts x.src = true ∧ hasPt pts x.dst = true ∧ x.src ≠ x.dst) ∧ (1 ≤ x.min ∧ x.min ≤ x.max ∧ x.max ≤ 2147483648) ∧ ∀ y ∈ before, ¬ (y.src = x.src ∧ y.dst = x.dst)) ∧ l.Pairwise fun x y => ¬ (x.src = y.src ∧ x.dst = y.dst)
  | [], _, _ => by simp
  | x :: l, before, h => by
    rw [lksErr] at h
    split at h
    · cases h
    rename_i h1
    split at h
    · cases h
    rename_i h2
    split at h
    · cases h
    rename_i h3
    obtain ⟨i1, i2⟩ := lksErr_all h
    refine ⟨fun y hy => ?_, List.pairwise_cons.2 ⟨fun y hy => (i1 y hy).2.2 x (by simp), i2⟩⟩
    rcases List.mem_cons.1 hy with rfl | hy
    · refine ⟨⟨?_, ?_, ?_⟩, by omega, fun z hz hc => h2 ?_⟩
      · cases e : hasPt pts y.src
        · exact absurd (.inl e) h1
        · rfl
      · cases e : hasPt pts y.dst
        · exact absurd (.inr (.inl e)) h1
        · rfl
      · exact fun e => h1 (.inr (.inr e))
      · rw [List.any_eq_true]; exact ⟨z, hz, by simp [hc]⟩
    · obtain ⟨j1, j2, j3⟩ := i1 y hy
      exact ⟨j1, j2, fun z hz => j3 z (by simp [hz])⟩
theorem netErr_ok {n : Net} (h : netErr n = 0) : NetOk n := by
  have hl := netErr_len h
  unfold netErr at h
  split at h
  · cases h
  split at h
  · rename_i h2; exact absurd h h2
  rename_i h2
  have h2 : ptsErr [] n.pts = 0 := by simpa using h2
  obtain ⟨p1, p2⟩ := ptsErr_nd h2
  obtain ⟨l1, l2⟩ := lksErr_all h
  exact ⟨hl.1, hl.2, p2, fun p hp => (p1 p hp).1, fun x hx => (l1 x hx).1, l2, fun x hx => (l1 x hx).2.1⟩
theorem validN_ok (n : Net) : NetOk (validN n) := by
  unfold validN
  split
  · rename_i h; exact netErr_ok h
  · exact ⟨by simp, by simp, by simp, by simp, by simp, by simp, by simp⟩

/-! ### Walks -/
/-- The names of the points, ascending. -/
def ptsN (v : Net) : List Bytes := sortT (v.pts.map (·.name))
/-- The links that leave a point, ascending by their ends. -/
def lksOf (v : Net) (s : Bytes) : List Lk := (v.lks.filter fun x => decide (x.src = s)).mergeSort fun x y => decide (x.dst ≤ y.dst)
def nextL (v : Net) (s : Bytes) : List Bytes := (lksOf v s).map (·.dst)
def lkOf (v : Net) (a b : Bytes) : Option Lk := v.lks.find? fun x => decide (x.src = a) && decide (x.dst = b)
def endOf : Bytes → List Bytes → Bytes
  | a, [] => a
  | _, b :: l => endOf b l
/-- What a walk takes, at least and at most. -/
def wk (v : Net) : Bytes → List Bytes → Option (Int × Int)
  | _, [] => some (0, 0)
  | a, b :: l => match lkOf v a b, wk v b l with
    | some x, some s => some (x.min + s.1, x.max + s.2)
    | _, _ => none

section
variable {v : Net}
theorem ptsN_mem (v : Net) (s : Bytes) : s ∈ ptsN v ↔ hasPt v.pts s = true := by rw [ptsN, sortT_mem, hasPt_iff]
theorem ptsN_len (v : Net) : (ptsN v).length = v.pts.length := by rw [ptsN, sortT_len, List.length_map]
theorem NetOk.nodup (ok : NetOk v) : (ptsN v).Nodup := sortT_nodup ok.nd
theorem ptsN_asc (v : Net) : ascT (ptsN v) := sortT_asc _
theorem NetOk.name (ok : NetOk v) {s : Bytes} (h : hasPt v.pts s = true) : nameB s = true := by
  obtain ⟨p, hp, rfl⟩ := List.mem_map.1 ((hasPt_iff _ _).1 h)
  exact ok.short p hp
theorem name_len {s : Bytes} (h : nameB s = true) : s.length ≤ 12 := by
  simp [nameB] at h; omega
theorem lksOf_mem (v : Net) (s : Bytes) (x : Lk) : x ∈ lksOf v s ↔ x ∈ v.lks ∧ x.src = s := by
  rw [lksOf, (List.mergeSort_perm _ _).mem_iff, List.mem_filter]; simp
theorem lksOf_len (v : Net) (s : Bytes) : (lksOf v s).length ≤ v.lks.length := by
  rw [lksOf, List.length_mergeSort]; exact List.length_filter_le _ _
theorem lksOf_asc (v : Net) (s : Bytes) : (lksOf v s).Pairwise fun x y => decide (x.dst ≤ y.dst) = true :=
  List.pairwise_mergeSort (fun a b c => leT_trans a.dst b.dst c.dst) (fun a b => leT_total a.dst b.dst) _
theorem NetOk.uniq (ok : NetOk v) {x y : Lk} (hx : x ∈ v.lks) (hy : y ∈ v.lks) (h1 : x.src = y.src) (h2 : x.dst = y.dst) : x = y := by
  have : ∀ l : List Lk, l.Pairwise (fun x y => ¬ (x.src = y.src ∧ x.dst = y.dst)) → x ∈ l → y ∈ l → x = y := by
    intro l
    induction l with
    | nil => intro _ h; cases h
    | cons z l ih =>
      intro hp hx hy
      obtain ⟨p1, p2⟩ := List.pairwise_cons.1 hp
      rcases List.mem_cons.1 hx with ex | hx' <;> rcases List.mem_cons.1 hy with ey | hy'
      · rw [ex, ey]
      · rw [ex] at h1 h2; exact absurd ⟨h1, h2⟩ (p1 y hy')
      · rw [ey] at h1 h2; exact absurd ⟨h1.symm, h2.symm⟩ (p1 x hx')
      · exact ih p2 hx' hy'
  exact this _ ok.one hx hy
theorem NetOk.dstnd (ok : NetOk v) (s : Bytes) : ((lksOf v s).map (·.dst)).Nodup := by
  have h : ((v.lks.filter fun x => decide (x.src = s)).map (·.dst)).Nodup := by
    refine List.pairwise_map.2 ?_
    have h1 := ok.one.sublist (List.filter_sublist (p := fun x => decide (x.src = s)) (l := v.lks))
    refine List.Pairwise.imp_of_mem ?_ h1
    intro x y hx hy hne e
    exact hne ⟨by rw [of_decide_eq_true (List.mem_filter.1 hx).2, of_decide_eq_true (List.mem_filter.1 hy).2], e⟩
  exact (((List.mergeSort_perm _ _).map _).nodup_iff).2 h
theorem nextL_asc (v : Net) (s : Bytes) : ascT (nextL v s) := List.pairwise_map.2 (lksOf_asc v s)
theorem NetOk.nextnd (ok : NetOk v) (s : Bytes) : (nextL v s).Nodup := ok.dstnd s
theorem nextL_mem (v : Net) (s t : Bytes) : t ∈ nextL v s ↔ ∃ x ∈ v.lks, x.src = s ∧ x.dst = t := by
  rw [nextL, List.mem_map]
  constructor
  · rintro ⟨x, hx, rfl⟩; exact ⟨x, ((lksOf_mem v s x).1 hx).1, ((lksOf_mem v s x).1 hx).2, rfl⟩
  · rintro ⟨x, hx, h1, h2⟩; exact ⟨x, (lksOf_mem v s x).2 ⟨hx, h1⟩, h2⟩
theorem nextL_eq (ok : NetOk v) (s : Bytes) : nextL v s = insF [] ((v.lks.filter fun x => decide (x.src = s)).map (·.dst)) := by
  obtain ⟨i1, i2, i3⟩ := insF_all ((v.lks.filter fun x : Lk => decide (x.src = s)).map fun x : Lk => x.dst) [] (by simp [ascT]) (by simp)
  refine asc_of_mem (nextL_asc v s) i1 (ok.nextnd s) i2 fun t => ?_
  rw [i3, nextL_mem, List.mem_map]
  simp [List.mem_filter, and_assoc]
theorem lkOf_some {a b : Bytes} {x : Lk} (h : lkOf v a b = some x) : x ∈ v.lks ∧ x.src = a ∧ x.dst = b := by
  have h1 := List.mem_of_find?_eq_some h
  have h2 := List.find?_some h
  simp at h2
  exact ⟨h1, h2⟩
theorem NetOk.lkOf (ok : NetOk v) {x : Lk} (hx : x ∈ v.lks) : lkOf v x.src x.dst = some x := by
  cases e : Go.Toll.lkOf v x.src x.dst with
  | none =>
    have := List.find?_eq_none.1 e x hx
    simp at this
  | some y =>
    obtain ⟨h1, h2, h3⟩ := lkOf_some e
    rw [ok.uniq h1 hx h2 h3]
theorem lkOf_next (ok : NetOk v) (a b : Bytes) : b ∈ nextL v a ↔ ∃ x, lkOf v a b = some x := by
  rw [nextL_mem]
  constructor
  · rintro ⟨x, hx, rfl, rfl⟩; exact ⟨x, ok.lkOf hx⟩
  · rintro ⟨x, h⟩
    obtain ⟨h1, h2, h3⟩ := lkOf_some h
    exact ⟨x, h1, h2, h3⟩
@[simp] theorem wk_nil (v : Net) (a : Bytes) : wk v a [] = some (0, 0) := rfl
theorem wk_cons {a b : Bytes} {l : List Bytes} {s : Int × Int} : wk v a (b :: l) = some s ↔ ∃ x t, lkOf v a b = some x ∧ wk v b l = some t ∧ s = (x.min + t.1, x.max + t.2) := by
  rw [wk]
  cases e1 : lkOf v a b with
  | none => simp
  | some x =>
    cases e2 : wk v b l with
    | none => simp
    | some t =>
      simp only [Option.some.injEq]
      constructor
      · rintro rfl; exact ⟨x, t, rfl, rfl, rfl⟩
      · rintro ⟨_, _, rfl, rfl, h⟩; exact h.symm
theorem endOf_app (a : Bytes) : ∀ (x y : List Bytes), endOf a (x ++ y) = endOf (endOf a x) y
  | [], y => rfl
  | b :: x, y => endOf_app b x y
theorem endOf_snoc (a : Bytes) (x : List Bytes) (b : Bytes) : endOf a (x ++ [b]) = b := by rw [endOf_app]; rfl
theorem wk_app {a : Bytes} : ∀ {x y : List Bytes} {s : Int × Int}, wk v a (x ++ y) = some s ↔ ∃ t u, wk v a x = some t ∧ wk v (endOf a x) y = some u ∧ s = (t.1 + u.1, t.2 + u.2)
  | [], y, s => by
    simp only [List.nil_append, wk_nil, endOf, Option.some.injEq]
    constructor
    · intro h; exact ⟨(0, 0), s, rfl, h, by simp⟩
    · rintro ⟨t, u, rfl, h, rfl⟩; simpa using h
  | b :: x, y, s => by
    rw [List.cons_append, wk_cons]
    constructor
    · rintro ⟨z, t, h1, h2, rfl⟩
      obtain ⟨t1, u, h3, h4, rfl⟩ := wk_app.1 h2
      exact ⟨(z.min + t1.1, z.max + t1.2), u, wk_cons.2 ⟨z, t1, h1, h3, rfl⟩, h4, by simp [Int.add_assoc]⟩
    · rintro ⟨t, u, h1, h2, rfl⟩
      obtain ⟨z, t1, h3, h4, rfl⟩ := wk_cons.1 h1
      exact ⟨z, (t1.1 + u.1, t1.2 + u.2), h3, wk_app.2 ⟨t1, u, h4, h2, rfl⟩, by simp [Int.add_assoc]⟩
theorem wk_rng (ok : NetOk v) {a : Bytes} : ∀ {l : List Bytes} {s : Int × Int}, wk v a l = some s → (l.length : Int) ≤ s.1 ∧ s.1 ≤ s.2 ∧ s.2 ≤ l.length * 2147483648
  | [], s, h => by
    obtain rfl := Option.some.inj h
    simp
  | b :: l, s, h => by
    obtain ⟨x, t, h1, h2, rfl⟩ := wk_cons.1 h
    obtain ⟨i1, i2, i3⟩ := wk_rng ok h2
    obtain ⟨r1, r2, r3⟩ := ok.rng x (lkOf_some h1).1
    simp only [List.length_cons]
    push_cast
    omega
theorem wk_pts (ok : NetOk v) {a : Bytes} : ∀ {l : List Bytes} {s : Int × Int}, wk v a l = some s → (∀ z ∈ l, hasPt v.pts z = true) ∧ (l ≠ [] → hasPt v.pts a = true)
  | [], s, h => by simp
  | b :: l, s, h => by
    obtain ⟨x, t, h1, h2, rfl⟩ := wk_cons.1 h
    obtain ⟨i1, i2⟩ := wk_pts ok h2
    obtain ⟨m, e1, e2⟩ := lkOf_some h1
    obtain ⟨p1, p2, _⟩ := ok.ends x m
    rw [e1] at p1; rw [e2] at p2
    refine ⟨fun z hz => ?_, fun _ => p1⟩
    rcases List.mem_cons.1 hz with rfl | hz
    · exact p2
    · exact i1 z hz
theorem endOf_mem (a : Bytes) : ∀ l : List Bytes, endOf a l ∈ a :: l
  | [] => by simp [endOf]
  | b :: l => List.mem_cons_of_mem _ (endOf_mem b l)
/-- A walk without a point twice, which is no worse. -/
theorem simple_le (ok : NetOk v) : ∀ (n : Nat) (a : Bytes) (l : List Bytes) (s : Int × Int), l.length ≤ n → wk v a l = some s →
    ∃ l' s', wk v a l' = some s' ∧ endOf a l' = endOf a l ∧ (a :: l').Nodup ∧ (∀ z ∈ l', z ∈ l) ∧ (l' = l ∨ (s'.1 < s.1 ∧ l'.length < l.length))
  | 0, a, l, s, hn, h => by
    obtain rfl : l = [] := List.length_eq_zero_iff.1 (by omega)
    exact ⟨[], s, h, rfl, by simp, by simp, .inl rfl⟩
  | n + 1, a, [], s, hn, h => ⟨[], s, h, rfl, by simp, by simp, .inl rfl⟩
  | n + 1, a, b :: l, s, hn, h => by
    by_cases ha : a ∈ b :: l
    · obtain ⟨x, y, e⟩ := List.append_of_mem ha
      rw [e, show x ++ a :: y = (x ++ [a]) ++ y by simp] at h
      obtain ⟨t, u, h1, h2, rfl⟩ := wk_app.1 h
      rw [endOf_snoc] at h2
      have hr := wk_rng ok h1
      have hyl : y.length ≤ n := by
        have := congrArg List.length e
        simp at this hn; omega
      obtain ⟨l', s', q1, q2, q3, q4, q5⟩ := simple_le ok n a y u hyl h2
      simp at hr
      have hlen := congrArg List.length e
      simp at hlen
      refine ⟨l', s', q1, ?_, q3, fun z hz => ?_, .inr ⟨?_, ?_⟩⟩
      · rw [q2, e, show x ++ a :: y = (x ++ [a]) ++ y by simp, endOf_app, endOf_snoc]
      · rw [e]; simp [q4 z hz]
      · rcases q5 with rfl | ⟨q5, q6⟩
        · have : s' = u := by rw [q1] at h2; exact Option.some.inj h2
          subst this; show s'.1 < t.1 + s'.1; omega
        · show s'.1 < t.1 + u.1; omega
      · rcases q5 with rfl | ⟨q5, q6⟩
        · simp; omega
        · simp; omega
    · obtain ⟨x, t, h1, h2, rfl⟩ := wk_cons.1 h
      obtain ⟨l', s', q1, q2, q3, q4, q5⟩ := simple_le ok n b l t (by simpa using hn) h2
      refine ⟨b :: l', (x.min + s'.1, x.max + s'.2), wk_cons.2 ⟨x, s', h1, q1, rfl⟩, q2, List.nodup_cons.2 ⟨fun hm => ha ?_, q3⟩, fun z hz => ?_, ?_⟩
      · rcases List.mem_cons.1 hm with rfl | hm
        · simp
        · exact List.mem_cons_of_mem _ (q4 a hm)
      · rcases List.mem_cons.1 hz with rfl | hz
        · simp
        · exact List.mem_cons_of_mem _ (q4 z hz)
      · rcases q5 with rfl | ⟨q5, q6⟩
        · exact .inl rfl
        · exact .inr ⟨by show x.min + s'.1 < x.min + t.1; omega, by simpa using q6⟩
theorem nodup_sub_len : ∀ {l m : List Bytes}, l.Nodup → (∀ z ∈ l, z ∈ m) → l.length ≤ m.length
  | [], m, _, _ => by simp
  | a :: l, m, hn, h => by
    obtain ⟨h1, h2⟩ := List.nodup_cons.1 hn
    have ha := h a List.mem_cons_self
    have := nodup_sub_len (m := m.erase a) h2 fun z hz => (List.mem_erase_of_ne (fun e : z = a => h1 (by rw [← e]; exact hz))).2 (h z (List.mem_cons_of_mem _ hz))
    rw [List.length_erase_of_mem ha] at this
    have := List.length_pos_of_mem ha
    simp; omega
/-- A walk without a point twice is short. -/
theorem simple_len (ok : NetOk v) {a : Bytes} {l : List Bytes} {s : Int × Int} (h : wk v a l = some s) (ha : hasPt v.pts a = true) (hn : (a :: l).Nodup) : l.length + 1 ≤ v.pts.length := by
  have := nodup_sub_len (m := ptsN v) hn fun z hz => (ptsN_mem v z).2 (by
    rcases List.mem_cons.1 hz with rfl | hz
    · exact ha
    · exact (wk_pts ok h).1 z hz)
  rw [ptsN_len] at this
  simpa using this
end

/-! ### As the reference goes -/
def nextI (v : Net) (s : Bytes) (i : Nat) : List Bytes := insF [] (((v.lks.take i).filter fun x => decide (x.src = s)).map (·.dst))
theorem insF_snoc (o l : List Bytes) (s : Bytes) : insF o (l ++ [s]) = insS (insF o l) s := by rw [insF, List.foldl_append]; rfl
theorem nextI_zero (v : Net) (s : Bytes) : nextI v s 0 = [] := rfl
theorem nextI_succ {v : Net} {i : Nat} {x : Lk} (s : Bytes) (h : v.lks[i]? = some x) : nextI v s (i + 1) = if x.src = s then insS (nextI v s i) x.dst else nextI v s i := by
  rw [nextI, List.take_add_one, h, Option.toList_some, List.filter_append]
  by_cases e : x.src = s
  · rw [if_pos e]
    simp only [List.filter_cons, e, decide_true, if_true, List.filter_nil, List.map_append, List.map_cons, List.map_nil, insF_snoc]
    rfl
  · rw [if_neg e]
    simp [e, nextI]
theorem nextI_all {v : Net} (ok : NetOk v) (s : Bytes) {i : Nat} (h : v.lks.length ≤ i) : nextI v s i = nextL v s := by rw [nextI, List.take_of_length_le h, nextL_eq ok]
theorem insF_len : ∀ (l o : List Bytes), (insF o l).length ≤ o.length + l.length
  | [], o => by simp [insF_nil]
  | s :: l, o => by
    rw [insF_cons]
    have := insF_len l (insS o s)
    have := insS_len o s
    simp; omega
theorem nextI_len (v : Net) (s : Bytes) (i : Nat) : (nextI v s i).length ≤ i := by
  have := insF_len (((v.lks.take i).filter fun x => decide (x.src = s)).map (·.dst)) []
  have h2 := List.length_filter_le (fun x : Lk => decide (x.src = s)) (v.lks.take i)
  rw [nextI]
  simp at this h2 ⊢
  omega

def lkTo (v : Net) (a b : Bytes) (k : Nat) : Option Lk := (v.lks.take k).find? fun x => decide (x.src = a) && decide (x.dst = b)
theorem lkTo_zero (v : Net) (a b : Bytes) : lkTo v a b 0 = none := rfl
theorem lkTo_all (v : Net) (a b : Bytes) : lkTo v a b v.lks.length = lkOf v a b := by rw [lkTo, List.take_length]; rfl
theorem lkTo_miss {v : Net} {k : Nat} {x : Lk} (a b : Bytes) (h : v.lks[k]? = some x) (hn : ¬ (x.src = a ∧ x.dst = b)) : lkTo v a b (k + 1) = lkTo v a b k := by
  rw [lkTo, List.take_add_one, h, Option.toList_some, List.find?_append]
  have : (decide (x.src = a) && decide (x.dst = b)) = false := by
    rw [Bool.and_eq_false_iff]
    by_cases e : x.src = a
    · right; exact decide_eq_false fun e2 => hn ⟨e, e2⟩
    · left; exact decide_eq_false e
  simp only [List.find?_cons, this, List.find?_nil, Option.or_none]
  rfl
theorem lkTo_hit {v : Net} (ok : NetOk v) {k : Nat} {x : Lk} (h : v.lks[k]? = some x) : lkTo v x.src x.dst k = none ∧ lkTo v x.src x.dst (k + 1) = some x := by
  have hk := lt_of_get h
  have hn : lkTo v x.src x.dst k = none := by
    rw [lkTo, List.find?_eq_none]
    intro y hy hc
    obtain ⟨j, hj⟩ := List.getElem?_of_mem hy
    have hjl := lt_of_get hj
    rw [List.length_take] at hjl
    rw [List.getElem?_take_of_lt (by omega)] at hj
    have hp := List.pairwise_iff_getElem.1 ok.one j k (by omega) hk (by omega)
    rw [(List.getElem?_eq_some_iff.1 hj).2, (List.getElem?_eq_some_iff.1 h).2] at hp
    exact hp (by simpa using hc)
  refine ⟨hn, ?_⟩
  rw [lkTo] at hn
  rw [lkTo, List.take_add_one, h, Option.toList_some, List.find?_append, hn]
  simp

/-! ### The durations of a path -/
def boundsM (v : Net) (p : List Bytes) : Int × Int × Int := match p with
  | [] => (0, 0, 16)
  | a :: l => if (a :: l).all (hasPt v.pts) then (match wk v a l with
    | some s => (s.1, s.2, 0)
    | none => (0, 0, 21)) else (0, 0, 16)

theorem boundsM_bad {v : Net} {p : List Bytes} (hne : p ≠ []) (h : ∃ s ∈ p, hasPt v.pts s = false) : boundsM v p = (0, 0, 16) := by
  cases p with
  | nil => exact absurd rfl hne
  | cons a l =>
    obtain ⟨s, hs, h⟩ := h
    rw [boundsM, if_neg]
    intro hc
    rw [List.all_eq_true.1 hc s hs] at h
    cases h
theorem boundsM_ok {v : Net} {a : Bytes} {l : List Bytes} (h : ∀ s ∈ a :: l, hasPt v.pts s = true) : boundsM v (a :: l) = match wk v a l with
    | some s => (s.1, s.2, 0)
    | none => (0, 0, 21) := by
  rw [boundsM, if_pos (List.all_eq_true.2 h)]

/-! ### The points that can be reached -/
def iter {α : Type} (f : α → α) : Nat → α → α
  | 0, x => x
  | n + 1, x => f (iter f n x)
def rchStep (out : List Bytes) (x : Lk) : List Bytes := if x.src ∈ out then insS out x.dst else out
def rchRound (v : Net) (out : List Bytes) : List Bytes := v.lks.foldl rchStep out
def reachL (v : Net) (a : Bytes) : List Bytes := if hasPt v.pts a then iter (rchRound v) v.pts.length [a] else []

def rchI (v : Net) (a : Bytes) (r i : Nat) : List Bytes := (v.lks.take i).foldl rchStep (iter (rchRound v) r [a])
theorem rchI_zero (v : Net) (a : Bytes) (r : Nat) : rchI v a r 0 = iter (rchRound v) r [a] := rfl
theorem rchI_succ {v : Net} {i : Nat} {x : Lk} (a : Bytes) (r : Nat) (h : v.lks[i]? = some x) : rchI v a r (i + 1) = if x.src ∈ rchI v a r i then insS (rchI v a r i) x.dst else rchI v a r i := by
  rw [rchI, List.take_add_one, h, Option.toList_some, List.foldl_append]
  rfl
theorem rchI_all (v : Net) (a : Bytes) (r : Nat) : rchI v a r v.lks.length = rchI v a (r + 1) 0 := by
  rw [rchI, List.take_length]; rfl
theorem rchF_len : ∀ (ls : List Lk) (out : List Bytes), (ls.foldl rchStep out).length ≤ out.length + ls.length
  | [], _ => by simp
  | x :: ls, out => by
    rw [List.foldl_cons]
    have h1 := rchF_len ls (rchStep out x)
    have h2 : (rchStep out x).length ≤ out.length + 1 := by
      unfold rchStep; split
      · exact insS_len _ _
      · omega
    simp; omega
theorem rchI_len {v : Net} (hl : v.lks.length ≤ 128) (a : Bytes) : ∀ r i, i ≤ v.lks.length → (rchI v a r i).length ≤ 1 + 128 * r + i
  | 0, i, hi => by
    have := rchF_len (v.lks.take i) [a]
    rw [rchI, iter]
    simp at this ⊢; omega
  | r + 1, i, hi => by
    have h1 := rchF_len (v.lks.take i) (iter (rchRound v) (r + 1) [a])
    have h2 := rchI_len hl a r v.lks.length (Nat.le_refl _)
    rw [rchI_all, rchI_zero] at h2
    rw [rchI]
    simp at h1 ⊢; omega
def Rch (v : Net) (a b : Bytes) : Prop := ∃ l s, wk v a l = some s ∧ endOf a l = b
section
variable {v : Net}
theorem Rch.refl (a : Bytes) : Rch v a a := ⟨[], (0, 0), rfl, rfl⟩
theorem Rch.step (ok : NetOk v) {a : Bytes} {x : Lk} (hx : x ∈ v.lks) (h : Rch v a x.src) : Rch v a x.dst := by
  obtain ⟨l, s, h1, h2⟩ := h
  refine ⟨l ++ [x.dst], (s.1 + (x.min + 0), s.2 + (x.max + 0)), wk_app.2 ⟨s, (x.min + 0, x.max + 0), h1, ?_, rfl⟩, endOf_snoc _ _ _⟩
  rw [h2]
  exact wk_cons.2 ⟨x, (0, 0), ok.lkOf hx, rfl, rfl⟩
/-- What is closed contains all that can be reached. -/
theorem Rch.closed {S : Bytes → Prop} (hc : ∀ x ∈ v.lks, S x.src → S x.dst) : ∀ {l : List Bytes} {a : Bytes} {s : Int × Int}, S a → wk v a l = some s → S (endOf a l)
  | [], _, _, ha, _ => ha
  | b :: l, a, s, ha, h => by
    obtain ⟨x, t, h1, h2, rfl⟩ := wk_cons.1 h
    obtain ⟨m, e1, e2⟩ := lkOf_some h1
    have : S b := by rw [← e2]; exact hc x m (by rw [e1]; exact ha)
    show S (endOf b l)
    exact Rch.closed hc this h2
theorem rchF_inv (ok : NetOk v) (a : Bytes) : ∀ (ls : List Lk) (out : List Bytes), (∀ x ∈ ls, x ∈ v.lks) → ascT out → out.Nodup → (∀ t ∈ out, Rch v a t) →
    ascT (ls.foldl rchStep out) ∧ (ls.foldl rchStep out).Nodup ∧ (∀ t ∈ ls.foldl rchStep out, Rch v a t) ∧ (∀ t ∈ out, t ∈ ls.foldl rchStep out) ∧ ∀ x ∈ ls, x.src ∈ out → x.dst ∈ ls.foldl rchStep out
  | [], out, _, h1, h2, h3 => ⟨h1, h2, h3, fun t h => h, by simp⟩
  | x :: ls, out, hl, h1, h2, h3 => by
    have hs : ascT (rchStep out x) ∧ (rchStep out x).Nodup ∧ (∀ t ∈ rchStep out x, Rch v a t) ∧ (∀ t ∈ out, t ∈ rchStep out x) ∧ (x.src ∈ out → x.dst ∈ rchStep out x) := by
      unfold rchStep
      split
      · rename_i hx
        refine ⟨insS_asc _ h1, insS_nodup _ h2, fun t ht => ?_, fun t ht => (insS_mem _ _ _).2 (.inr ht), fun _ => (insS_mem _ _ _).2 (.inl rfl)⟩
        rcases (insS_mem _ _ _).1 ht with rfl | ht
        · exact (h3 _ hx).step ok (hl x List.mem_cons_self)
        · exact h3 t ht
      · rename_i hx
        exact ⟨h1, h2, h3, fun t h => h, fun h => absurd h hx⟩
    obtain ⟨s1, s2, s3, s4, s5⟩ := hs
    obtain ⟨i1, i2, i3, i4, i5⟩ := rchF_inv ok a ls _ (fun y hy => hl y (List.mem_cons_of_mem _ hy)) s1 s2 s3
    rw [List.foldl_cons]
    refine ⟨i1, i2, i3, fun t ht => i4 t (s4 t ht), fun y hy hs => ?_⟩
    rcases List.mem_cons.1 hy with rfl | hy
    · exact i4 _ (s5 hs)
    · exact i5 y hy (s4 _ hs)
theorem rch_iter (ok : NetOk v) (a : Bytes) : ∀ n, ascT (iter (rchRound v) n [a]) ∧ (iter (rchRound v) n [a]).Nodup ∧ (∀ t ∈ iter (rchRound v) n [a], Rch v a t) ∧ ∀ l s, l.length ≤ n → wk v a l = some s → endOf a l ∈ iter (rchRound v) n [a]
  | 0 => by
    refine ⟨by simp [iter, ascT], by simp [iter], fun t ht => ?_, fun l s hl h => ?_⟩
    · rw [iter, List.mem_singleton] at ht; subst ht; exact Rch.refl _
    · obtain rfl : l = [] := List.length_eq_zero_iff.1 (by omega)
      simp [iter, endOf]
  | n + 1 => by
    obtain ⟨i1, i2, i3, i4⟩ := rch_iter ok a n
    obtain ⟨j1, j2, j3, j4, j5⟩ := rchF_inv ok a v.lks _ (fun _ h => h) i1 i2 i3
    refine ⟨j1, j2, j3, fun l s hl h => ?_⟩
    rcases List.eq_nil_or_concat l with rfl | ⟨l', b, rfl⟩
    · exact j4 _ (i4 [] (0, 0) (by simp) rfl)
    · rw [List.concat_eq_append] at h hl ⊢
      obtain ⟨t, u, h1, h2, _⟩ := wk_app.1 h
      obtain ⟨x, _, h3, _, _⟩ := wk_cons.1 h2
      obtain ⟨m, e1, e2⟩ := lkOf_some h3
      rw [endOf_snoc, ← e2]
      refine j5 x m ?_
      rw [e1]
      exact i4 l' t (by simp at hl; omega) h1
theorem reachL_mem (ok : NetOk v) (a b : Bytes) : b ∈ reachL v a ↔ hasPt v.pts a = true ∧ Rch v a b := by
  unfold reachL
  split
  · rename_i ha
    obtain ⟨i1, i2, i3, i4⟩ := rch_iter ok a v.pts.length
    constructor
    · intro h; exact ⟨ha, i3 b h⟩
    · rintro ⟨_, l, s, h1, h2⟩
      obtain ⟨l', s', q1, q2, q3, _⟩ := simple_le ok _ a l s (Nat.le_refl _) h1
      have := simple_len ok q1 ha q3
      rw [← h2, ← q2]
      exact i4 l' s' (by omega) q1
  · rename_i ha
    simp [ha]
theorem reachL_asc (ok : NetOk v) (a : Bytes) : ascT (reachL v a) ∧ (reachL v a).Nodup := by
  unfold reachL
  split
  · obtain ⟨i1, i2, _⟩ := rch_iter ok a v.pts.length
    exact ⟨i1, i2⟩
  · simp [ascT]
/-- Any set of points that contains the first one, is closed and contains only what can be reached. -/
theorem reachL_filter (ok : NetOk v) (a : Bytes) (ha : hasPt v.pts a = true) (f : Bytes → Bool) (h0 : f a = true) (hc : ∀ x ∈ v.lks, f x.src = true → f x.dst = true) (hr : ∀ t, f t = true → Rch v a t) : (ptsN v).filter f = reachL v a := by
  obtain ⟨r1, r2⟩ := reachL_asc ok a
  refine asc_of_mem ((ptsN_asc v).sublist (List.filter_sublist)) r1 (ok.nodup.sublist List.filter_sublist) r2 fun t => ?_
  rw [List.mem_filter, ptsN_mem, reachL_mem ok]
  constructor
  · rintro ⟨_, h⟩; exact ⟨ha, hr t h⟩
  · rintro ⟨_, l, s, h1, h2⟩
    have := Rch.closed (S := fun t => f t = true) hc h0 h1
    rw [h2] at this
    refine ⟨?_, this⟩
    cases l with
    | nil => rw [← h2]; exact ha
    | cons b l =>
      rw [← h2]
      have hm := endOf_mem b l
      exact (wk_pts ok h1).1 _ hm
end
end Go.Toll
end

section 

namespace Go.Toll
open Go Go.Abs

/-- No worse: less time, or as much and fewer points, or as many and no later in the order. -/
def ble (d : Int) (p : List Bytes) (e : Int) (q : List Bytes) : Prop := d < e ∨ (d = e ∧ (p.length < q.length ∨ (p.length = q.length ∧ pcmp p q ≤ 0)))
theorem ble_refl (d : Int) (p : List Bytes) : ble d p d p := .inr ⟨rfl, .inr ⟨rfl, by rw [pcmp_self]; omega⟩⟩
theorem ble_trans {d e f : Int} {p q r : List Bytes} (h1 : ble d p e q) (h2 : ble e q f r) : ble d p f r := by
  unfold ble at *
  rcases h1 with h1 | ⟨rfl, h1⟩
  · rcases h2 with h2 | ⟨rfl, h2⟩
    · exact .inl (by omega)
    · exact .inl h1
  · rcases h2 with h2 | ⟨rfl, h2⟩
    · exact .inl h2
    · refine .inr ⟨rfl, ?_⟩
      rcases h1 with h1 | ⟨h1, h1'⟩
      · rcases h2 with h2 | ⟨h2, _⟩ <;> exact .inl (by omega)
      · rcases h2 with h2 | ⟨h2, h2'⟩
        · exact .inl (by omega)
        · exact .inr ⟨by omega, pcmp_trans h1' h2'⟩
theorem ble_antisymm {d e : Int} {p q : List Bytes} (h1 : ble d p e q) (h2 : ble e q d p) : d = e ∧ p = q := by
  unfold ble at *
  rcases h1 with h1 | ⟨rfl, h1⟩
  · rcases h2 with h2 | ⟨rfl, h2⟩
    · omega
    · omega
  · rcases h2 with h2 | ⟨_, h2⟩
    · omega
    · refine ⟨rfl, ?_⟩
      rcases h1 with h1 | ⟨h1, h1'⟩
      · rcases h2 with h2 | ⟨h2, _⟩ <;> omega
      · rcases h2 with h2 | ⟨h2, h2'⟩
        · omega
        · have := pcmp_anti p q
          exact pcmp_zero.1 (by omega)
theorem ble_app {d e : Int} {p q : List Bytes} (m : Int) (z : Bytes) (h : ble d p e q) : ble (d + m) (p ++ [z]) (e + m) (q ++ [z]) := by
  unfold ble at *
  rcases h with h | ⟨rfl, h⟩
  · exact .inl (by omega)
  · refine .inr ⟨rfl, ?_⟩
    rcases h with h | ⟨h, h'⟩
    · exact .inl (by simp; omega)
    · refine .inr ⟨by simp; omega, ?_⟩
      rw [pcmp_app _ _ h]
      split
      · rw [pcmp_self]; omega
      · exact h'
/-- As the reference asks it; the empty path is none. -/
def betB (d : Int) (p : List Bytes) (e : Int) (q : List Bytes) : Bool :=
  if q = [] ∨ d ≠ e then decide (q = []) || decide (d < e) else if p.length ≠ q.length then decide (p.length < q.length) else decide (pcmp p q < 0)
theorem betB_true {d e : Int} {p q : List Bytes} (h : betB d p e q = true) (hq : q ≠ []) : ble d p e q := by
  unfold betB at h
  split at h
  · rename_i c
    simp [hq] at h
    exact .inl h
  · rename_i c
    have c1 : d = e := by
      rcases Decidable.em (d = e) with h | h
      · exact h
      · exact absurd (.inr h) c
    split at h
    · exact .inr ⟨c1, .inl (by simpa using h)⟩
    · rename_i c2
      exact .inr ⟨c1, .inr ⟨by omega, by have := of_decide_eq_true h; omega⟩⟩
theorem betB_false {d e : Int} {p q : List Bytes} (h : betB d p e q = false) : q ≠ [] ∧ ble e q d p := by
  unfold betB at h
  split at h
  · rename_i c
    rw [Bool.or_eq_false_iff] at h
    have h1 : q ≠ [] := of_decide_eq_false h.1
    have h2 : ¬ d < e := of_decide_eq_false h.2
    refine ⟨h1, ?_⟩
    rcases c with c | c
    · exact absurd c h1
    · exact .inl (by omega)
  · rename_i c
    have c0 : q ≠ [] := fun h => c (.inl h)
    have c1 : d = e := by
      rcases Decidable.em (d = e) with h | h
      · exact h
      · exact absurd (.inr h) c
    refine ⟨c0, ?_⟩
    split at h
    · rename_i c2
      have h2 : ¬ p.length < q.length := of_decide_eq_false h
      exact .inr ⟨c1.symm, .inl (by omega)⟩
    · rename_i c2
      have h2 : ¬ pcmp p q < 0 := of_decide_eq_false h
      have := pcmp_anti p q
      exact .inr ⟨c1.symm, .inr ⟨by omega, by omega⟩⟩

/-! ### The place of a point -/
def posP (l : List Pt) (s : Bytes) : Nat := l.findIdx fun p => decide (p.name = s)
theorem posP_get {l : List Pt} {s : Bytes} (h : hasPt l s = true) : ∃ p, l[posP l s]? = some p ∧ p.name = s := by
  rw [hasPt, List.any_eq_true] at h
  have hlt : posP l s < l.length := List.findIdx_lt_length.2 h
  refine ⟨l[posP l s], List.getElem?_eq_getElem hlt, ?_⟩
  have := List.findIdx_getElem (w := hlt) (p := fun p : Pt => decide (p.name = s))
  exact of_decide_eq_true this
theorem posP_lt {l : List Pt} {s : Bytes} (h : hasPt l s = true) : posP l s < l.length := by
  obtain ⟨p, hp, _⟩ := posP_get h
  exact (List.getElem?_eq_some_iff.1 hp).1
theorem posP_inj {l : List Pt} {s t : Bytes} (hs : hasPt l s = true) (ht : hasPt l t = true) (h : posP l s = posP l t) : s = t := by
  obtain ⟨p, hp, rfl⟩ := posP_get hs
  obtain ⟨q, hq, rfl⟩ := posP_get ht
  rw [h, hq] at hp
  exact (congrArg Pt.name (Option.some.inj hp)).symm
theorem posP_of {l : List Pt} (hn : (l.map (·.name)).Nodup) {i : Nat} {p : Pt} (h : l[i]? = some p) : posP l p.name = i := by
  have hh : hasPt l p.name = true := (hasPt_iff _ _).2 (List.mem_map_of_mem (List.mem_of_getElem? h))
  obtain ⟨q, hq, e⟩ := posP_get hh
  obtain ⟨h1, h1'⟩ := List.getElem?_eq_some_iff.1 hq
  obtain ⟨h2, h2'⟩ := List.getElem?_eq_some_iff.1 h
  have a1 : (l.map (·.name))[posP l p.name]? = some p.name := by rw [List.getElem?_map, hq, Option.map_some, e]
  have a2 : (l.map (·.name))[i]? = some p.name := by rw [List.getElem?_map, h]; rfl
  exact nodup_get hn a1 a2
theorem idxI_pos {l : List Pt} {s : Bytes} (h : hasPt l s = true) : idxI (fun p : Pt => decide (p.name = s)) l = (posP l s : Int) := by
  have key : ∀ (l : List Pt) (i : Nat), hasPt l s = true → idxFrom (fun p : Pt => decide (p.name = s)) i l = ((i + posP l s : Nat) : Int) := by
    intro l
    induction l with
    | nil => intro i h; cases h
    | cons p l ih =>
      intro i h
      rw [idxFrom, posP, List.findIdx_cons]
      by_cases hp : p.name = s
      · simp [hp]
      · rw [hasPt, List.any_cons, show decide (p.name = s) = false by simp [hp], Bool.false_or] at h
        rw [show decide (p.name = s) = false by simp [hp]]
        have := ih (i + 1) h
        simp only [Bool.false_eq_true, if_false, cond_false]
        rw [this, posP]
        omega
  have := key l 0 h
  simpa [idxI] using this

/-! ### The reference's search -/
abbrev St := List (List Bytes × Int)
def stG (v : Net) (st : St) (s : Bytes) : List Bytes × Int := st.getD (posP v.pts s) ([], 0)
def rStep (v : Net) (st : St) (x : Lk) : St :=
  if (stG v st x.src).1 = [] then st
  else if betB ((stG v st x.src).2 + x.min) ((stG v st x.src).1 ++ [x.dst]) (stG v st x.dst).2 (stG v st x.dst).1 then st.set (posP v.pts x.dst) ((stG v st x.src).1 ++ [x.dst], (stG v st x.src).2 + x.min) else st
def rRound (v : Net) (st : St) : St := v.lks.foldl (rStep v) st
def rInit (v : Net) (a : Bytes) : St := (v.pts.map fun _ => (([] : List Bytes), (0 : Int))).set (posP v.pts a) ([a], 0)
def rsh (v : Net) (a : Bytes) : St := iter (rRound v) v.pts.length (rInit v a)
def bestP (v : Net) (a b : Bytes) : Option (List Bytes × Int) :=
  if hasPt v.pts a = true ∧ hasPt v.pts b = true then (if (stG v (rsh v a) b).1 = [] then none else some (stG v (rsh v a) b)) else none

structure IsBest (v : Net) (a b : Bytes) (l : List Bytes) (d : Int) : Prop where
  walk : ∃ s, wk v a l = some s ∧ s.1 = d
  ends : endOf a l = b
  best : ∀ l' s, wk v a l' = some s → endOf a l' = b → ble d (a :: l) s.1 (a :: l')

section
variable {v : Net}
theorem IsBest.uniq {a b : Bytes} {l l' : List Bytes} {d d' : Int} (h : IsBest v a b l d) (h' : IsBest v a b l' d') : l = l' ∧ d = d' := by
  obtain ⟨s, w1, rfl⟩ := h.walk
  obtain ⟨s', w1', rfl⟩ := h'.walk
  obtain ⟨e1, e2⟩ := ble_antisymm (h.best l' s' w1' h'.ends) (h'.best l s w1 h.ends)
  exact ⟨by injection e2, e1⟩
theorem stG_set (st : St) (hl : st.length = v.pts.length) {s t : Bytes} (hs : hasPt v.pts s = true) (ht : hasPt v.pts t = true) (y : List Bytes × Int) : stG v (st.set (posP v.pts s) y) t = if t = s then y else stG v st t := by
  unfold stG
  rw [List.getD_eq_getElem?_getD, List.getD_eq_getElem?_getD, List.getElem?_set]
  by_cases h : t = s
  · subst h
    rw [if_pos rfl, if_pos rfl, if_pos (by rw [hl]; exact posP_lt ht)]; rfl
  · rw [if_neg h, if_neg (fun e => h (posP_inj ht hs e.symm))]
/-- What is known of the state: each path is a walk. -/
structure StOk (v : Net) (a : Bytes) (st : St) : Prop where
  len : st.length = v.pts.length
  walk : ∀ t, hasPt v.pts t = true → (stG v st t).1 ≠ [] → ∃ l s, (stG v st t).1 = a :: l ∧ wk v a l = some s ∧ s.1 = (stG v st t).2 ∧ endOf a l = t
/-- No worse at any point. -/
def stLe (v : Net) (st' st : St) : Prop := ∀ t, hasPt v.pts t = true → (stG v st t).1 ≠ [] → (stG v st' t).1 ≠ [] ∧ ble (stG v st' t).2 (stG v st' t).1 (stG v st t).2 (stG v st t).1
theorem stLe.refl (st : St) : stLe v st st := fun t _ h => ⟨h, ble_refl _ _⟩
theorem stLe.trans {a b c : St} (h1 : stLe v a b) (h2 : stLe v b c) : stLe v a c := fun t ht h => by
  obtain ⟨p1, p2⟩ := h2 t ht h
  obtain ⟨q1, q2⟩ := h1 t ht p1
  exact ⟨q1, ble_trans q2 p2⟩
theorem rStep_ok (ok : NetOk v) {a : Bytes} {st : St} (h : StOk v a st) {x : Lk} (hx : x ∈ v.lks) : StOk v a (rStep v st x) ∧ stLe v (rStep v st x) st ∧
    ((stG v st x.src).1 ≠ [] → (stG v (rStep v st x) x.dst).1 ≠ [] ∧ ble (stG v (rStep v st x) x.dst).2 (stG v (rStep v st x) x.dst).1 ((stG v st x.src).2 + x.min) ((stG v st x.src).1 ++ [x.dst])) := by
  obtain ⟨p1, p2, p3⟩ := ok.ends x hx
  unfold rStep
  split
  · rename_i hz
    exact ⟨h, stLe.refl _, fun h => absurd hz h⟩
  rename_i hz
  obtain ⟨l, s, e1, e2, e3, e4⟩ := h.walk x.src p1 hz
  split
  · rename_i hb
    have hne : (stG v st x.src).1 ++ [x.dst] ≠ [] := by simp
    refine ⟨⟨by rw [List.length_set]; exact h.len, fun t ht hh => ?_⟩, fun t ht hh => ?_, fun _ => ?_⟩
    · rw [stG_set st h.len p2 ht] at hh ⊢
      split
      · rename_i et
        subst et
        refine ⟨l ++ [x.dst], (s.1 + (x.min + 0), s.2 + (x.max + 0)), by rw [e1]; rfl, wk_app.2 ⟨s, (x.min + 0, x.max + 0), e2, ?_, rfl⟩, ?_, endOf_snoc _ _ _⟩
        · rw [e4]; exact wk_cons.2 ⟨x, (0, 0), ok.lkOf hx, rfl, rfl⟩
        · show s.1 + (x.min + 0) = _ + x.min; rw [e3]; omega
      · rename_i et
        rw [if_neg et] at hh
        exact h.walk t ht hh
    · rw [stG_set st h.len p2 ht]
      split
      · rename_i et
        subst et
        exact ⟨hne, betB_true hb hh⟩
      · exact ⟨hh, ble_refl _ _⟩
    · rw [stG_set st h.len p2 p2, if_pos rfl]
      exact ⟨hne, ble_refl _ _⟩
  · rename_i hb
    have hb := betB_false (by simpa using hb)
    exact ⟨h, stLe.refl _, fun _ => hb⟩
theorem rFold_ok (ok : NetOk v) {a : Bytes} : ∀ (ls : List Lk) {st : St}, (∀ x ∈ ls, x ∈ v.lks) → StOk v a st → StOk v a (ls.foldl (rStep v) st) ∧ stLe v (ls.foldl (rStep v) st) st ∧
    ∀ x ∈ ls, ∀ d p, p ≠ [] → (stG v st x.src).1 ≠ [] → ble (stG v st x.src).2 (stG v st x.src).1 d p → (stG v (ls.foldl (rStep v) st) x.dst).1 ≠ [] ∧ ble (stG v (ls.foldl (rStep v) st) x.dst).2 (stG v (ls.foldl (rStep v) st) x.dst).1 (d + x.min) (p ++ [x.dst])
  | [], st, _, h => ⟨h, stLe.refl _, by simp⟩
  | y :: ls, st, hl, h => by
    obtain ⟨s1, s2, s3⟩ := rStep_ok ok h (hl y List.mem_cons_self)
    obtain ⟨i1, i2, i3⟩ := rFold_ok ok ls (fun z hz => hl z (List.mem_cons_of_mem _ hz)) s1
    rw [List.foldl_cons]
    refine ⟨i1, i2.trans s2, fun x hx d p hp hne hb => ?_⟩
    rcases List.mem_cons.1 hx with rfl | hx
    · obtain ⟨q1, q2⟩ := s3 hne
      obtain ⟨r1, r2⟩ := i2 x.dst (ok.ends x (hl x List.mem_cons_self)).2.1 q1
      exact ⟨r1, ble_trans r2 (ble_trans q2 (ble_app _ _ hb))⟩
    · obtain ⟨q1, q2⟩ := s2 x.src (ok.ends x (hl x (List.mem_cons_of_mem _ hx))).1 hne
      exact i3 x hx d p hp q1 (ble_trans q2 hb)
theorem rInit_at (v : Net) {a : Bytes} (ha : hasPt v.pts a = true) {t : Bytes} (ht : hasPt v.pts t = true) : stG v (rInit v a) t = if t = a then ([a], 0) else ([], 0) := by
  rw [rInit, stG_set _ (by simp) ha ht]
  split
  · rfl
  · unfold stG
    rw [List.getD_eq_getElem?_getD, List.getElem?_map]
    cases v.pts[posP v.pts t]? <;> rfl
theorem rIter_ok (ok : NetOk v) {a : Bytes} (ha : hasPt v.pts a = true) : ∀ n, StOk v a (iter (rRound v) n (rInit v a)) ∧
    ∀ l s, l.length ≤ n → wk v a l = some s → (stG v (iter (rRound v) n (rInit v a)) (endOf a l)).1 ≠ [] ∧ ble (stG v (iter (rRound v) n (rInit v a)) (endOf a l)).2 (stG v (iter (rRound v) n (rInit v a)) (endOf a l)).1 s.1 (a :: l)
  | 0 => by
    refine ⟨⟨by simp [iter, rInit], fun t ht hh => ?_⟩, fun l s hl h => ?_⟩
    · rw [iter, rInit_at v ha ht] at hh ⊢
      split
      · rename_i e; exact ⟨[], (0, 0), rfl, rfl, rfl, e.symm⟩
      · rename_i e; rw [if_neg e] at hh; exact absurd rfl hh
    · obtain rfl : l = [] := List.length_eq_zero_iff.1 (by omega)
      obtain rfl := Option.some.inj h
      rw [iter, endOf, rInit_at v ha ha, if_pos rfl]
      exact ⟨by simp, ble_refl _ _⟩
  | n + 1 => by
    obtain ⟨i1, i2⟩ := rIter_ok ok ha n
    obtain ⟨j1, j2, j3⟩ := rFold_ok ok v.lks (fun _ h => h) i1
    refine ⟨j1, fun l s hl h => ?_⟩
    rcases List.eq_nil_or_concat l with rfl | ⟨l', b, rfl⟩
    · obtain ⟨q1, q2⟩ := i2 [] s (by simp) h
      obtain ⟨r1, r2⟩ := j2 _ ha q1
      exact ⟨r1, ble_trans r2 q2⟩
    · rw [List.concat_eq_append] at h hl ⊢
      obtain ⟨t, u, h1, h2, rfl⟩ := wk_app.1 h
      obtain ⟨x, w, h3, h4, rfl⟩ := wk_cons.1 h2
      obtain rfl := Option.some.inj h4
      obtain ⟨m, e1, e2⟩ := lkOf_some h3
      obtain ⟨q1, q2⟩ := i2 l' t (by simp at hl; omega) h1
      rw [← e1] at q1 q2
      have := j3 x m t.1 (a :: l') (by simp) q1 q2
      have e : iter (rRound v) (n + 1) (rInit v a) = v.lks.foldl (rStep v) (iter (rRound v) n (rInit v a)) := rfl
      rw [endOf_snoc, ← e2, e]
      simpa using this
theorem ble_worse {d e f : Int} {p q : List Bytes} (h : d < e) : ble d p e q := .inl h
/-- The reference's search finds the best. -/
theorem rsh_best (ok : NetOk v) {a b : Bytes} (ha : hasPt v.pts a = true) (hb : hasPt v.pts b = true) :
    ((stG v (rsh v a) b).1 = [] → ∀ l s, wk v a l = some s → endOf a l ≠ b) ∧ ((stG v (rsh v a) b).1 ≠ [] → ∃ l, (stG v (rsh v a) b).1 = a :: l ∧ IsBest v a b l (stG v (rsh v a) b).2) := by
  obtain ⟨i1, i2⟩ := rIter_ok ok ha v.pts.length
  have key : ∀ l s, wk v a l = some s → endOf a l = b → (stG v (rsh v a) b).1 ≠ [] ∧ ble (stG v (rsh v a) b).2 (stG v (rsh v a) b).1 s.1 (a :: l) := by
    intro l s h he
    obtain ⟨l', s', q1, q2, q3, _, q5⟩ := simple_le ok _ a l s (Nat.le_refl _) h
    have hl := simple_len ok q1 ha q3
    obtain ⟨r1, r2⟩ := i2 l' s' (by omega) q1
    rw [q2, he] at r1 r2
    refine ⟨r1, ?_⟩
    rcases q5 with rfl | ⟨q5, _⟩
    · rw [q1] at h
      obtain rfl := Option.some.inj h
      exact r2
    · exact ble_trans r2 (.inl q5)
  refine ⟨fun hz l s h he => (key l s h he).1 hz, fun hz => ?_⟩
  obtain ⟨l, s, e1, e2, e3, e4⟩ := i1.walk b hb hz
  refine ⟨l, e1, ⟨s, e2, e3⟩, e4, fun l' s' h he => ?_⟩
  have := (key l' s' h he).2
  rw [show (stG v (rsh v a) b).1 = a :: l from e1] at this
  exact this
theorem bestP_some (ok : NetOk v) {a b : Bytes} {l : List Bytes} {d : Int} (ha : hasPt v.pts a = true) (hb : hasPt v.pts b = true) (h : IsBest v a b l d) : bestP v a b = some (a :: l, d) := by
  obtain ⟨r1, r2⟩ := rsh_best ok ha hb
  unfold bestP
  rw [if_pos ⟨ha, hb⟩]
  split
  · rename_i hz
    obtain ⟨s, w1, _⟩ := h.walk
    exact absurd h.ends (r1 hz l s w1)
  · rename_i hz
    obtain ⟨l', e1, e2⟩ := r2 hz
    obtain ⟨rfl, e3⟩ := e2.uniq h
    rw [← e1, ← e3]
theorem bestP_none (ok : NetOk v) {a b : Bytes} (h : ∀ l s, wk v a l = some s → endOf a l ≠ b) : bestP v a b = none := by
  unfold bestP
  split
  · rename_i hh
    obtain ⟨r1, r2⟩ := rsh_best ok hh.1 hh.2
    split
    · rfl
    · rename_i hz
      obtain ⟨l, e1, e2⟩ := r2 hz
      obtain ⟨s, w1, _⟩ := e2.walk
      exact absurd e2.ends (h l s w1)
  · rfl
theorem bestP_spec (ok : NetOk v) (a b : Bytes) : (∃ l d, bestP v a b = some (a :: l, d) ∧ IsBest v a b l d ∧ hasPt v.pts a = true ∧ hasPt v.pts b = true) ∨ (bestP v a b = none ∧ (hasPt v.pts a = true → hasPt v.pts b = true → ¬ Rch v a b)) := by
  by_cases hh : hasPt v.pts a = true ∧ hasPt v.pts b = true
  · obtain ⟨r1, r2⟩ := rsh_best ok hh.1 hh.2
    by_cases hz : (stG v (rsh v a) b).1 = []
    · right
      refine ⟨by unfold bestP; rw [if_pos hh, if_pos hz], fun _ _ ⟨l, s, h1, h2⟩ => r1 hz l s h1 h2⟩
    · left
      obtain ⟨l, e1, e2⟩ := r2 hz
      refine ⟨l, (stG v (rsh v a) b).2, ?_, e2, hh⟩
      unfold bestP; rw [if_pos hh, if_neg hz, ← e1]
  · right
    refine ⟨by unfold bestP; rw [if_neg hh], fun h1 h2 => absurd ⟨h1, h2⟩ hh⟩
theorem IsBest.simple (ok : NetOk v) {a b : Bytes} {l : List Bytes} {d : Int} (h : IsBest v a b l d) : (a :: l).Nodup := by
  obtain ⟨s, w1, rfl⟩ := h.walk
  obtain ⟨l', s', q1, q2, q3, _, q5⟩ := simple_le ok _ a l s (Nat.le_refl _) w1
  rcases q5 with rfl | ⟨q5, _⟩
  · exact q3
  · rcases h.best l' s' q1 (q2.trans h.ends) with c | ⟨c, _⟩
    · omega
    · omega
/-! ### As the reference goes -/
def rSt (v : Net) (a : Bytes) (r i : Nat) : St := (v.lks.take i).foldl (rStep v) (iter (rRound v) r (rInit v a))
theorem rSt_zero (v : Net) (a : Bytes) : rSt v a 0 0 = rInit v a := rfl
theorem rSt_succ {v : Net} {i : Nat} {x : Lk} (a : Bytes) (r : Nat) (h : v.lks[i]? = some x) : rSt v a r (i + 1) = rStep v (rSt v a r i) x := by
  rw [rSt, List.take_add_one, h, Option.toList_some, List.foldl_append]
  rfl
theorem rSt_all (v : Net) (a : Bytes) (r : Nat) : rSt v a r v.lks.length = rSt v a (r + 1) 0 := by
  rw [rSt, List.take_length]; rfl
theorem rSt_last (v : Net) (a : Bytes) : rSt v a v.pts.length 0 = rsh v a := rfl
theorem rSt_ok (ok : NetOk v) {a : Bytes} (ha : hasPt v.pts a = true) (r i : Nat) : StOk v a (rSt v a r i) :=
  (rFold_ok ok _ (fun x hx => List.mem_of_mem_take hx) (rIter_ok ok ha r).1).1
theorem stG_len {st : St} {n : Nat} (h : ∀ y ∈ st, y.1.length ≤ n) (t : Bytes) : (stG v st t).1.length ≤ n := by
  unfold stG
  rw [List.getD_eq_getElem?_getD]
  cases e : st[posP v.pts t]? with
  | none => simp
  | some y => exact h y (List.mem_of_getElem? e)
theorem rStep_len {st : St} {n : Nat} (h : ∀ y ∈ st, y.1.length ≤ n) (x : Lk) : ∀ y ∈ rStep v st x, y.1.length ≤ n + 1 := by
  intro y hy
  unfold rStep at hy
  split at hy
  · exact Nat.le_succ_of_le (h y hy)
  · split at hy
    · rcases List.mem_or_eq_of_mem_set hy with hy | rfl
      · exact Nat.le_succ_of_le (h y hy)
      · have := stG_len (v := v) h x.src
        simp; omega
    · exact Nat.le_succ_of_le (h y hy)
theorem rFold_len : ∀ (ls : List Lk) {st : St} {n : Nat}, (∀ y ∈ st, y.1.length ≤ n) → ∀ y ∈ ls.foldl (rStep v) st, y.1.length ≤ n + ls.length
  | [], st, n, h => fun y hy => h y hy
  | x :: ls, st, n, h => fun y hy => by
    have := rFold_len ls (rStep_len (v := v) h x) y hy
    simp; omega
theorem rSt_len (hl : v.lks.length ≤ 128) (a : Bytes) : ∀ r i, i ≤ v.lks.length → ∀ y ∈ rSt v a r i, y.1.length ≤ 1 + 128 * r + i
  | 0, i, hi => fun y hy => by
    have h0 : ∀ y ∈ rInit v a, y.1.length ≤ 1 := fun y hy => by
      unfold rInit at hy
      rcases List.mem_or_eq_of_mem_set hy with hy | rfl
      · obtain ⟨_, _, rfl⟩ := List.mem_map.1 hy
        simp
      · simp
    have := rFold_len (v := v) (v.lks.take i) h0 y hy
    simp at this ⊢; omega
  | r + 1, i, hi => fun y hy => by
    have h0 := rSt_len hl a r v.lks.length (Nat.le_refl _)
    rw [rSt_all] at h0
    have := rFold_len (v := v) (v.lks.take i) h0 y hy
    simp at this ⊢; omega
theorem stG_get {st : St} (hl : st.length = v.pts.length) {t : Bytes} (ht : hasPt v.pts t = true) : st[posP v.pts t]? = some (stG v st t) := by
  have h : posP v.pts t < st.length := by rw [hl]; exact posP_lt ht
  unfold stG
  rw [List.getD_eq_getElem?_getD, List.getElem?_eq_getElem h]; rfl
/-- The rows and the numbers of a state. -/
def stP (st : St) : List (List (List AV)) := st.map fun y => y.1.map encT
def stD (st : St) : List (List AV) := st.map fun y => [.int .i64 y.2]
theorem stP_len (st : St) : (stP st).length = st.length := by simp [stP]
theorem stD_len (st : St) : (stD st).length = st.length := by simp [stD]
theorem stP_set (st : St) (k : Nat) (y : List Bytes × Int) : stP (st.set k y) = (stP st).set k (y.1.map encT) := by simp [stP, List.map_set]
theorem stD_set (st : St) (k : Nat) (y : List Bytes × Int) : stD (st.set k y) = (stD st).set k [.int .i64 y.2] := by simp [stD, List.map_set]
theorem stP_get {st : St} {k : Nat} {y : List Bytes × Int} (h : st[k]? = some y) : (stP st)[k]? = some (y.1.map encT) := by rw [stP, List.getElem?_map, h]; rfl
theorem stD_get {st : St} {k : Nat} {y : List Bytes × Int} (h : st[k]? = some y) : (stD st)[k]? = some [.int .i64 y.2] := by rw [stD, List.getElem?_map, h]; rfl
def st0 (n : Nat) : St := List.replicate n ([], 0)
theorem st0_P (n : Nat) : stP (st0 n) = List.replicate n [] := by simp [stP, st0]
theorem st0_D (n : Nat) : stD (st0 n) = List.replicate n [.int .i64 0] := by simp [stD, st0]
theorem rInit_eq (v : Net) (a : Bytes) : rInit v a = (st0 v.pts.length).set (posP v.pts a) ([a], 0) := by
  rw [rInit]
  congr 1
  exact List.eq_replicate_iff.2 ⟨by simp, fun b hb => by simp at hb; exact hb.2.symm⟩
end
end Go.Toll
end

section 

namespace Go.Toll
open Go Go.Abs

def lastT (p : List Bytes) : Bytes := p.getLast?.getD []
@[simp] theorem lastT_snoc (p : List Bytes) (x : Bytes) : lastT (p ++ [x]) = x := by simp [lastT]
@[simp] theorem lastT_one (x : Bytes) : lastT [x] = x := rfl
theorem lastT_mem {p : List Bytes} (h : p ≠ []) : lastT p ∈ p := by
  rcases List.eq_nil_or_concat p with rfl | ⟨q, x, rfl⟩
  · exact absurd rfl h
  · rw [List.concat_eq_append, lastT_snoc]; simp

/-- The points that are new are marked and kept. -/
def cplAdd (st : List Bytes × List Bytes) (x : Bytes) : List Bytes × List Bytes := if x ∈ st.1 then st else (st.1 ++ [x], st.2 ++ [x])
def cplMore (v : Net) (st : List Bytes × List Bytes) (y : Bytes) : List Bytes × List Bytes := (nextL v y).foldl cplAdd st
def cplLev (v : Net) (seen front : List Bytes) : List Bytes × List Bytes := front.foldl (cplMore v) (seen, [])
def cplB (v : Net) (t : Bytes) : Nat → List Bytes → List Bytes → Bool
  | 0, _, _ => false
  | n + 1, seen, front => if t ∈ front then true else cplB v t n (cplLev v seen front).1 (cplLev v seen front).2
/-- Can a path be completed to a simple path of at most 16 points that ends with t? -/
def complB (v : Net) (p : List Bytes) (t : Bytes) : Bool := cplB v t (17 - p.length) p [lastT p]

/-- A walk of k links from a that meets no point of p. -/
def Rk (v : Net) (p : List Bytes) (a : Bytes) (k : Nat) (x : Bytes) : Prop := ∃ w s, wk v a w = some s ∧ endOf a w = x ∧ (∀ z ∈ w, z ∉ p) ∧ w.length = k
section
variable {v : Net}
theorem cplAdd_all (xs : List Bytes) : ∀ st : List Bytes × List Bytes, (∀ x, x ∈ (xs.foldl cplAdd st).1 ↔ x ∈ st.1 ∨ x ∈ xs) ∧ (∀ x, x ∈ (xs.foldl cplAdd st).2 ↔ x ∈ st.2 ∨ (x ∈ xs ∧ x ∉ st.1)) := by
  induction xs with
  | nil => intro st; simp
  | cons y xs ih =>
    intro st
    obtain ⟨i1, i2⟩ := ih (cplAdd st y)
    rw [List.foldl_cons]
    by_cases h : y ∈ st.1
    · rw [show cplAdd st y = st by rw [cplAdd, if_pos h]] at i1 i2 ⊢
      refine ⟨fun x => ?_, fun x => ?_⟩
      · rw [i1, List.mem_cons]
        constructor
        · rintro (a | a); exact .inl a; exact .inr (.inr a)
        · rintro (a | rfl | a); exact .inl a; exact .inl h; exact .inr a
      · rw [i2, List.mem_cons]
        constructor
        · rintro (a | ⟨a, b⟩); exact .inl a; exact .inr ⟨.inr a, b⟩
        · rintro (a | ⟨rfl | a, b⟩); exact .inl a; exact absurd h b; exact .inr ⟨a, b⟩
    · rw [show cplAdd st y = (st.1 ++ [y], st.2 ++ [y]) by rw [cplAdd, if_neg h]] at i1 i2 ⊢
      refine ⟨fun x => ?_, fun x => ?_⟩
      · rw [i1, List.mem_cons, List.mem_append, List.mem_singleton, or_assoc]
      · rw [i2, List.mem_cons, List.mem_append, List.mem_singleton, List.mem_append, List.mem_singleton]
        constructor
        · rintro ((a | rfl) | ⟨a, b⟩)
          · exact .inl a
          · exact .inr ⟨.inl rfl, h⟩
          · exact .inr ⟨.inr a, fun c => b (.inl c)⟩
        · rintro (a | ⟨rfl | a, b⟩)
          · exact .inl (.inl a)
          · exact .inl (.inr rfl)
          · by_cases e : x = y
            · exact .inl (.inr e)
            · exact .inr ⟨a, by rintro (c | c); exact b c; exact e c⟩
theorem cplMore_all (v : Net) (ys : List Bytes) : ∀ st : List Bytes × List Bytes, (∀ x ∈ st.2, x ∈ st.1) →
    (∀ x, x ∈ (ys.foldl (cplMore v) st).1 ↔ x ∈ st.1 ∨ ∃ y ∈ ys, x ∈ nextL v y) ∧ (∀ x, x ∈ (ys.foldl (cplMore v) st).2 ↔ x ∈ st.2 ∨ ((∃ y ∈ ys, x ∈ nextL v y) ∧ x ∉ st.1)) := by
  induction ys with
  | nil => intro st _; simp
  | cons y ys ih =>
    intro st hst
    obtain ⟨a1, a2⟩ := cplAdd_all (nextL v y) st
    have hst' : ∀ x ∈ (cplMore v st y).2, x ∈ (cplMore v st y).1 := fun x hx => by
      rw [cplMore, a2] at hx
      rw [cplMore, a1]
      rcases hx with hx | hx
      · exact .inl (hst x hx)
      · exact .inr hx.1
    obtain ⟨i1, i2⟩ := ih (cplMore v st y) hst'
    rw [List.foldl_cons]
    refine ⟨fun x => ?_, fun x => ?_⟩
    · rw [i1, cplMore, a1, or_assoc]
      simp
    · rw [i2, cplMore, a1, a2]
      constructor
      · rintro ((h | ⟨h, h'⟩) | ⟨⟨z, hz, h⟩, h'⟩)
        · exact .inl h
        · exact .inr ⟨⟨y, by simp, h⟩, h'⟩
        · exact .inr ⟨⟨z, by simp [hz], h⟩, fun c => h' (.inl c)⟩
      · rintro (h | ⟨⟨z, hz, h⟩, h'⟩)
        · exact .inl (.inl h)
        · by_cases e : x ∈ nextL v y
          · exact .inl (.inr ⟨e, h'⟩)
          · rcases List.mem_cons.1 hz with rfl | hz
            · exact absurd h e
            · exact .inr ⟨⟨z, hz, h⟩, by rintro (c | c); exact h' c; exact e c⟩
theorem cplLev_all (v : Net) (seen front : List Bytes) : (∀ x, x ∈ (cplLev v seen front).1 ↔ x ∈ seen ∨ ∃ y ∈ front, x ∈ nextL v y) ∧ (∀ x, x ∈ (cplLev v seen front).2 ↔ ((∃ y ∈ front, x ∈ nextL v y) ∧ x ∉ seen)) := by
  obtain ⟨h1, h2⟩ := cplMore_all v front (seen, []) (by simp)
  exact ⟨h1, fun x => by rw [cplLev, h2]; simp⟩
theorem Rk.step (ok : NetOk v) {p : List Bytes} {a y x : Bytes} {k : Nat} (h : Rk v p a k y) (hx : x ∈ nextL v y) (hp : x ∉ p) : Rk v p a (k + 1) x := by
  obtain ⟨w, s, h1, rfl, h3, h4⟩ := h
  obtain ⟨z, hz⟩ := (lkOf_next ok _ _).1 hx
  refine ⟨w ++ [x], _, wk_app.2 ⟨s, (z.min + 0, z.max + 0), h1, wk_cons.2 ⟨z, (0, 0), hz, rfl, rfl⟩, rfl⟩, endOf_snoc _ _ _, fun u hu => ?_, by simp [h4]⟩
  rcases List.mem_append.1 hu with hu | hu
  · exact h3 u hu
  · rw [List.mem_singleton.1 hu]; exact hp
theorem Rk.back (ok : NetOk v) {p : List Bytes} {a x : Bytes} {k : Nat} (h : Rk v p a (k + 1) x) : ∃ y, Rk v p a k y ∧ x ∈ nextL v y ∧ x ∉ p ∧ (y ∈ p → k = 0 ∧ y = a) := by
  obtain ⟨w, s, h1, h2, h3, h4⟩ := h
  rcases List.eq_nil_or_concat w with rfl | ⟨w', b, rfl⟩
  · simp at h4
  · rw [List.concat_eq_append] at h1 h2 h3 h4
    rw [endOf_snoc] at h2
    subst h2
    obtain ⟨t, u, e1, e2, _⟩ := wk_app.1 h1
    obtain ⟨z, _, e3, _, _⟩ := wk_cons.1 e2
    refine ⟨endOf a w', ⟨w', t, e1, rfl, fun z hz => h3 z (by simp [hz]), by simpa using h4⟩, (lkOf_next ok _ _).2 ⟨z, e3⟩, h3 _ (by simp), fun hy => ?_⟩
    cases w' with
    | nil => exact ⟨by simp at h4; omega, rfl⟩
    | cons c w' => exact absurd hy (h3 _ (by have := endOf_mem c w'; show endOf c w' ∈ _; rw [List.mem_append]; exact .inl this))
theorem Rk.zero {p : List Bytes} {a x : Bytes} (h : Rk v p a 0 x) : x = a := by
  obtain ⟨w, s, h1, h2, h3, h4⟩ := h
  obtain rfl := List.length_eq_zero_iff.1 h4
  exact h2.symm
theorem Rk.out {p : List Bytes} {a x : Bytes} {k : Nat} (h : Rk v p a k x) : x = a ∨ x ∉ p := by
  obtain ⟨w, s, h1, h2, h3, h4⟩ := h
  cases w with
  | nil => exact .inl h2.symm
  | cons b w =>
    right
    rw [← h2]
    exact h3 _ (endOf_mem b w)
theorem cplB_spec (ok : NetOk v) (t : Bytes) (p : List Bytes) (a : Bytes) (ha : a ∈ p) : ∀ (n k : Nat) (seen front : List Bytes), (∀ x ∈ front, Rk v p a k x) → (∀ x ∈ p, x ∈ seen) → (∀ x, (∃ j, j ≤ k ∧ Rk v p a j x) → x ∈ seen) →
    (∀ x ∈ seen, x ∈ front ∨ (∀ y ∈ nextL v x, y ∈ seen) ∨ (x ∈ p ∧ x ≠ a)) → (t ∈ seen → t ∈ front ∨ (t ∈ p ∧ t ≠ a)) → (∀ j, j < k → ¬ Rk v p a j t) →
    (cplB v t n seen front = true ↔ ∃ j, j < k + n ∧ Rk v p a j t)
  | 0, k, seen, front, i1, i2, i3, i4, i5, i6 => by
    simp only [cplB, Bool.false_eq_true, false_iff]
    rintro ⟨j, hj, h⟩
    exact i6 j (by omega) h
  | n + 1, k, seen, front, i1, i2, i3, i4, i5, i6 => by
    rw [cplB]
    by_cases hf : t ∈ front
    · rw [if_pos hf]
      simp only [true_iff]
      exact ⟨k, by omega, i1 t hf⟩
    · rw [if_neg hf]
      obtain ⟨l1, l2⟩ := cplLev_all v seen front
      have hk : ¬ Rk v p a k t := fun h => by
        rcases i5 (i3 t ⟨k, by omega, h⟩) with h1 | ⟨h1, h2⟩
        · exact hf h1
        · rcases h.out with h3 | h3
          · exact h2 h3
          · exact h3 h1
      rw [cplB_spec ok t p a ha n (k + 1) _ _ ?_ ?_ ?_ ?_ ?_ ?_]
      · constructor
        · rintro ⟨j, hj, h⟩; exact ⟨j, by omega, h⟩
        · rintro ⟨j, hj, h⟩; exact ⟨j, by omega, h⟩
      · intro x hx
        obtain ⟨⟨y, hy, hxy⟩, hxs⟩ := (l2 x).1 hx
        exact (i1 y hy).step ok hxy fun hp => hxs (i2 x hp)
      · intro x hx; exact (l1 x).2 (.inl (i2 x hx))
      · rintro x ⟨j, hj, h⟩
        rw [l1]
        rcases Nat.lt_or_ge k j with hjk | hjk
        · obtain rfl : j = k + 1 := by omega
          obtain ⟨y, hy, hxy, hxp, hyp⟩ := h.back ok
          have hys := i3 y ⟨k, by omega, hy⟩
          rcases i4 y hys with h1 | h1 | ⟨h1, h2⟩
          · exact .inr ⟨y, h1, hxy⟩
          · exact .inl (h1 x hxy)
          · exact absurd (hyp h1).2 h2
        · exact .inl (i3 x ⟨j, hjk, h⟩)
      · intro x hx
        rw [l1] at hx
        by_cases hm : x ∈ (cplLev v seen front).2
        · exact .inl hm
        · have hxs : x ∈ seen := by
            rcases hx with hx | hx
            · exact hx
            · exact Classical.byContradiction fun hc => hm ((l2 x).2 ⟨hx, hc⟩)
          rcases i4 x hxs with h1 | h1 | h1
          · exact .inr (.inl fun y hy => (l1 y).2 (.inr ⟨x, h1, hy⟩))
          · exact .inr (.inl fun y hy => (l1 y).2 (.inl (h1 y hy)))
          · exact .inr (.inr h1)
      · intro hx
        rw [l1] at hx
        by_cases hts : t ∈ seen
        · rcases i5 hts with h1 | h1
          · exact absurd h1 hf
          · exact .inr h1
        · rcases hx with hx | hx
          · exact absurd hx hts
          · exact .inl ((l2 t).2 ⟨hx, hts⟩)
      · intro j hj h
        rcases Nat.lt_or_ge j k with h1 | h1
        · exact i6 j h1 h
        · obtain rfl : j = k := by omega
          exact hk h
theorem complB_iff (ok : NetOk v) (t : Bytes) {p : List Bytes} (hp : p ≠ []) : complB v p t = true ↔ ∃ k, Rk v p (lastT p) k t ∧ p.length + k ≤ 16 := by
  rw [complB, cplB_spec ok t p (lastT p) (lastT_mem hp) (17 - p.length) 0 p [lastT p]]
  · constructor
    · rintro ⟨j, hj, h⟩; exact ⟨j, h, by omega⟩
    · rintro ⟨j, h, hj⟩; exact ⟨j, by omega, h⟩
  · intro x hx
    rw [List.mem_singleton.1 hx]
    exact ⟨[], (0, 0), rfl, rfl, by simp, rfl⟩
  · exact fun x hx => hx
  · rintro x ⟨j, hj, h⟩
    obtain rfl : j = 0 := by omega
    rw [h.zero]; exact lastT_mem hp
  · intro x hx
    by_cases e : x = lastT p
    · exact .inl (by simp [e])
    · exact .inr (.inr ⟨hx, e⟩)
  · intro ht
    by_cases e : t = lastT p
    · exact .inl (by simp [e])
    · exact .inr ⟨ht, e⟩
  · intro j hj; omega
end

/-- All simple paths that begin with a path and end with t, until there are more than 1024; n: how many points may follow. -/
def extM (v : Net) (t : Bytes) : Nat → List Bytes → List (List Bytes) → List (List Bytes)
  | 0, path, found => if lastT path = t then found ++ [path] else found
  | n + 1, path, found => if lastT path = t then found ++ [path] else (nextL v (lastT path)).foldl (fun f x => if f.length ≤ 1024 ∧ x ∉ path ∧ complB v (path ++ [x]) t = true then extM v t n (path ++ [x]) f else f) found
def pathsM (v : Net) (a b : Bytes) : List (List Bytes) × Int :=
  if hasPt v.pts a = true ∧ hasPt v.pts b = true then (if 1024 < (extM v b 15 [a] []).length then ([], 3) else (extM v b 15 [a] [], 0)) else ([], 16)

/-- A path that completes another one. -/
structure Compl (v : Net) (path : List Bytes) (t : Bytes) (q : List Bytes) : Prop where
  ex : ∃ w s, q = path ++ w ∧ wk v (lastT path) w = some s ∧ endOf (lastT path) w = t ∧ (∀ z ∈ w, z ∉ path) ∧ w.Nodup ∧ q.length ≤ 16
section
variable {v : Net}
theorem ext_fold (ok : NetOk v) (t : Bytes) (n : Nat) (path : List Bytes) (hp : path ≠ [])
    (ih : ∀ x f, x ∉ path → x ∈ nextL v (lastT path) → complB v (path ++ [x]) t = true → ∃ new, extM v t n (path ++ [x]) f = f ++ new ∧ (∀ q ∈ new, Compl v (path ++ [x]) t q) ∧ new.Pairwise fun a b => pcmp a b < 0) :
    ∀ (xs : List Bytes) (f : List (List Bytes)), ascT xs → xs.Nodup → (∀ x ∈ xs, x ∈ nextL v (lastT path)) →
      ∃ new, xs.foldl (fun f x => if f.length ≤ 1024 ∧ x ∉ path ∧ complB v (path ++ [x]) t = true then extM v t n (path ++ [x]) f else f) f = f ++ new ∧
        (∀ q ∈ new, ∃ x ∈ xs, x ∉ path ∧ Compl v (path ++ [x]) t q) ∧ new.Pairwise fun a b => pcmp a b < 0
  | [], f, _, _, _ => ⟨[], by simp, by simp, .nil⟩
  | x :: xs, f, ha, hn, hm => by
    obtain ⟨a1, a2⟩ := List.pairwise_cons.1 ha
    obtain ⟨n1, n2⟩ := List.nodup_cons.1 hn
    rw [List.foldl_cons]
    by_cases hc : f.length ≤ 1024 ∧ x ∉ path ∧ complB v (path ++ [x]) t = true
    · rw [if_pos hc]
      obtain ⟨new, e1, e2, e3⟩ := ih x f hc.2.1 (hm x List.mem_cons_self) hc.2.2
      obtain ⟨new', i1, i2, i3⟩ := ext_fold ok t n path hp ih xs (extM v t n (path ++ [x]) f) a2 n2 fun y hy => hm y (List.mem_cons_of_mem _ hy)
      refine ⟨new ++ new', by rw [i1, e1, List.append_assoc], fun q hq => ?_, List.pairwise_append.2 ⟨e3, i3, fun q hq r hr => ?_⟩⟩
      · rcases List.mem_append.1 hq with hq | hq
        · exact ⟨x, List.mem_cons_self, hc.2.1, e2 q hq⟩
        · obtain ⟨y, hy, h⟩ := i2 q hq
          exact ⟨y, List.mem_cons_of_mem _ hy, h⟩
      · obtain ⟨w, s, rfl, _⟩ := (e2 q hq).ex
        obtain ⟨y, hy, _, hY⟩ := i2 r hr
        obtain ⟨w', s', rfl, _⟩ := hY.ex
        rw [List.append_assoc, List.append_assoc, pcmp_pre]
        show pcmp (x :: w) (y :: w') < 0
        have hle : cmpS x y ≤ 0 := (cmpS_le x y).2 (of_decide_eq_true (a1 y hy))
        have hne : cmpS x y ≠ 0 := fun e => n1 (cmpS_zero.1 e ▸ hy)
        rw [pcmp, if_neg hne]; omega
    · rw [if_neg hc]
      obtain ⟨new', i1, i2, i3⟩ := ext_fold ok t n path hp ih xs f a2 n2 fun y hy => hm y (List.mem_cons_of_mem _ hy)
      exact ⟨new', i1, fun q hq => by obtain ⟨y, hy, h⟩ := i2 q hq; exact ⟨y, List.mem_cons_of_mem _ hy, h⟩, i3⟩
theorem Compl.cons (ok : NetOk v) {path : List Bytes} {t x : Bytes} {q : List Bytes} (hx : x ∈ nextL v (lastT path)) (hp : x ∉ path) (h : Compl v (path ++ [x]) t q) : Compl v path t q := by
  obtain ⟨w, s, rfl, h1, h2, h3, h4, h5⟩ := h.ex
  rw [lastT_snoc] at h1 h2
  obtain ⟨z, hz⟩ := (lkOf_next ok _ _).1 hx
  refine ⟨x :: w, _, by simp, wk_cons.2 ⟨z, s, hz, h1, rfl⟩, h2, fun u hu => ?_, List.nodup_cons.2 ⟨fun hm => ?_, h4⟩, h5⟩
  · rcases List.mem_cons.1 hu with rfl | hu
    · exact hp
    · exact fun hc => h3 u hu (by simp [hc])
  · exact h3 x hm (by simp)
theorem extM_spec (ok : NetOk v) (t : Bytes) : ∀ (n : Nat) (path : List Bytes) (f : List (List Bytes)), path ≠ [] → path.length + n = 16 →
    ∃ new, extM v t n path f = f ++ new ∧ (∀ q ∈ new, Compl v path t q) ∧ new.Pairwise fun a b => pcmp a b < 0
  | 0, path, f, hp, hl => by
    rw [extM]
    split
    · rename_i e
      exact ⟨[path], rfl, fun q hq => ⟨[], (0, 0), by rw [List.mem_singleton.1 hq]; simp, rfl, e, by simp, by simp, by rw [List.mem_singleton.1 hq]; omega⟩, List.pairwise_singleton _ _⟩
    · exact ⟨[], by simp, by simp, .nil⟩
  | n + 1, path, f, hp, hl => by
    rw [extM]
    split
    · rename_i e
      exact ⟨[path], rfl, fun q hq => ⟨[], (0, 0), by rw [List.mem_singleton.1 hq]; simp, rfl, e, by simp, by simp, by rw [List.mem_singleton.1 hq]; omega⟩, List.pairwise_singleton _ _⟩
    · obtain ⟨new, e1, e2, e3⟩ := ext_fold ok t n path hp (fun x f hx hm hc => extM_spec ok t n (path ++ [x]) f (by simp) (by simp; omega)) _ f (nextL_asc v _) (ok.nextnd _) fun x hx => hx
      refine ⟨new, e1, fun q hq => ?_, e3⟩
      obtain ⟨x, hx, hxp, h⟩ := e2 q hq
      exact h.cons ok hx hxp
theorem extM_len (ok : NetOk v) (t : Bytes) (n : Nat) (path : List Bytes) (f : List (List Bytes)) (hp : path ≠ []) (hl : path.length + n = 16) : f.length ≤ (extM v t n path f).length := by
  obtain ⟨new, e, _⟩ := extM_spec ok t n path f hp hl
  rw [e]; simp
/-- Where the path can be completed, a path is found. -/
theorem extM_grow (ok : NetOk v) (t : Bytes) : ∀ (n : Nat) (path : List Bytes) (f : List (List Bytes)), path ≠ [] → path.length + n = 16 → f.length ≤ 1024 → (∃ k, Rk v path (lastT path) k t ∧ path.length + k ≤ 16) → f.length < (extM v t n path f).length
  | 0, path, f, hp, hl, hf, ⟨k, h, hk⟩ => by
    obtain rfl : k = 0 := by omega
    rw [extM, if_pos h.zero.symm]; simp
  | n + 1, path, f, hp, hl, hf, ⟨k, h, hk⟩ => by
    rw [extM]
    by_cases e : lastT path = t
    · rw [if_pos e]; simp
    · rw [if_neg e]
      obtain ⟨w, s, h1, h2, h3, h4⟩ := h
      obtain ⟨w', s', q1, q2, q3, q4, q5⟩ := simple_le ok _ _ w s (Nat.le_refl _) h1
      have hl' : w'.length ≤ w.length := by rcases q5 with rfl | ⟨_, q5⟩ <;> omega
      rw [h2] at q2
      cases w' with
      | nil => exact absurd q2 e
      | cons x w' =>
        obtain ⟨z, s'', z1, z2, _⟩ := wk_cons.1 q1
        have hxp : x ∉ path := h3 x (q4 x (by simp))
        have hxn : x ∈ nextL v (lastT path) := (lkOf_next ok _ _).2 ⟨z, z1⟩
        have hn := (List.nodup_cons.1 q3).2
        have hxw := (List.nodup_cons.1 hn).1
        have hR : ∃ k, Rk v (path ++ [x]) (lastT (path ++ [x])) k t ∧ (path ++ [x]).length + k ≤ 16 := by
          refine ⟨w'.length, ⟨w', s'', by rw [lastT_snoc]; exact z2, by rw [lastT_snoc]; exact q2, fun u hu hc => ?_, rfl⟩, by simp at hl' ⊢; omega⟩
          rcases List.mem_append.1 hc with hc | hc
          · exact h3 u (q4 u (by simp [hu])) hc
          · exact hxw (List.mem_singleton.1 hc ▸ hu)
        have hcb := (complB_iff ok t (p := path ++ [x]) (by simp)).2 hR
        have mono : ∀ (xs : List Bytes) (g : List (List Bytes)), g.length ≤ (xs.foldl (fun f x => if f.length ≤ 1024 ∧ x ∉ path ∧ complB v (path ++ [x]) t = true then extM v t n (path ++ [x]) f else f) g).length := by
          intro xs
          induction xs with
          | nil => intro g; simp
          | cons y xs ih =>
            intro g
            rw [List.foldl_cons]
            refine Nat.le_trans ?_ (ih _)
            split
            · exact extM_len ok t n _ _ (by simp) (by simp; omega)
            · exact Nat.le_refl _
        have key : ∀ (xs : List Bytes) (g : List (List Bytes)), x ∈ xs → f.length ≤ g.length → f.length < (xs.foldl (fun f x => if f.length ≤ 1024 ∧ x ∉ path ∧ complB v (path ++ [x]) t = true then extM v t n (path ++ [x]) f else f) g).length := by
          intro xs
          induction xs with
          | nil => intro g h; cases h
          | cons y xs ih =>
            intro g hm hg
            rw [List.foldl_cons]
            by_cases ey : y = x
            · subst ey
              refine Nat.lt_of_lt_of_le ?_ (mono xs _)
              by_cases hg2 : g.length ≤ 1024
              · rw [if_pos ⟨hg2, hxp, hcb⟩]
                exact Nat.lt_of_le_of_lt hg (extM_grow ok t n _ g (by simp) (by simp; omega) hg2 hR)
              · rw [if_neg (by rintro ⟨c, _⟩; omega)]; omega
            · refine ih _ (by rcases List.mem_cons.1 hm with rfl | hm; exact absurd rfl ey; exact hm) (Nat.le_trans hg ?_)
              split
              · exact extM_len ok t n _ _ (by simp) (by simp; omega)
              · exact Nat.le_refl _
        exact key _ f hxn (Nat.le_refl _)
/-- The paths are simple, ascend, and have the given ends. -/
theorem pathsM_spec (ok : NetOk v) (a b : Bytes) : (pathsM v a b).1.length ≤ 1024 ∧ ((pathsM v a b).1.Pairwise fun p q => pcmp p q < 0) ∧
    ∀ q ∈ (pathsM v a b).1, ∃ l s, q = a :: l ∧ wk v a l = some s ∧ endOf a l = b ∧ q.Nodup ∧ q.length ≤ 16 ∧ hasPt v.pts a = true ∧ hasPt v.pts b = true := by
  obtain ⟨new, e1, e2, e3⟩ := extM_spec ok b 15 [a] [] (by simp) rfl
  unfold pathsM
  split
  · rename_i hh
    split
    · simp
    · rename_i hl
      refine ⟨by show (extM v b 15 [a] []).length ≤ 1024; omega, by show (extM v b 15 [a] []).Pairwise _; rw [e1]; exact e3, fun q hq => ?_⟩
      have hq : q ∈ extM v b 15 [a] [] := hq
      rw [e1] at hq
      obtain ⟨w, s, rfl, h1, h2, h3, h4, h5⟩ := (e2 q hq).ex
      exact ⟨w, s, rfl, h1, h2, List.nodup_cons.2 ⟨fun hm => h3 a hm (by simp), h4⟩, h5, hh⟩
  · simp
theorem pathsM_err (v : Net) (a b : Bytes) : (pathsM v a b).2 ≠ 0 → (pathsM v a b).1 = [] := by
  unfold pathsM
  split
  · split <;> simp
  · simp
theorem pathsM_some (ok : NetOk v) {a b : Bytes} {l : List Bytes} {s : Int × Int} (h0 : (pathsM v a b).2 = 0) (h1 : wk v a l = some s) (h2 : endOf a l = b) (h3 : (a :: l).Nodup) (h4 : l.length ≤ 15) : (pathsM v a b).1 ≠ [] := by
  unfold pathsM at h0 ⊢
  split at h0
  · rename_i hh
    rw [if_pos hh]
    split at h0
    · cases h0
    · rename_i hl
      rw [if_neg hl]
      have := extM_grow ok b 15 [a] [] (by simp) rfl (by simp) ⟨l.length, ⟨l, s, h1, h2, fun z hz hc => (List.nodup_cons.1 h3).1 (List.mem_singleton.1 hc ▸ hz), rfl⟩, by simp; omega⟩
      intro e
      rw [show (extM v b 15 [a] [], (0 : Int)).1 = extM v b 15 [a] [] from rfl] at e
      rw [e] at this
      simp at this
  · cases h0
/-! ### Step by step -/
def extS (v : Net) (t : Bytes) (n : Nat) (path : List Bytes) (f : List (List Bytes)) (x : Bytes) : List (List Bytes) :=
  if f.length ≤ 1024 ∧ x ∉ path ∧ complB v (path ++ [x]) t = true then (match n with | 0 => f | n + 1 => extM v t n (path ++ [x]) f) else f
def extF (v : Net) (t : Bytes) (n : Nat) (path : List Bytes) (f : List (List Bytes)) (k : Nat) : List (List Bytes) := ((nextL v (lastT path)).take k).foldl (extS v t n path) f
theorem extS_neg {v : Net} {t : Bytes} {n : Nat} {path : List Bytes} {f : List (List Bytes)} {x : Bytes} (h : ¬ (f.length ≤ 1024 ∧ x ∉ path ∧ complB v (path ++ [x]) t = true)) : extS v t n path f x = f := by
  unfold extS; rw [if_neg h]
theorem extS_pos {v : Net} {t : Bytes} {n : Nat} {path : List Bytes} {f : List (List Bytes)} {x : Bytes} (h : f.length ≤ 1024 ∧ x ∉ path ∧ complB v (path ++ [x]) t = true) : extS v t (n + 1) path f x = extM v t n (path ++ [x]) f := by
  unfold extS; rw [if_pos h]
theorem extF_zero (v : Net) (t : Bytes) (n : Nat) (path : List Bytes) (f : List (List Bytes)) : extF v t n path f 0 = f := rfl
theorem extF_succ {v : Net} {t : Bytes} {n : Nat} {path : List Bytes} {f : List (List Bytes)} {k : Nat} {x : Bytes} (h : (nextL v (lastT path))[k]? = some x) : extF v t n path f (k + 1) = extS v t n path (extF v t n path f k) x := by
  rw [extF, List.take_add_one, h, Option.toList_some, List.foldl_append]; rfl
theorem extF_all {v : Net} {t : Bytes} {n : Nat} {path : List Bytes} {f : List (List Bytes)} (h : lastT path ≠ t) : extF v t n path f (nextL v (lastT path)).length = extM v t n path f := by
  rw [extF, List.take_length]
  cases n with
  | zero =>
    rw [extM, if_neg h]
    generalize nextL v (lastT path) = l
    induction l with
    | nil => rfl
    | cons x l ih =>
      rw [List.foldl_cons]
      have : extS v t 0 path f x = f := by unfold extS; split <;> rfl
      rw [this, ih]
  | succ n => rw [extM, if_neg h]; rfl
theorem extM_leaf {v : Net} {t : Bytes} {n : Nat} {path : List Bytes} {f : List (List Bytes)} (h : lastT path = t) : extM v t n path f = f ++ [path] := by
  cases n <;> rw [extM, if_pos h]
theorem extM_le (v : Net) (t : Bytes) : ∀ (n : Nat) (path : List Bytes) (f : List (List Bytes)), f.length ≤ 1024 → (extM v t n path f).length ≤ 1025
  | 0, path, f, h => by
    rw [extM]; split
    · simp; omega
    · omega
  | n + 1, path, f, h => by
    rw [extM]; split
    · simp; omega
    · have : ∀ (l : List Bytes) (f : List (List Bytes)), f.length ≤ 1025 → (l.foldl (fun f x => if f.length ≤ 1024 ∧ x ∉ path ∧ complB v (path ++ [x]) t = true then extM v t n (path ++ [x]) f else f) f).length ≤ 1025 := by
        intro l
        induction l with
        | nil => intro f h; exact h
        | cons x l ih =>
          intro f h
          rw [List.foldl_cons]
          refine ih _ ?_
          split
          · rename_i hc
            exact extM_le v t n _ f hc.1
          · exact h
      exact this _ f (by omega)
theorem extS_le (v : Net) (t : Bytes) (n : Nat) (path : List Bytes) (f : List (List Bytes)) (x : Bytes) (h : f.length ≤ 1025) : (extS v t n path f x).length ≤ 1025 := by
  unfold extS
  split
  · rename_i hc
    cases n with
    | zero => exact h
    | succ n => exact extM_le v t n _ f hc.1
  · exact h
theorem extF_le (v : Net) (t : Bytes) (n : Nat) (path : List Bytes) (f : List (List Bytes)) (h : f.length ≤ 1025) : ∀ k, (extF v t n path f k).length ≤ 1025
  | 0 => h
  | k + 1 => by
    cases e : (nextL v (lastT path))[k]? with
    | none =>
      have : extF v t n path f (k + 1) = extF v t n path f k := by rw [extF, extF, List.take_add_one, e]; simp
      rw [this]; exact extF_le v t n path f h k
    | some x => rw [extF_succ e]; exact extS_le v t n path _ x (extF_le v t n path f h k)
end
end Go.Toll
end

section 

namespace Go.Toll
open Go Go.Abs

structure TRoad where
  to : Int
  min : Int
  max : Int
  deriving DecidableEq
def encRoad (r : TRoad) : List AV := [.int .i64 r.to, .int .i64 r.min, .int .i64 r.max]
@[simp] theorem encRoad_len (r : TRoad) : (encRoad r).length = 3 := rfl
@[simp] theorem encRoad_eq (r : TRoad) : encRoad r = [.int .i64 r.to, .int .i64 r.min, .int .i64 r.max] := rfl
def encNum (n : Nat) : AV := .int .i64 (n : Int)

/-- The number of a point. -/
def posN (v : Net) (s : Bytes) : Nat := (ptsN v).idxOf s
def roadOf (v : Net) (x : Lk) : TRoad := ⟨posN v x.dst, x.min, x.max⟩
def rowOf (v : Net) (s : Bytes) : List TRoad := (lksOf v s).map (roadOf v)
def rowsR (v : Net) : List (List TRoad) := (ptsN v).map (rowOf v)
/-- The map of the numbers. -/
def numM : Nat → List Bytes → List (Bytes × Nat)
  | _, [] => []
  | i, s :: l => (s, i) :: numM (i + 1) l
def atM (v : Net) : List (Bytes × Nat) := numM 0 (ptsN v)
def encRoads (v : Net) (m : Nat) : List AV := [.ro ((ptsN v).map encT), .map m, .ro ((rowsR v).map fun r => [.ro (r.map encRoad)])]

theorem numM_len : ∀ (l : List Bytes) (i : Nat), (numM i l).length = l.length
  | [], _ => rfl
  | s :: l, i => by rw [numM, List.length_cons, numM_len l (i + 1)]; rfl
theorem getS_numM (t : Bytes) : ∀ (l : List Bytes) (i : Nat), getS (numM i l) t = if t ∈ l then some (i + l.idxOf t) else none
  | [], i => rfl
  | s :: l, i => by
    have ih := getS_numM t l (i + 1)
    by_cases h : t = s
    · subst h
      simp [numM, getS]
    · have : getS (numM i (s :: l)) t = getS (numM (i + 1) l) t := by simp [numM, getS, h]
      rw [this, ih]
      by_cases hm : t ∈ l
      · rw [if_pos hm, if_pos (List.mem_cons_of_mem _ hm), List.idxOf_cons]
        rw [show (s == t) = false by simp; exact fun e => h e.symm]
        simp; omega
      · rw [if_neg hm, if_neg (by rw [List.mem_cons]; rintro (e | e); exact h e; exact hm e)]
theorem putS_new {α : Type} : ∀ (m : List (Bytes × α)) (t : Bytes) (x : α), t ∉ m.map (·.1) → putS m t x = m ++ [(t, x)]
  | [], t, x, _ => rfl
  | p :: m, t, x, h => by
    rw [List.map_cons, List.mem_cons, not_or] at h
    rw [putS, if_neg (by simpa using h.1), putS_new m t x h.2]; rfl
theorem numM_keys : ∀ (l : List Bytes) (i : Nat), (numM i l).map (·.1) = l
  | [], _ => rfl
  | s :: l, i => by rw [numM, List.map_cons, numM_keys l (i + 1)]
theorem numM_snoc (s : Bytes) : ∀ (l : List Bytes) (i : Nat), numM i (l ++ [s]) = numM i l ++ [(s, i + l.length)]
  | [], i => rfl
  | t :: l, i => by
    rw [List.cons_append, numM, numM_snoc s l (i + 1), numM]
    simp; omega
section
variable {v : Net}
theorem getS_atM (v : Net) (t : Bytes) : getS (atM v) t = if hasPt v.pts t = true then some (posN v t) else none := by
  rw [atM, getS_numM, posN]
  by_cases h : t ∈ ptsN v
  · rw [if_pos h, if_pos ((ptsN_mem v t).1 h), Nat.zero_add]
  · rw [if_neg h, if_neg (fun h' => h ((ptsN_mem v t).2 h'))]
theorem posN_lt {t : Bytes} (h : hasPt v.pts t = true) : posN v t < (ptsN v).length := List.idxOf_lt_length_iff.2 ((ptsN_mem v t).2 h)
theorem posN_get {t : Bytes} (h : hasPt v.pts t = true) : (ptsN v)[posN v t]? = some t := by
  have := posN_lt h
  rw [List.getElem?_eq_getElem this]
  exact congrArg some (List.getElem_idxOf this)
theorem posN_of (ok : NetOk v) {i : Nat} {s : Bytes} (h : (ptsN v)[i]? = some s) : hasPt v.pts s = true ∧ posN v s = i := by
  have hp := (ptsN_mem v s).1 (List.mem_of_getElem? h)
  exact ⟨hp, nodup_get ok.nodup (posN_get hp) h⟩
theorem posN_inj (ok : NetOk v) {s t : Bytes} (hs : hasPt v.pts s = true) (ht : hasPt v.pts t = true) (h : posN v s = posN v t) : s = t := by
  have h1 := posN_get hs
  rw [h, posN_get ht] at h1
  exact (Option.some.inj h1).symm
/-- The numbers ascend as the names do. -/
theorem posN_le (ok : NetOk v) {s t : Bytes} (hs : hasPt v.pts s = true) (ht : hasPt v.pts t = true) : posN v s ≤ posN v t ↔ s ≤ t := by
  have key : ∀ {s t : Bytes}, hasPt v.pts s = true → hasPt v.pts t = true → posN v s ≤ posN v t → s ≤ t := by
    intro s t hs ht h
    rcases Nat.lt_or_eq_of_le h with h | h
    · have h1 := posN_get hs
      have h2 := posN_get ht
      obtain ⟨b1, c1⟩ := List.getElem?_eq_some_iff.1 h1
      obtain ⟨b2, c2⟩ := List.getElem?_eq_some_iff.1 h2
      have := List.pairwise_iff_getElem.1 (ptsN_asc v) _ _ b1 b2 h
      rw [c1, c2] at this
      exact of_decide_eq_true this
    · rw [posN_inj ok hs ht h]; exact List.le_refl t
  refine ⟨key hs ht, fun h => ?_⟩
  rcases Nat.le_total (posN v s) (posN v t) with h1 | h1
  · exact h1
  · have := List.le_antisymm h (key ht hs h1)
    subst this
    exact Nat.le_refl _
theorem posN_lt' (ok : NetOk v) {s t : Bytes} (hs : hasPt v.pts s = true) (ht : hasPt v.pts t = true) : posN v s < posN v t ↔ s < t := by
  have := posN_le ok ht hs
  rw [← Nat.not_le, this]
  exact List.not_le
theorem rowsR_len (v : Net) : (rowsR v).length = (ptsN v).length := by simp [rowsR]
theorem rowsR_get {i : Nat} {s : Bytes} (h : (ptsN v)[i]? = some s) : (rowsR v)[i]? = some (rowOf v s) := by rw [rowsR, List.getElem?_map, h]; rfl
theorem rowOf_len (v : Net) (s : Bytes) : (rowOf v s).length ≤ v.lks.length := by rw [rowOf, List.length_map]; exact lksOf_len v s
theorem rowOf_get {v : Net} {s : Bytes} {k : Nat} {r : TRoad} (h : (rowOf v s)[k]? = some r) : ∃ x, (lksOf v s)[k]? = some x ∧ r = roadOf v x ∧ x ∈ v.lks ∧ x.src = s := by
  rw [rowOf, List.getElem?_map, Option.map_eq_some_iff] at h
  obtain ⟨x, h1, h2⟩ := h
  exact ⟨x, h1, h2.symm, (lksOf_mem v s x).1 (List.mem_of_getElem? h1)⟩
/-- Sorted by numbers, the roads are those of the links in ascending order. -/
theorem rowOf_sort (ok : NetOk v) (s : Bytes) : ((v.lks.filter fun x => decide (x.src = s)).map (roadOf v)).mergeSort (fun a b => decide (a.to ≤ b.to)) = rowOf v s := by
  rw [rowOf, lksOf, ← List.map_mergeSort (r := fun x y : Lk => decide (x.dst ≤ y.dst)) (s := fun a b : TRoad => decide (a.to ≤ b.to)) (f := roadOf v)]
  intro a ha b hb
  have h1 := (ok.ends a (List.mem_filter.1 ha).1).2.1
  have h2 := (ok.ends b (List.mem_filter.1 hb).1).2.1
  have := posN_le ok h1 h2
  exact decide_eq_decide.2 (this.symm.trans (by simp [roadOf]))
theorem rowRaw_nd (ok : NetOk v) (s : Bytes) : (((v.lks.filter fun x => decide (x.src = s)).map (roadOf v)).map (·.to)).Nodup := by
  rw [List.map_map]
  have h := ok.dstnd s
  have h2 : ((v.lks.filter fun x => decide (x.src = s)).map (·.dst)).Nodup := (((List.mergeSort_perm _ _).map _).nodup_iff).1 h
  refine List.pairwise_map.2 ?_
  have h3 := List.pairwise_map.1 h2
  refine List.Pairwise.imp_of_mem ?_ h3
  intro a b ha hb hne e
  have h1 := (ok.ends a (List.mem_filter.1 ha).1).2.1
  have h2 := (ok.ends b (List.mem_filter.1 hb).1).2.1
  simp only [Function.comp, roadOf] at e
  exact hne (posN_inj ok h1 h2 (by omega))

/-! ### Parts of lists that are read -/
def upTo {α : Type} (l : List α) (i : Nat) : List α := l.take i
theorem upTo_zero {α : Type} (l : List α) : upTo l 0 = [] := rfl
theorem upTo_succ {α : Type} {l : List α} {i : Nat} {x : α} (h : l[i]? = some x) : upTo l (i + 1) = upTo l i ++ [x] := by rw [upTo, List.take_add_one, h]; rfl
theorem upTo_all {α : Type} {l : List α} {i : Nat} (h : l.length ≤ i) : upTo l i = l := List.take_of_length_le h
theorem upTo_len {α : Type} (l : List α) (i : Nat) : (upTo l i).length ≤ i := by simp [upTo]; omega
theorem rowOf_at {v : Net} {s : Bytes} (ok : NetOk v) {k : Nat} {r : TRoad} (h : (rowOf v s)[k]? = some r) : ∃ x, (nextL v s)[k]? = some x.dst ∧ r = roadOf v x ∧ x ∈ v.lks ∧ x.src = s ∧ (ptsN v)[posN v x.dst]? = some x.dst ∧ hasPt v.pts x.dst = true := by
  obtain ⟨x, h1, h2, h3, h4⟩ := rowOf_get h
  have h5 := (ok.ends x h3).2.1
  exact ⟨x, by rw [nextL, List.getElem?_map, h1]; rfl, h2, h3, h4, posN_get h5, h5⟩
theorem rowOf_nextlen (v : Net) (s : Bytes) : (rowOf v s).length = (nextL v s).length := by simp [rowOf, nextL]

/-- The road to a point, by its number. -/
theorem road_to (ok : NetOk v) {s t : Bytes} (ht : hasPt v.pts t = true) : (idxI (fun r : TRoad => decide (r.to = posN v t)) (rowOf v s) = -1 ∧ lkOf v s t = none) ∨
    ∃ (k : Nat) (x : Lk), idxI (fun r : TRoad => decide (r.to = posN v t)) (rowOf v s) = (k : Int) ∧ (rowOf v s)[k]? = some (roadOf v x) ∧ lkOf v s t = some x := by
  rcases idxI_spec (fun r : TRoad => decide (r.to = posN v t)) (rowOf v s) with ⟨h1, h2⟩ | ⟨k, r, h1, h2, h3⟩
  · left
    refine ⟨h1, ?_⟩
    cases e : lkOf v s t with
    | none => rfl
    | some x =>
      obtain ⟨m, e1, e2⟩ := lkOf_some e
      have := List.find?_eq_none.1 h2 (roadOf v x) (List.mem_map_of_mem ((lksOf_mem v s x).2 ⟨m, e1⟩))
      simp [roadOf, e2] at this
  · right
    obtain ⟨x, x1, rfl, x3, x4, x5, x6⟩ := rowOf_at ok h2
    have hp := List.find?_some h3
    have : posN v x.dst = posN v t := by have := of_decide_eq_true hp; simp only [roadOf] at this; omega
    have e := posN_inj ok x6 ht this
    refine ⟨k, x, h1, h2, ?_⟩
    rw [← x4, ← e]; exact ok.lkOf x3

/-! ### While the names and the numbers are collected -/
def pfxN (n : Net) (i : Nat) : List Bytes := (n.pts.take i).map (·.name)
theorem pfxN_zero (n : Net) : pfxN n 0 = [] := rfl
theorem pfxN_succ {n : Net} {i : Nat} {p : Pt} (h : n.pts[i]? = some p) : pfxN n (i + 1) = pfxN n i ++ [p.name] := by rw [pfxN, List.take_add_one, h]; simp [pfxN]
theorem pfxN_all (n : Net) : pfxN n n.pts.length = n.pts.map (·.name) := by rw [pfxN, List.take_length]
theorem pfxN_len (n : Net) (i : Nat) : (pfxN n i).length ≤ i := by simp [pfxN]; omega
def numK (v : Net) (i : Nat) : List (AV × AV) := sM encNum (numM 0 ((ptsN v).take i))
theorem numK_zero (v : Net) : numK v 0 = [] := rfl
theorem numK_all (v : Net) : numK v (ptsN v).length = sM encNum (atM v) := by rw [numK, List.take_length]; rfl
theorem numK_succ (ok : NetOk v) {i : Nat} {s : Bytes} (h : (ptsN v)[i]? = some s) : aset (numK v i) (.str s) (.int .i64 i) = numK v (i + 1) := by
  have hlt := lt_of_get h
  have hnot : s ∉ (ptsN v).take i := fun hm => by
    obtain ⟨j, hj⟩ := List.getElem?_of_mem hm
    have hj2 := lt_of_get hj
    rw [List.length_take] at hj2
    rw [List.getElem?_take_of_lt (by omega)] at hj
    have := nodup_get ok.nodup hj h
    omega
  rw [numK, numK, List.take_add_one, h, show AV.int .i64 (i : Int) = encNum i from rfl, aset_sM, putS_new _ _ _ (by rw [numM_keys]; exact hnot)]
  rw [Option.toList_some, numM_snoc, List.length_take, Nat.min_eq_left (by omega), Nat.zero_add]

/-! ### While the rows grow -/
/-- The rows after some links, in the links' order. -/
def rawRows (v : Net) (ls : List Lk) : List (List TRoad) := (ptsN v).map fun s => (ls.filter fun x => decide (x.src = s)).map (roadOf v)
theorem rawRows_nil (v : Net) : rawRows v [] = List.replicate (ptsN v).length [] := by
  exact List.eq_replicate_iff.2 ⟨by simp [rawRows], fun b hb => by simp [rawRows] at hb; exact hb.2⟩
theorem rawRows_snoc (ok : NetOk v) (ls : List Lk) {x : Lk} (hx : hasPt v.pts x.src = true) : rawRows v (ls ++ [x]) = (rawRows v ls).set (posN v x.src) ((((ls.filter fun y => decide (y.src = x.src)).map (roadOf v))) ++ [roadOf v x]) := by
  refine List.ext_getElem? fun i => ?_
  rw [List.getElem?_set]
  by_cases e : posN v x.src = i
  · subst e
    rw [if_pos rfl, if_pos (by rw [rawRows, List.length_map]; exact posN_lt hx), rawRows, List.getElem?_map, posN_get hx]
    simp
  · rw [if_neg e, rawRows, rawRows, List.getElem?_map, List.getElem?_map]
    cases h : (ptsN v)[i]? with
    | none => rfl
    | some s =>
      simp only [Option.map_some, List.filter_append, List.map_append]
      have : ¬ x.src = s := by rintro rfl; exact e (posN_of ok h).2
      simp [this]
theorem rawRows_get {ls : List Lk} {s : Bytes} {i : Nat} (h : (ptsN v)[i]? = some s) : (rawRows v ls)[i]? = some ((ls.filter fun x => decide (x.src = s)).map (roadOf v)) := by rw [rawRows, List.getElem?_map, h]; rfl
def rawI (v : Net) (j : Nat) : List (List (List AV)) := (rawRows v (v.lks.take j)).map fun r => r.map encRoad
def rawC (v : Net) (j : Nat) (s : Bytes) : List (List AV) := (((v.lks.take j).filter fun x => decide (x.src = s)).map (roadOf v)).map encRoad
theorem rawI_zero (v : Net) : rawI v 0 = List.replicate (ptsN v).length [] := by rw [rawI, List.take_zero, rawRows_nil, List.map_replicate]; rfl
theorem rawI_all (v : Net) : rawI v v.lks.length = (rawRows v v.lks).map fun r => r.map encRoad := by rw [rawI, List.take_length]
theorem rawI_get {j : Nat} {s : Bytes} (h : hasPt v.pts s = true) : (rawI v j)[posN v s]? = some (rawC v j s) := by rw [rawI, List.getElem?_map, rawRows_get (posN_get h)]; rfl
theorem rawI_succ (ok : NetOk v) {j : Nat} {x : Lk} (h : v.lks[j]? = some x) : rawI v (j + 1) = (rawI v j).set (posN v x.src) (rawC v j x.src ++ [encRoad (roadOf v x)]) := by
  rw [rawI, List.take_add_one, h, Option.toList_some, rawRows_snoc ok _ (ok.ends x (List.mem_of_getElem? h)).1, List.map_set, List.map_append]
  rfl
theorem rawC_len (v : Net) (j : Nat) (s : Bytes) : (rawC v j s).length ≤ v.lks.length := by
  rw [rawC, List.length_map, List.length_map]
  exact Nat.le_trans (List.length_filter_le _ _) (by simp; omega)
/-- The first rows sorted. -/
def midRows (v : Net) (i : Nat) : List (List TRoad) := (rowsR v).take i ++ (rawRows v v.lks).drop i
theorem midRows_zero (v : Net) : midRows v 0 = rawRows v v.lks := by simp [midRows]
theorem midRows_all (v : Net) : midRows v (ptsN v).length = rowsR v := by
  rw [midRows, List.take_of_length_le (by rw [rowsR_len]; exact Nat.le_refl _), List.drop_of_length_le (by rw [rawRows, List.length_map]; exact Nat.le_refl _), List.append_nil]
theorem midRows_len (v : Net) (i : Nat) : (midRows v i).length = (ptsN v).length := by
  simp [midRows, rowsR, rawRows]; omega
theorem midRows_get {s : Bytes} {i : Nat} (h : (ptsN v)[i]? = some s) : (midRows v i)[i]? = some ((v.lks.filter fun x => decide (x.src = s)).map (roadOf v)) := by
  have hl := (List.getElem?_eq_some_iff.1 h).1
  rw [midRows, List.getElem?_append_right (by rw [List.length_take, rowsR_len]; omega), List.length_take, rowsR_len, Nat.min_eq_left (by omega), Nat.sub_self, List.getElem?_drop, Nat.add_zero, rawRows_get h]
def midI (v : Net) (i : Nat) : List (List (List AV)) := (midRows v i).map fun r => r.map encRoad
def rawS (v : Net) (s : Bytes) : List TRoad := (v.lks.filter fun x => decide (x.src = s)).map (roadOf v)
theorem midI_zero (v : Net) : midI v 0 = rawI v v.lks.length := by rw [midI, midRows_zero, rawI_all]
theorem midI_all (v : Net) : midI v (ptsN v).length = (rowsR v).map fun r => r.map encRoad := by rw [midI, midRows_all]
theorem midI_get {s : Bytes} {i : Nat} (h : (ptsN v)[i]? = some s) : (midI v i)[i]? = some ((rawS v s).map encRoad) := by rw [midI, List.getElem?_map, midRows_get h]; rfl
theorem midRows_set {s : Bytes} {i : Nat} (h : (ptsN v)[i]? = some s) : (midRows v i).set i (rowOf v s) = midRows v (i + 1) := by
  have hl := (List.getElem?_eq_some_iff.1 h).1
  have hr := rawRows_get (ls := v.lks) h
  rw [midRows, midRows, List.set_append, if_neg (by rw [List.length_take, rowsR_len]; omega), List.length_take, rowsR_len, Nat.min_eq_left (by omega), Nat.sub_self]
  obtain ⟨hrl, hre⟩ := List.getElem?_eq_some_iff.1 hr
  rw [List.drop_eq_getElem_cons hrl, List.set_cons_zero, List.take_add_one, rowsR_get h]
  simp
theorem midI_succ {s : Bytes} {i : Nat} (h : (ptsN v)[i]? = some s) : (midI v i).set i ((rowOf v s).map encRoad) = midI v (i + 1) := by
  rw [midI, midI, ← midRows_set h, List.map_set]
end
end Go.Toll
end

section 

namespace Go.Toll
open Go Go.Abs

def seenT (v : Net) (sn : List Bool) (t : Bytes) : Bool := sn.getD (posN v t) false
structure Bfs (v : Net) (a : Bytes) (sn : List Bool) (Q : List Bytes) : Prop where
  len : sn.length = (ptsN v).length
  root : seenT v sn a = true
  qs : ∀ t ∈ Q, hasPt v.pts t = true ∧ seenT v sn t = true
  reach : ∀ t, hasPt v.pts t = true → seenT v sn t = true → Rch v a t
  closed : ∀ t, hasPt v.pts t = true → seenT v sn t = true → t ∈ Q ∨ ∀ x ∈ v.lks, x.src = t → seenT v sn x.dst = true
structure BfsM (v : Net) (a : Bytes) (sn : List Bool) (Q : List Bytes) (u : Bytes) (k : Nat) : Prop where
  len : sn.length = (ptsN v).length
  root : seenT v sn a = true
  qs : ∀ t ∈ Q, hasPt v.pts t = true ∧ seenT v sn t = true
  reach : ∀ t, hasPt v.pts t = true → seenT v sn t = true → Rch v a t
  at' : hasPt v.pts u = true ∧ seenT v sn u = true
  done : ∀ j t, j < k → (nextL v u)[j]? = some t → seenT v sn t = true
  closed : ∀ t, hasPt v.pts t = true → seenT v sn t = true → t = u ∨ t ∈ Q ∨ ∀ x ∈ v.lks, x.src = t → seenT v sn x.dst = true
section
variable {v : Net} {a : Bytes} {sn : List Bool} {Q : List Bytes}
theorem seenT_set {s t : Bytes} (ok : NetOk v) (hl : sn.length = (ptsN v).length) (hs : hasPt v.pts s = true) (ht : hasPt v.pts t = true) : seenT v (sn.set (posN v s) true) t = (decide (t = s) || seenT v sn t) := by
  unfold seenT
  rw [List.getD_eq_getElem?_getD, List.getD_eq_getElem?_getD]
  by_cases e : t = s
  · subst e
    rw [List.getElem?_set_self (by rw [hl]; exact posN_lt ht)]; simp
  · rw [List.getElem?_set_ne (fun h => e (posN_inj ok hs ht h).symm)]; simp [e]
theorem Bfs.start (ok : NetOk v) (ha : hasPt v.pts a = true) : Bfs v a ((List.replicate (ptsN v).length false).set (posN v a) true) [a] := by
  have hl : (List.replicate (ptsN v).length false).length = (ptsN v).length := by simp
  have h0 : ∀ t, seenT v (List.replicate (ptsN v).length false) t = false := fun t => by
    unfold seenT
    rw [List.getD_eq_getElem?_getD, List.getElem?_replicate]
    split <;> rfl
  have hr : seenT v ((List.replicate (ptsN v).length false).set (posN v a) true) a = true := by rw [seenT_set ok hl ha ha]; simp
  refine ⟨by simp, hr, fun t ht => ?_, fun t ht hs => ?_, fun t ht hs => ?_⟩
  · rw [List.mem_singleton.1 ht]; exact ⟨ha, hr⟩
  · rw [seenT_set ok hl ha ht, h0] at hs
    rw [show t = a by simpa using hs]; exact Rch.refl a
  · rw [seenT_set ok hl ha ht, h0] at hs
    exact .inl (by simpa using hs)
theorem Bfs.pop {u : Bytes} (b : Bfs v a sn (u :: Q)) : BfsM v a sn Q u 0 := by
  refine ⟨b.len, b.root, fun t ht => b.qs t (List.mem_cons_of_mem _ ht), b.reach, b.qs u List.mem_cons_self, fun j t hj => by omega, fun t ht hs => ?_⟩
  rcases b.closed t ht hs with h | h
  · rcases List.mem_cons.1 h with rfl | h
    · exact .inl rfl
    · exact .inr (.inl h)
  · exact .inr (.inr h)
theorem BfsM.old {u d : Bytes} {k : Nat} (b : BfsM v a sn Q u k) (hd : (nextL v u)[k]? = some d) (hs : seenT v sn d = true) : BfsM v a sn Q u (k + 1) := by
  refine ⟨b.len, b.root, b.qs, b.reach, b.at', fun j t hj h => ?_, b.closed⟩
  rcases Nat.lt_or_ge j k with h1 | h1
  · exact b.done j t h1 h
  · obtain rfl : j = k := by omega
    rw [hd] at h
    obtain rfl := Option.some.inj h
    exact hs
theorem next_pt (ok : NetOk v) {u d : Bytes} (h : d ∈ nextL v u) : hasPt v.pts d = true := by
  obtain ⟨x, hx, _, rfl⟩ := (nextL_mem v u d).1 h
  exact (ok.ends x hx).2.1
theorem BfsM.new (ok : NetOk v) {u d : Bytes} {k : Nat} (b : BfsM v a sn Q u k) (hd : (nextL v u)[k]? = some d) : BfsM v a (sn.set (posN v d) true) (Q ++ [d]) u (k + 1) := by
  have hdm := List.mem_of_getElem? hd
  have hdp := next_pt ok hdm
  have mono : ∀ t, hasPt v.pts t = true → seenT v sn t = true → seenT v (sn.set (posN v d) true) t = true := fun t ht h => by rw [seenT_set ok b.len hdp ht, h]; simp
  have hdd : seenT v (sn.set (posN v d) true) d = true := by rw [seenT_set ok b.len hdp hdp]; simp
  have hroot : seenT v (sn.set (posN v d) true) a = true := by
    rw [seenT, List.getD_eq_getElem?_getD]
    by_cases e : posN v d = posN v a
    · have := posN_lt hdp
      rw [← e, List.getElem?_set_self (by rw [b.len]; exact this)]; rfl
    · rw [List.getElem?_set_ne e]
      have := b.root
      rw [seenT, List.getD_eq_getElem?_getD] at this
      exact this
  refine ⟨by rw [List.length_set]; exact b.len, hroot, fun t ht => ?_, fun t ht hs => ?_, ⟨b.at'.1, mono _ b.at'.1 b.at'.2⟩, fun j t hj h => ?_, fun t ht hs => ?_⟩
  · rcases List.mem_append.1 ht with ht | ht
    · exact ⟨(b.qs t ht).1, mono t (b.qs t ht).1 (b.qs t ht).2⟩
    · rw [List.mem_singleton.1 ht]; exact ⟨hdp, hdd⟩
  · rw [seenT_set ok b.len hdp ht] at hs
    by_cases e : t = d
    · subst e
      obtain ⟨x, hx, e1, e2⟩ := (nextL_mem v u t).1 hdm
      rw [← e2]
      exact (b.reach x.src (by rw [e1]; exact b.at'.1) (by rw [e1]; exact b.at'.2)).step ok hx
    · exact b.reach t ht (by simpa [e] using hs)
  · rcases Nat.lt_or_ge j k with h1 | h1
    · exact mono t (next_pt ok (List.mem_of_getElem? h)) (b.done j t h1 h)
    · obtain rfl : j = k := by omega
      rw [hd] at h
      obtain rfl := Option.some.inj h
      exact hdd
  · rw [seenT_set ok b.len hdp ht] at hs
    by_cases e : t = d
    · subst e; exact .inr (.inl (by simp))
    · rcases b.closed t ht (by simpa [e] using hs) with h | h | h
      · exact .inl h
      · exact .inr (.inl (by simp [h]))
      · exact .inr (.inr fun x hx hxs => mono _ (ok.ends x hx).2.1 (h x hx hxs))
theorem BfsM.finish (ok : NetOk v) {u : Bytes} (b : BfsM v a sn Q u (nextL v u).length) : Bfs v a sn Q := by
  refine ⟨b.len, b.root, b.qs, b.reach, fun t ht hs => ?_⟩
  rcases b.closed t ht hs with rfl | h | h
  · right
    intro x hx hxs
    have hm : x.dst ∈ nextL v t := (nextL_mem v t x.dst).2 ⟨x, hx, hxs, rfl⟩
    obtain ⟨j, hj⟩ := List.getElem?_of_mem hm
    exact b.done j _ (List.getElem?_eq_some_iff.1 hj).1 hj
  · exact .inl h
  · exact .inr h
theorem Bfs.result (ok : NetOk v) (ha : hasPt v.pts a = true) (b : Bfs v a sn []) : (ptsN v).filter (seenT v sn) = reachL v a := by
  have key : (ptsN v).filter (seenT v sn) = (ptsN v).filter (fun t => hasPt v.pts t && seenT v sn t) := by
    refine List.filter_congr fun t ht => ?_
    rw [(ptsN_mem v t).1 ht]; rfl
  rw [key]
  refine reachL_filter ok a ha _ (by simp [ha, b.root]) (fun x hx h => ?_) (fun t h => ?_)
  · rw [Bool.and_eq_true] at h ⊢
    rcases b.closed x.src h.1 h.2 with hc | hc
    · cases hc
    · exact ⟨(ok.ends x hx).2.1, hc x hx rfl⟩
  · rw [Bool.and_eq_true] at h
    exact b.reach t h.1 h.2
def seenTo (v : Net) (sn : List Bool) (i : Nat) : List Bytes := ((ptsN v).take i).filter (seenT v sn)
theorem seenTo_zero (v : Net) (sn : List Bool) : seenTo v sn 0 = [] := rfl
theorem seenTo_succ {i : Nat} {t : Bytes} (h : (ptsN v)[i]? = some t) : seenTo v sn (i + 1) = if seenT v sn t = true then seenTo v sn i ++ [t] else seenTo v sn i := by
  rw [seenTo, List.take_add_one, h, Option.toList_some, List.filter_append]
  by_cases e : seenT v sn t = true <;> simp [e, seenTo]
theorem seenTo_all (v : Net) (sn : List Bool) : seenTo v sn (ptsN v).length = (ptsN v).filter (seenT v sn) := by rw [seenTo, List.take_length]
theorem seenTo_len (v : Net) (sn : List Bool) (i : Nat) : (seenTo v sn i).length ≤ i := Nat.le_trans (List.length_filter_le _ _) (by simp; omega)
theorem seenT_get {t : Bytes} (hl : sn.length = (ptsN v).length) (ht : hasPt v.pts t = true) : sn[posN v t]? = some (seenT v sn t) := by
  have h : posN v t < sn.length := by rw [hl]; exact posN_lt ht
  rw [seenT, List.getD_eq_getElem?_getD, List.getElem?_eq_getElem h]; rfl
/-- What is left to be seen. -/
theorem unseen_set {sn : List Bool} {i : Nat} (h : sn[i]? = some false) : (sn.set i true).count false + 1 = sn.count false := by
  induction sn generalizing i with
  | nil => simp at h
  | cons b sn ih =>
    cases i with
    | zero => simp at h; subst h; simp
    | succ i =>
      have := ih (i := i) (by simpa using h)
      rw [List.set_cons_succ, List.count_cons, List.count_cons]
      omega
end
end Go.Toll
end

section 

namespace Go.Toll
open Go Go.Abs

structure TC where
  time : Int
  pts : Int
  deriving DecidableEq
def tc0 : TC := ⟨0, -1⟩
def encC (c : TC) : List AV := [.int .i64 c.time, .int .i64 c.pts]
@[simp] theorem encC_eq (c : TC) : encC c = [.int .i64 c.time, .int .i64 c.pts] := rfl
def cless (c d : TC) : Bool := decide (c.time < d.time) || (decide (c.time = d.time) && decide (c.pts < d.pts))
def tcA (v : Net) (L : List TC) (s : Bytes) : TC := L.getD (posN v s) tc0
def cAdd (c : TC) (x : Lk) : TC := ⟨c.time + x.min, c.pts + 1⟩
def setCnt (L : List TC) : Nat := L.countP fun c => decide (0 ≤ c.pts)
def wC (c : TC) : Nat := if c.pts < 0 then 137438953472 * 274877906944 + 274877906944 else c.time.toNat * 274877906944 + c.pts.toNat
def muC (L : List TC) : Nat := (L.map wC).sum

structure CostOk (v : Net) (b : Bytes) (L : List TC) : Prop where
  len : L.length = (ptsN v).length
  root : tcA v L b = ⟨0, 0⟩
  walk : ∀ s, hasPt v.pts s = true → 0 ≤ (tcA v L s).pts → ∃ l t, wk v s l = some t ∧ t.1 = (tcA v L s).time ∧ (l.length : Int) = (tcA v L s).pts ∧ endOf s l = b
  bnd : ∀ s, hasPt v.pts s = true → 0 ≤ (tcA v L s).pts → (tcA v L s).time ≤ 2147483648 * (setCnt L : Int)
/-- A link can't improve. -/
def cFix (v : Net) (L : List TC) (x : Lk) : Prop := (tcA v L x.dst).pts < 0 ∨ (0 ≤ (tcA v L x.src).pts ∧ cless (cAdd (tcA v L x.dst) x) (tcA v L x.src) = false)

section
variable {v : Net} {b : Bytes} {L : List TC}
theorem tcA_get {s : Bytes} (hl : L.length = (ptsN v).length) (hs : hasPt v.pts s = true) : L[posN v s]? = some (tcA v L s) := by
  have h : posN v s < L.length := by rw [hl]; exact posN_lt hs
  rw [tcA, List.getD_eq_getElem?_getD, List.getElem?_eq_getElem h]; rfl
theorem tcA_set (ok : NetOk v) {s t : Bytes} (hl : L.length = (ptsN v).length) (hs : hasPt v.pts s = true) (ht : hasPt v.pts t = true) (c : TC) : tcA v (L.set (posN v s) c) t = if t = s then c else tcA v L t := by
  rw [tcA, tcA, List.getD_eq_getElem?_getD, List.getD_eq_getElem?_getD]
  by_cases e : t = s
  · subst e
    rw [List.getElem?_set_self (by rw [hl]; exact posN_lt ht), if_pos rfl]; rfl
  · rw [List.getElem?_set_ne (fun h => e (posN_inj ok hs ht h).symm), if_neg e]
theorem countP_set {c d : TC} : ∀ {L : List TC} {i : Nat}, L[i]? = some d → 0 ≤ c.pts → setCnt (L.set i c) = setCnt L + if d.pts < 0 then 1 else 0
  | [], i, h, _ => by simp at h
  | e :: L, 0, h, hc => by
    simp at h; subst h
    simp only [setCnt, List.set_cons_zero, List.countP_cons]
    by_cases h : e.pts < 0
    · have : ¬ 0 ≤ e.pts := by omega
      simp [hc, h, this]
    · have : 0 ≤ e.pts := by omega
      simp [hc, h, this]
  | e :: L, i + 1, h, hc => by
    have := countP_set (L := L) (i := i) (d := d) (c := c) (by simpa using h) hc
    simp only [setCnt, List.set_cons_succ, List.countP_cons] at this ⊢
    omega
theorem setCnt_le (L : List TC) : setCnt L ≤ L.length := List.countP_le_length
theorem muC_set {c d : TC} : ∀ {L : List TC} {i : Nat}, L[i]? = some d → wC c < wC d → muC (L.set i c) < muC L
  | [], i, h, _ => by simp at h
  | e :: L, 0, h, hc => by
    simp at h; subst h
    simp only [muC, List.set_cons_zero, List.map_cons, List.sum_cons]
    omega
  | e :: L, i + 1, h, hc => by
    have := muC_set (L := L) (i := i) (by simpa using h) hc
    simp only [muC, List.set_cons_succ, List.map_cons, List.sum_cons] at this ⊢
    omega
theorem CostOk.rng (ok : NetOk v) (c : CostOk v b L) {s : Bytes} (hs : hasPt v.pts s = true) (h : 0 ≤ (tcA v L s).pts) : (tcA v L s).pts ≤ (tcA v L s).time ∧ (tcA v L s).time ≤ 137438953472 := by
  obtain ⟨l, t, h1, h2, h3, _⟩ := c.walk s hs h
  have h4 := wk_rng ok h1
  have h5 := c.bnd s hs h
  have h6 := setCnt_le L
  have h7 := c.len
  have h8 := ptsN_len v
  have h9 := ok.plen
  omega
/-- The start. -/
theorem CostOk.start (ok : NetOk v) (hb : hasPt v.pts b = true) : CostOk v b ((List.replicate (ptsN v).length tc0).set (posN v b) ⟨0, 0⟩) := by
  have hl : (List.replicate (ptsN v).length tc0).length = (ptsN v).length := by simp
  have h0 : ∀ t, tcA v (List.replicate (ptsN v).length tc0) t = tc0 := fun t => by
    rw [tcA, List.getD_eq_getElem?_getD, List.getElem?_replicate]
    split <;> rfl
  have hr : tcA v ((List.replicate (ptsN v).length tc0).set (posN v b) ⟨0, 0⟩) b = ⟨0, 0⟩ := by rw [tcA_set ok hl hb hb, if_pos rfl]
  refine ⟨by simp, hr, fun s hs h => ?_, fun s hs h => ?_⟩
  · rw [tcA_set ok hl hb hs, h0] at h ⊢
    split at h
    · rename_i e
      rw [if_pos e]
      exact ⟨[], (0, 0), rfl, rfl, rfl, e⟩
    · simp [tc0] at h
  · rw [tcA_set ok hl hb hs, h0] at h ⊢
    split at h
    · rename_i e
      rw [if_pos e]
      show (0 : Int) ≤ _
      omega
    · simp [tc0] at h
theorem cless_true {c d : TC} (h : cless c d = true) : c.time < d.time ∨ (c.time = d.time ∧ c.pts < d.pts) := by simpa [cless] using h
theorem cless_false {c d : TC} (h : cless c d = false) : d.time < c.time ∨ (c.time = d.time ∧ d.pts ≤ c.pts) := by
  simp [cless] at h
  obtain ⟨h1, h2⟩ := h
  by_cases e : c.time = d.time
  · exact .inr ⟨e, h2 e⟩
  · exact .inl (by omega)
theorem CostOk.step (ok : NetOk v) (c : CostOk v b L) {x : Lk} (hx : x ∈ v.lks) (hd : 0 ≤ (tcA v L x.dst).pts) (hb : hasPt v.pts b = true) (hi : (tcA v L x.src).pts < 0 ∨ cless (cAdd (tcA v L x.dst) x) (tcA v L x.src) = true) :
    CostOk v b (L.set (posN v x.src) (cAdd (tcA v L x.dst) x)) ∧ muC (L.set (posN v x.src) (cAdd (tcA v L x.dst) x)) < muC L := by
  obtain ⟨p1, p2, p3⟩ := ok.ends x hx
  obtain ⟨r1, r2, r3⟩ := ok.rng x hx
  obtain ⟨q1, q2⟩ := c.rng ok p2 hd
  have hbd := c.bnd x.dst p2 hd
  have hg := tcA_get c.len p1
  have hc := countP_set (c := cAdd (tcA v L x.dst) x) hg (by simp only [cAdd]; omega)
  have hmono : setCnt L ≤ setCnt (L.set (posN v x.src) (cAdd (tcA v L x.dst) x)) := by rw [hc]; omega
  have hcl : setCnt (L.set (posN v x.src) (cAdd (tcA v L x.dst) x)) ≤ 64 := by
    have := setCnt_le (L.set (posN v x.src) (cAdd (tcA v L x.dst) x))
    rw [List.length_set, c.len, ptsN_len] at this
    have := ok.plen
    omega
  have hnew : (tcA v L x.dst).time + x.min ≤ 2147483648 * (setCnt (L.set (posN v x.src) (cAdd (tcA v L x.dst) x)) : Int) := by
    rcases hi with hi | hi
    · rw [hc, if_pos hi]; push_cast; omega
    · by_cases hu : (tcA v L x.src).pts < 0
      · rw [hc, if_pos hu]; push_cast; omega
      · have h1 := cless_true hi
        have h2 := c.bnd x.src p1 (by omega)
        simp only [cAdd] at h1
        omega
  refine ⟨⟨by rw [List.length_set]; exact c.len, ?_, fun s hs h => ?_, fun s hs h => ?_⟩, muC_set hg ?_⟩
  · rw [tcA_set ok c.len p1 hb]
    split
    · rename_i e
      exfalso
      rw [← e, c.root] at hi
      rcases hi with hi | hi
      · simp at hi
      · have := cless_true hi
        simp only [cAdd] at this
        omega
    · exact c.root
  · rw [tcA_set ok c.len p1 hs] at h ⊢
    split at h
    · rename_i e
      subst e
      rw [if_pos rfl]
      obtain ⟨l, t, w1, w2, w3, w4⟩ := c.walk x.dst p2 hd
      exact ⟨x.dst :: l, _, wk_cons.2 ⟨x, t, ok.lkOf hx, w1, rfl⟩, by simp only [cAdd]; omega, by simp only [cAdd, List.length_cons]; push_cast; omega, w4⟩
    · rename_i e
      rw [if_neg e]
      exact c.walk s hs h
  · rw [tcA_set ok c.len p1 hs] at h ⊢
    split at h
    · rename_i e
      rw [if_pos e]
      exact hnew
    · rename_i e
      rw [if_neg e]
      have := c.bnd s hs h
      omega
  · have hw : wC (cAdd (tcA v L x.dst) x) = ((tcA v L x.dst).time + x.min).toNat * 274877906944 + ((tcA v L x.dst).pts + 1).toNat := by
      rw [wC, if_neg (by simp only [cAdd]; omega)]; rfl
    by_cases hu : (tcA v L x.src).pts < 0
    · rw [hw, wC, if_pos hu]
      omega
    · have hi : cless (cAdd (tcA v L x.dst) x) (tcA v L x.src) = true := by
        rcases hi with hi | hi
        · exact absurd hi hu
        · exact hi
      obtain ⟨s1, s2⟩ := c.rng ok p1 (by omega)
      rw [hw, wC, if_neg hu]
      have h1 := cless_true hi
      simp only [cAdd] at h1
      rcases h1 with h1 | ⟨h1, h2⟩
      · have : ((tcA v L x.dst).time + x.min).toNat + 1 ≤ (tcA v L x.src).time.toNat := by omega
        omega
      · rw [h1]; omega

/-- The costs of the best paths to b. -/
structure Cst (v : Net) (b : Bytes) (L : List TC) : Prop where
  ok : CostOk v b L
  opt : ∀ l s t, hasPt v.pts s = true → wk v s l = some t → endOf s l = b → 0 ≤ (tcA v L s).pts ∧ ((tcA v L s).time < t.1 ∨ ((tcA v L s).time = t.1 ∧ (tcA v L s).pts ≤ l.length))
theorem CostOk.opt (ok : NetOk v) (c : CostOk v b L) (hf : ∀ x ∈ v.lks, cFix v L x) : Cst v b L := by
  refine ⟨c, fun l => ?_⟩
  induction l with
  | nil =>
    intro s t hs h he
    obtain rfl := Option.some.inj h
    have : s = b := he
    subst this
    rw [c.root]
    simp
  | cons d l ih =>
    intro s t hs h he
    obtain ⟨x, u, h1, h2, rfl⟩ := wk_cons.1 h
    obtain ⟨m, rfl, rfl⟩ := lkOf_some h1
    obtain ⟨i1, i2⟩ := ih x.dst u (ok.ends x m).2.1 h2 he
    rcases hf x m with hc | ⟨hc1, hc2⟩
    · omega
    · refine ⟨hc1, ?_⟩
      have := cless_false hc2
      simp only [cAdd] at this
      simp only [List.length_cons]
      push_cast
      omega
/-- A sweep over all links: before point i, and before the k-th link of it. -/
structure Swp1 (v : Net) (L0 : List TC) (ch : Bool) (L : List TC) (i : Nat) : Prop where
  still : ch = false → muC L = muC L0 ∧ ∀ x ∈ v.lks, posN v x.src < i → cFix v L x
  less : ch = true → muC L < muC L0
structure Swp2 (v : Net) (L0 : List TC) (ch : Bool) (L : List TC) (s : Bytes) (k : Nat) : Prop where
  still : ch = false → muC L = muC L0 ∧ (∀ x ∈ v.lks, posN v x.src < posN v s → cFix v L x) ∧ ∀ j y, j < k → (lksOf v s)[j]? = some y → cFix v L y
  less : ch = true → muC L < muC L0
theorem Swp1.start (v : Net) (L : List TC) : Swp1 v L false L 0 := ⟨fun _ => ⟨rfl, fun x _ h => by omega⟩, by simp⟩
theorem Swp1.open {v : Net} {L0 L : List TC} {ch : Bool} {s : Bytes} (w : Swp1 v L0 ch L (posN v s)) : Swp2 v L0 ch L s 0 := ⟨fun c => ⟨(w.still c).1, (w.still c).2, fun j y hj => by omega⟩, w.less⟩
theorem Swp2.close {v : Net} (ok : NetOk v) {L0 L : List TC} {ch : Bool} {s : Bytes} {k : Nat} (hs : hasPt v.pts s = true) (w : Swp2 v L0 ch L s k) (hk : (lksOf v s).length ≤ k) : Swp1 v L0 ch L (posN v s + 1) := by
  refine ⟨fun c => ⟨(w.still c).1, fun x hx hxi => ?_⟩, w.less⟩
  rcases Nat.lt_or_ge (posN v x.src) (posN v s) with h1 | h1
  · exact (w.still c).2.1 x hx h1
  · have : x.src = s := posN_inj ok (ok.ends x hx).1 hs (by omega)
    obtain ⟨j, hj⟩ := List.getElem?_of_mem ((lksOf_mem v s x).2 ⟨hx, this⟩)
    exact (w.still c).2.2 j x (by have := lt_of_get hj; omega) hj
theorem Swp2.keep {v : Net} {L0 L : List TC} {ch : Bool} {s : Bytes} {k : Nat} {x : Lk} (w : Swp2 v L0 ch L s k) (hx : (lksOf v s)[k]? = some x) (hf : cFix v L x) : Swp2 v L0 ch L s (k + 1) := by
  refine ⟨fun c => ⟨(w.still c).1, (w.still c).2.1, fun j y hj hy => ?_⟩, w.less⟩
  rcases Nat.lt_or_ge j k with h1 | h1
  · exact (w.still c).2.2 j y h1 hy
  · obtain rfl : j = k := by omega
    rw [hx] at hy
    obtain rfl := Option.some.inj hy
    exact hf
theorem Swp2.turn {v : Net} {L0 L L' : List TC} {ch : Bool} {s : Bytes} {k k' : Nat} (w : Swp2 v L0 ch L s k) (h : muC L' < muC L) : Swp2 v L0 true L' s k' := by
  refine ⟨by simp, fun _ => ?_⟩
  cases ch with
  | false => rw [← (w.still rfl).1]; exact h
  | true => exact Nat.lt_trans h (w.less rfl)
theorem Swp1.down {v : Net} {L0 L : List TC} {ch : Bool} {i : Nat} (w : Swp1 v L0 ch L i) : 2 * muC L + ch.toNat < 2 * muC L0 + 1 := by
  cases ch with
  | false => have := (w.still rfl).1; simp; omega
  | true => have := w.less rfl; simp; omega
/-- The head of the sweeps. -/
structure Swp0 (v : Net) (ch : Bool) (L : List TC) (M : Nat) : Prop where
  fix : ch = false → ∀ x ∈ v.lks, cFix v L x
  mu : M = 2 * muC L + ch.toNat
def initL (n i : Nat) : List TC := List.replicate i tc0 ++ List.replicate (n - i) ⟨0, 0⟩
theorem initL_zero (n : Nat) : initL n 0 = List.replicate n ⟨0, 0⟩ := by simp [initL]
theorem initL_all (n : Nat) : initL n n = List.replicate n tc0 := by simp [initL]
theorem initL_len {n i : Nat} (h : i ≤ n) : (initL n i).length = n := by simp [initL]; omega
theorem initL_get {n i : Nat} (h : i < n) : (initL n i)[i]? = some ⟨0, 0⟩ := by
  rw [initL, List.getElem?_append_right (by simp), List.length_replicate, Nat.sub_self, show n - i = (n - (i + 1)) + 1 by omega, List.replicate_succ]; rfl
theorem initL_set {n i : Nat} (h : i < n) : (initL n i).set i tc0 = initL n (i + 1) := by
  rw [initL, initL, List.set_append_right _ _ (by simp), List.length_replicate, Nat.sub_self, show n - i = (n - (i + 1)) + 1 by omega, List.replicate_succ, List.set_cons_zero, show List.replicate (i + 1) tc0 = List.replicate i tc0 ++ [tc0] from List.replicate_succ', List.append_assoc]
  rfl
/-- A road that the best path may take. -/
def onWay (v : Net) (L : List TC) (x : Lk) : Prop := 0 ≤ (tcA v L x.dst).pts ∧ cAdd (tcA v L x.dst) x = tcA v L x.src
theorem Cst.tight (ok : NetOk v) (c : Cst v b L) {x : Lk} (hx : x ∈ v.lks) {l : List Bytes} {t : Int × Int} (h : wk v x.dst l = some t) (he : endOf x.dst l = b) (h1 : x.min + t.1 = (tcA v L x.src).time) (h2 : (l.length : Int) + 1 = (tcA v L x.src).pts) : onWay v L x := by
  obtain ⟨p1, p2, p3⟩ := ok.ends x hx
  obtain ⟨o1, o2⟩ := c.opt l x.dst t p2 h he
  obtain ⟨l', t', w1, w2, w3, w4⟩ := c.ok.walk x.dst p2 o1
  obtain ⟨o3, o4⟩ := c.opt (x.dst :: l') x.src _ p1 (wk_cons.2 ⟨x, t', ok.lkOf hx, w1, rfl⟩) w4
  simp only [List.length_cons] at o4
  push_cast at o4
  refine ⟨o1, ?_⟩
  have e1 : (cAdd (tcA v L x.dst) x).time = (tcA v L x.src).time := by simp only [cAdd]; omega
  have e2 : (cAdd (tcA v L x.dst) x).pts = (tcA v L x.src).pts := by simp only [cAdd]; omega
  cases h5 : cAdd (tcA v L x.dst) x with
  | mk p q => cases h6 : tcA v L x.src with
    | mk p' q' => rw [h5, h6] at e1 e2; simp only at e1 e2; rw [e1, e2]

/-- The path as far as it is found. -/
structure TWay (v : Net) (a b : Bytes) (L : List TC) (x : List Bytes) (u : Bytes) : Prop where
  ends : endOf a x = u
  pt : hasPt v.pts u = true
  set : 0 ≤ (tcA v L u).pts
  walk : ∃ t, wk v a x = some t ∧ t.1 + (tcA v L u).time = (tcA v L a).time
  len : (x.length : Int) + (tcA v L u).pts = (tcA v L a).pts
  first : ∀ l s, wk v a l = some s → endOf a l = b → s.1 = (tcA v L a).time → (l.length : Int) = (tcA v L a).pts → pcmp x (l.take x.length) ≤ 0
theorem TWay.start {a : Bytes} (ha : hasPt v.pts a = true) (h : 0 ≤ (tcA v L a).pts) : TWay v a b L [] a :=
  ⟨rfl, ha, h, ⟨(0, 0), rfl, by simp⟩, by simp, fun l s _ _ _ _ => by simp [pcmp]⟩
theorem TWay.exists (ok : NetOk v) (c : Cst v b L) {a u : Bytes} {x : List Bytes} (w : TWay v a b L x u) (hne : u ≠ b) : ∃ y ∈ v.lks, y.src = u ∧ onWay v L y := by
  obtain ⟨l, t, w1, w2, w3, w4⟩ := c.ok.walk u w.pt w.set
  cases l with
  | nil => exact absurd w4 hne
  | cons d l =>
    obtain ⟨y, t', h1, h2, rfl⟩ := wk_cons.1 w1
    obtain ⟨m, rfl, rfl⟩ := lkOf_some h1
    exact ⟨y, m, rfl, c.tight ok m h2 w4 w2 (by simp only [List.length_cons] at w3; push_cast at w3; exact w3)⟩
theorem TWay.step (ok : NetOk v) (c : Cst v b L) {a u : Bytes} {x : List Bytes} (w : TWay v a b L x u) {k : Nat} {y : Lk} (hk : (lksOf v u)[k]? = some y) (hy : onWay v L y) (hfirst : ∀ j z, j < k → (lksOf v u)[j]? = some z → ¬ onWay v L z) :
    TWay v a b L (x ++ [y.dst]) y.dst ∧ (tcA v L y.dst).pts + 1 = (tcA v L u).pts := by
  obtain ⟨hym, hys⟩ := (lksOf_mem v u y).1 (List.mem_of_getElem? hk)
  obtain ⟨p1, p2, p3⟩ := ok.ends y hym
  obtain ⟨o1, o2⟩ := hy
  rw [hys] at o2
  have e1 : (tcA v L y.dst).time + y.min = (tcA v L u).time := congrArg TC.time o2
  have e2 : (tcA v L y.dst).pts + 1 = (tcA v L u).pts := congrArg TC.pts o2
  obtain ⟨t, t1, t2⟩ := w.walk
  have hlen := w.len
  refine ⟨⟨endOf_snoc _ _ _, p2, o1, ⟨_, wk_app.2 ⟨t, (y.min + 0, y.max + 0), t1, ?_, rfl⟩, ?_⟩, ?_, ?_⟩, e2⟩
  · rw [w.ends, ← hys]
    exact wk_cons.2 ⟨y, (0, 0), ok.lkOf hym, rfl, rfl⟩
  · show t.1 + (y.min + 0) + _ = _; omega
  · simp; omega
  · intro l s h he hs hl
    have hf := w.first l s h he hs hl
    have hll : x.length < l.length := by
      have := c.ok.rng ok p2 o1
      omega
    obtain ⟨e, hle, _⟩ : ∃ e, l[x.length]? = some e ∧ True := ⟨_, List.getElem?_eq_getElem hll, trivial⟩
    rw [List.length_append, List.length_singleton, List.take_add_one, hle, Option.toList_some, pcmp_app _ _ (by simp; omega)]
    split
    · rename_i hz
      have hxe : x = l.take x.length := pcmp_zero.1 hz
      rw [pcmp_one, cmpS_le]
      have hsplit : l = x ++ e :: l.drop (x.length + 1) := by
        conv => lhs; rw [← List.take_append_drop x.length l, ← hxe]
        rw [List.drop_eq_getElem_cons hll, (List.getElem?_eq_some_iff.1 hle).2]
      rw [hsplit] at h he
      obtain ⟨t', w1, h1, h2, rfl⟩ := wk_app.1 h
      rw [t1] at h1
      obtain rfl := Option.some.inj h1
      rw [w.ends] at h2
      rw [endOf_app, w.ends] at he
      obtain ⟨z, w2, z1, z2, rfl⟩ := wk_cons.1 h2
      obtain ⟨zm, zs, zd⟩ := lkOf_some z1
      subst zd
      have hon : onWay v L z := by
        refine c.tight ok zm z2 he ?_ ?_
        · rw [zs]; simp only at hs; omega
        · rw [zs]; simp; omega
      have hzm : z ∈ lksOf v u := (lksOf_mem v u z).2 ⟨zm, zs⟩
      obtain ⟨j, hj⟩ := List.getElem?_of_mem hzm
      rcases Nat.lt_trichotomy j k with hjk | hjk | hjk
      · exact absurd hon (hfirst j z hjk hj)
      · subst hjk
        rw [hk] at hj
        rw [Option.some.inj hj]
        exact List.le_refl _
      · obtain ⟨b1, c1⟩ := List.getElem?_eq_some_iff.1 hk
        obtain ⟨b2, c2⟩ := List.getElem?_eq_some_iff.1 hj
        have := List.pairwise_iff_getElem.1 (lksOf_asc v u) k j b1 b2 hjk
        rw [c1, c2] at this
        exact of_decide_eq_true this
    · exact hf
theorem TWay.best (ok : NetOk v) (c : Cst v b L) {a : Bytes} {x : List Bytes} (ha : hasPt v.pts a = true) (w : TWay v a b L x b) : IsBest v a b x (tcA v L a).time := by
  obtain ⟨t, t1, t2⟩ := w.walk
  have hl := w.len
  rw [c.ok.root] at t2 hl
  refine ⟨⟨t, t1, by simpa using t2⟩, w.ends, fun l s h he => ?_⟩
  obtain ⟨o1, o2⟩ := c.opt l a s ha h he
  rcases o2 with o2 | ⟨o2, o3⟩
  · exact .inl o2
  · refine .inr ⟨o2, ?_⟩
    simp only [List.length_cons]
    by_cases e : (l.length : Int) = (tcA v L a).pts
    · right
      have hxl : x.length = l.length := by simp at hl; omega
      have := w.first l s h he o2.symm e
      rw [hxl, List.take_length] at this
      exact ⟨by omega, by rw [pcmp_cons]; exact this⟩
    · left
      simp at hl
      omega
/-- Best paths are short. -/
theorem Cst.short (ok : NetOk v) (c : Cst v b L) {a : Bytes} (ha : hasPt v.pts a = true) (h : 0 ≤ (tcA v L a).pts) : (tcA v L a).pts ≤ 63 := by
  obtain ⟨l, t, w1, w2, w3, w4⟩ := c.ok.walk a ha h
  obtain ⟨l', t', q1, q2, q3, _, q5⟩ := simple_le ok _ a l t (Nat.le_refl _) w1
  have hl := simple_len ok q1 ha q3
  have hp := ok.plen
  rcases q5 with rfl | ⟨q5, _⟩
  · omega
  · obtain ⟨_, o2⟩ := c.opt l' a t' ha q1 (q2.trans w4)
    omega
theorem onWay_iff (x : Lk) : onWay v L x ↔ 0 ≤ (tcA v L x.dst).pts ∧ (tcA v L x.dst).time + x.min = (tcA v L x.src).time ∧ (tcA v L x.dst).pts + 1 = (tcA v L x.src).pts := by
  unfold onWay cAdd
  cases tcA v L x.src with
  | mk p q => simp
end
end Go.Toll
end

section 

namespace Go.Toll
open Go Go.Abs

def farA (v : Net) (far : List Int) (s : Bytes) : Int := far.getD (posN v s) 0
def hopSeen (v : Net) (far : List Int) (y s : Bytes) : Prop := s = y ∨ farA v far s ≠ 0
/-- Between two points of the queue. -/
structure Hop (v : Net) (p : List Bytes) (y t : Bytes) (far : List Int) (Q : List Bytes) : Prop where
  len : far.length = (ptsN v).length
  start : farA v far y = 0
  qs : ∀ s ∈ Q, hasPt v.pts s = true ∧ hopSeen v far y s
  walk : ∀ s, hasPt v.pts s = true → hopSeen v far y s → 0 ≤ farA v far s ∧ Rk v (p ++ [y]) y (farA v far s).toNat s
  sorted : Q.Pairwise fun a b => farA v far a ≤ farA v far b
  near : ∀ u, Q.head? = some u → ∀ s, hasPt v.pts s = true → hopSeen v far y s → farA v far s ≤ farA v far u + 1
  closed : ∀ s, hasPt v.pts s = true → hopSeen v far y s → s ∈ Q ∨ (s ≠ t ∧ ∀ x ∈ v.lks, x.src = s → x.dst ∈ p ++ [y] ∨ (hopSeen v far y x.dst ∧ farA v far x.dst ≤ farA v far s + 1))
/-- While the links of u are looked at: the first k are done. -/
structure HopM (v : Net) (p : List Bytes) (y t : Bytes) (far : List Int) (Q : List Bytes) (u : Bytes) (k : Nat) : Prop where
  len : far.length = (ptsN v).length
  start : farA v far y = 0
  qs : ∀ s ∈ Q, hasPt v.pts s = true ∧ hopSeen v far y s
  walk : ∀ s, hasPt v.pts s = true → hopSeen v far y s → 0 ≤ farA v far s ∧ Rk v (p ++ [y]) y (farA v far s).toNat s
  at' : hasPt v.pts u = true ∧ hopSeen v far y u ∧ u ≠ t
  sorted : Q.Pairwise fun a b => farA v far a ≤ farA v far b
  low : ∀ s ∈ Q, farA v far u ≤ farA v far s
  near : ∀ s, hasPt v.pts s = true → hopSeen v far y s → farA v far s ≤ farA v far u + 1
  done : ∀ j s, j < k → (nextL v u)[j]? = some s → s ∈ p ++ [y] ∨ hopSeen v far y s
  closed : ∀ s, hasPt v.pts s = true → hopSeen v far y s → s = u ∨ s ∈ Q ∨ (s ≠ t ∧ ∀ x ∈ v.lks, x.src = s → x.dst ∈ p ++ [y] ∨ (hopSeen v far y x.dst ∧ farA v far x.dst ≤ farA v far s + 1))
section
variable {v : Net} {p : List Bytes} {y t : Bytes} {far : List Int} {Q : List Bytes}
theorem farA_set (ok : NetOk v) {s d : Bytes} (hl : far.length = (ptsN v).length) (hd : hasPt v.pts d = true) (hs : hasPt v.pts s = true) (n : Int) : farA v (far.set (posN v d) n) s = if s = d then n else farA v far s := by
  rw [farA, farA, List.getD_eq_getElem?_getD, List.getD_eq_getElem?_getD]
  by_cases e : s = d
  · subst e
    rw [List.getElem?_set_self (by rw [hl]; exact posN_lt hs), if_pos rfl]; rfl
  · rw [List.getElem?_set_ne (fun h => e (posN_inj ok hd hs h).symm), if_neg e]
theorem farA_get {s : Bytes} (hl : far.length = (ptsN v).length) (hs : hasPt v.pts s = true) : far[posN v s]? = some (farA v far s) := by
  have h : posN v s < far.length := by rw [hl]; exact posN_lt hs
  rw [farA, List.getD_eq_getElem?_getD, List.getElem?_eq_getElem h]; rfl
theorem Hop.first (ok : NetOk v) (hy : hasPt v.pts y = true) : Hop v p y t (List.replicate (ptsN v).length 0) [y] := by
  have h0 : ∀ s, farA v (List.replicate (ptsN v).length 0) s = 0 := fun s => by
    rw [farA, List.getD_eq_getElem?_getD, List.getElem?_replicate]
    split <;> rfl
  have hs : ∀ s, hopSeen v (List.replicate (ptsN v).length 0) y s ↔ s = y := fun s => by
    unfold hopSeen; rw [h0]; simp
  refine ⟨by simp, h0 y, fun s hm => ?_, fun s hp h => ?_, by simp, fun u hu s hp h => ?_, fun s hp h => ?_⟩
  · rw [List.mem_singleton.1 hm]; exact ⟨hy, .inl rfl⟩
  · rw [(hs s).1 h, h0]
    exact ⟨by omega, [], (0, 0), rfl, rfl, by simp, rfl⟩
  · rw [h0, h0]; omega
  · rw [(hs s).1 h]; exact .inl (by simp)
/-- What is reached by a walk is seen, or the queue's head is no farther. -/
theorem Hop.claim (ok : NetOk v) (hp : Hop v p y t far Q) (hy : hasPt v.pts y = true) : ∀ k s, Rk v (p ++ [y]) y k s → hasPt v.pts s = true → (hopSeen v far y s ∧ farA v far s ≤ k) ∨ ∃ u, Q.head? = some u ∧ farA v far u ≤ k
  | 0, s, h, _ => by
    rw [h.zero]
    exact .inl ⟨.inl rfl, by rw [hp.start]; simp⟩
  | k + 1, s, h, hs => by
    obtain ⟨s', h1, h2, h3, h4⟩ := h.back ok
    have hs' : hasPt v.pts s' = true := by
      obtain ⟨x, hx, e, _⟩ := (nextL_mem v s' s).1 h2
      rw [← e]; exact (ok.ends x hx).1
    rcases hp.claim ok hy k s' h1 hs' with ⟨c1, c2⟩ | ⟨u, c1, c2⟩
    · rcases hp.closed s' hs' c1 with hq | ⟨_, hc⟩
      · right
        cases Q with
        | nil => cases hq
        | cons u Q =>
          refine ⟨u, rfl, ?_⟩
          have hsu : farA v far u ≤ farA v far s' := by
            rcases List.mem_cons.1 hq with rfl | hq
            · exact Int.le_refl _
            · exact (List.pairwise_cons.1 hp.sorted).1 s' hq
          omega
      · obtain ⟨x, hx, e1, e2⟩ := (nextL_mem v s' s).1 h2
        rcases hc x hx e1 with h5 | ⟨h5, h6⟩
        · rw [e2] at h5; exact absurd h5 h3
        · rw [e2] at h5 h6
          left
          exact ⟨h5, by omega⟩
    · exact .inr ⟨u, c1, by omega⟩
/-- A walk that meets no point of p is no longer than the points are many, at best. -/
theorem Rk.short (ok : NetOk v) {q : List Bytes} (hy : hasPt v.pts y = true) {k : Nat} {s : Bytes} (h : Rk v q y k s) : ∃ k', k' ≤ k ∧ k' ≤ 63 ∧ Rk v q y k' s := by
  obtain ⟨w, c, h1, h2, h3, h4⟩ := h
  obtain ⟨w', c', q1, q2, q3, q4, q5⟩ := simple_le ok _ y w c (Nat.le_refl _) h1
  have hl := simple_len ok q1 hy q3
  have hp := ok.plen
  refine ⟨w'.length, by rcases q5 with rfl | ⟨_, q5⟩ <;> omega, by omega, w', c', q1, by rw [q2, h2], fun z hz => h3 z (q4 z hz), rfl⟩
theorem Hop.head_short (ok : NetOk v) {u : Bytes} (hp : Hop v p y t far (u :: Q)) (hy : hasPt v.pts y = true) : 0 ≤ farA v far u ∧ farA v far u ≤ 63 := by
  obtain ⟨h1, h2⟩ := hp.qs u List.mem_cons_self
  obtain ⟨w1, w2⟩ := hp.walk u h1 h2
  obtain ⟨k', k1, k2, k3⟩ := w2.short ok hy
  rcases hp.claim ok hy k' u k3 h1 with ⟨_, c⟩ | ⟨u', c1, c2⟩
  · omega
  · obtain rfl : u = u' := Option.some.inj c1
    omega
theorem Hop.found (ok : NetOk v) (hp : Hop v p y t far (t :: Q)) (hy : hasPt v.pts y = true) : Rk v (p ++ [y]) y (farA v far t).toNat t ∧ ∀ k, Rk v (p ++ [y]) y k t → (farA v far t).toNat ≤ k := by
  obtain ⟨h1, h2⟩ := hp.qs t List.mem_cons_self
  refine ⟨(hp.walk t h1 h2).2, fun k h => ?_⟩
  rcases hp.claim ok hy k t h h1 with ⟨_, c⟩ | ⟨u', c1, c2⟩
  · omega
  · obtain rfl : t = u' := Option.some.inj c1
    omega
theorem Hop.none (ok : NetOk v) (hp : Hop v p y t far []) (hy : hasPt v.pts y = true) (ht : hasPt v.pts t = true) (k : Nat) : ¬ Rk v (p ++ [y]) y k t := fun h => by
  rcases hp.claim ok hy k t h ht with ⟨c, _⟩ | ⟨u', c1, _⟩
  · rcases hp.closed t ht c with h1 | ⟨h1, _⟩
    · cases h1
    · exact h1 rfl
  · cases c1
theorem Hop.pop {u : Bytes} (hp : Hop v p y t far (u :: Q)) (hu : u ≠ t) : HopM v p y t far Q u 0 := by
  obtain ⟨s1, s2⟩ := List.pairwise_cons.1 hp.sorted
  obtain ⟨h1, h2⟩ := hp.qs u List.mem_cons_self
  refine ⟨hp.len, hp.start, fun s hs => hp.qs s (List.mem_cons_of_mem _ hs), hp.walk, ⟨h1, h2, hu⟩, s2, s1, hp.near u rfl, fun j s hj => by omega, fun s hs hh => ?_⟩
  rcases hp.closed s hs hh with h | h
  · rcases List.mem_cons.1 h with rfl | h
    · exact .inl rfl
    · exact .inr (.inl h)
  · exact .inr (.inr h)
theorem HopM.old {u d : Bytes} {k : Nat} (m : HopM v p y t far Q u k) (hd : (nextL v u)[k]? = some d) (h : d ∈ p ++ [y] ∨ hopSeen v far y d) : HopM v p y t far Q u (k + 1) := by
  refine ⟨m.len, m.start, m.qs, m.walk, m.at', m.sorted, m.low, m.near, fun j s hj hs => ?_, m.closed⟩
  rcases Nat.lt_or_ge j k with h1 | h1
  · exact m.done j s h1 hs
  · obtain rfl : j = k := by omega
    rw [hd] at hs
    obtain rfl := Option.some.inj hs
    exact h
theorem HopM.new (ok : NetOk v) {u d : Bytes} {k : Nat} (m : HopM v p y t far Q u k) (hd : (nextL v u)[k]? = some d) (hz : farA v far d = 0) (hdy : d ≠ y) (hdp : d ∉ p) (hy : hasPt v.pts y = true) :
    HopM v p y t (far.set (posN v d) (farA v far u + 1)) (Q ++ [d]) u (k + 1) := by
  have hdm := List.mem_of_getElem? hd
  have hdpt := next_pt ok hdm
  obtain ⟨u1, u2, u3⟩ := m.at'
  obtain ⟨w1, w2⟩ := m.walk u u1 u2
  have hnd : ¬ hopSeen v far y d := by
    rintro (e | e)
    · exact hdy e
    · exact e hz
  have hne : ∀ s, hopSeen v far y s → s ≠ d := fun s h e => hnd (e ▸ h)
  have key : ∀ s, hasPt v.pts s = true → farA v (far.set (posN v d) (farA v far u + 1)) s = if s = d then farA v far u + 1 else farA v far s := fun s hs => farA_set ok m.len hdpt hs _
  have old : ∀ s, hasPt v.pts s = true → hopSeen v far y s → farA v (far.set (posN v d) (farA v far u + 1)) s = farA v far s := fun s hs h => by rw [key s hs, if_neg (hne s h)]
  have seen : ∀ s, hasPt v.pts s = true → (hopSeen v (far.set (posN v d) (farA v far u + 1)) y s ↔ s = d ∨ hopSeen v far y s) := fun s hs => by
    unfold hopSeen
    rw [key s hs]
    by_cases e : s = d
    · rw [if_pos e]
      exact ⟨fun _ => .inl e, fun _ => .inr (by omega)⟩
    · rw [if_neg e]
      constructor
      · exact fun h => .inr h
      · rintro (h | h)
        · exact absurd h e
        · exact h
  have hfd : farA v (far.set (posN v d) (farA v far u + 1)) d = farA v far u + 1 := by rw [key d hdpt, if_pos rfl]
  have hfu := old u u1 u2
  refine ⟨by rw [List.length_set]; exact m.len, by rw [old y hy (.inl rfl)]; exact m.start, fun s hs => ?_, fun s hs h => ?_, ⟨u1, (seen u u1).2 (.inr u2), u3⟩, ?_, fun s hs => ?_, fun s hs h => ?_, fun j s hj hs => ?_, fun s hs h => ?_⟩
  · rcases List.mem_append.1 hs with hs | hs
    · exact ⟨(m.qs s hs).1, (seen s (m.qs s hs).1).2 (.inr (m.qs s hs).2)⟩
    · rw [List.mem_singleton.1 hs]; exact ⟨hdpt, (seen d hdpt).2 (.inl rfl)⟩
  · rcases (seen s hs).1 h with rfl | h
    · rw [hfd]
      refine ⟨by omega, ?_⟩
      have : (farA v far u + 1).toNat = (farA v far u).toNat + 1 := by omega
      rw [this]
      exact w2.step ok hdm (by simp [hdp, hdy])
    · rw [old s hs h]; exact m.walk s hs h
  · refine List.pairwise_append.2 ⟨List.Pairwise.imp_of_mem (fun ha hb h => ?_) m.sorted, List.pairwise_singleton _ _, fun a ha b hb => ?_⟩
    · rw [old _ (m.qs _ ha).1 (m.qs _ ha).2, old _ (m.qs _ hb).1 (m.qs _ hb).2]; exact h
    · rw [List.mem_singleton.1 hb, hfd, old a (m.qs a ha).1 (m.qs a ha).2]
      exact m.near a (m.qs a ha).1 (m.qs a ha).2
  · rw [hfu]
    rcases List.mem_append.1 hs with hs | hs
    · rw [old s (m.qs s hs).1 (m.qs s hs).2]; exact m.low s hs
    · rw [List.mem_singleton.1 hs, hfd]; omega
  · rw [hfu]
    rcases (seen s hs).1 h with rfl | h
    · rw [hfd]; omega
    · rw [old s hs h]; exact m.near s hs h
  · have hsp := next_pt ok (List.mem_of_getElem? hs)
    rcases Nat.lt_or_ge j k with h1 | h1
    · rcases m.done j s h1 hs with h2 | h2
      · exact .inl h2
      · exact .inr ((seen s hsp).2 (.inr h2))
    · obtain rfl : j = k := by omega
      rw [hd] at hs
      obtain rfl := Option.some.inj hs
      exact .inr ((seen d hsp).2 (.inl rfl))
  · rcases (seen s hs).1 h with rfl | h
    · exact .inr (.inl (by simp))
    · rcases m.closed s hs h with h1 | h1 | ⟨h1, h2⟩
      · exact .inl h1
      · exact .inr (.inl (by simp [h1]))
      · refine .inr (.inr ⟨h1, fun x hx e => ?_⟩)
        rcases h2 x hx e with h3 | ⟨h3, h4⟩
        · exact .inl h3
        · have := (ok.ends x hx).2.1
          rw [old x.dst this h3, old s hs h]
          exact .inr ⟨(seen x.dst this).2 (.inr h3), h4⟩
theorem HopM.finish (ok : NetOk v) {u : Bytes} (m : HopM v p y t far Q u (nextL v u).length) : Hop v p y t far Q := by
  obtain ⟨u1, u2, u3⟩ := m.at'
  refine ⟨m.len, m.start, m.qs, m.walk, m.sorted, fun w hw s hs h => ?_, fun s hs h => ?_⟩
  · have h1 := m.near s hs h
    have h2 : farA v far u ≤ farA v far w := by
      cases Q with
      | nil => cases hw
      | cons w' Q =>
        obtain rfl : w' = w := Option.some.inj hw
        exact m.low _ List.mem_cons_self
    omega
  · rcases m.closed s hs h with rfl | h1 | h1
    · right
      refine ⟨u3, fun x hx e => ?_⟩
      have hm : x.dst ∈ nextL v s := (nextL_mem v s x.dst).2 ⟨x, hx, e, rfl⟩
      obtain ⟨j, hj⟩ := List.getElem?_of_mem hm
      rcases m.done j _ (List.getElem?_eq_some_iff.1 hj).1 hj with h2 | h2
      · exact .inl h2
      · exact .inr ⟨h2, m.near _ (ok.ends x hx).2.1 h2⟩
    · exact .inl h1
    · exact .inr h1
theorem zeros_set {far : List Int} {i : Nat} {n : Int} (h : far[i]? = some 0) (hn : n ≠ 0) : (far.set i n).count 0 + 1 = far.count 0 := by
  induction far generalizing i with
  | nil => simp at h
  | cons b far ih =>
    cases i with
    | zero =>
      simp at h; subst h
      simp [List.count_cons, hn]
    | succ i =>
      have := ih (i := i) (by simpa using h)
      rw [List.set_cons_succ, List.count_cons, List.count_cons]
      omega
/-- What the search answers. -/
def hopsR (v : Net) (p : List Bytes) (y t : Bytes) (n : Int) : Prop := (n = -1 ∧ ∀ k, ¬ Rk v (p ++ [y]) y k t) ∨ (0 ≤ n ∧ n ≤ 63 ∧ Rk v (p ++ [y]) y n.toNat t ∧ ∀ k, Rk v (p ++ [y]) y k t → n.toNat ≤ k)
theorem hopsR_compl (ok : NetOk v) {p : List Bytes} {y t : Bytes} {n : Int} (h : hopsR v p y t n) : complB v (p ++ [y]) t = decide (0 ≤ n ∧ (p.length : Int) + 1 + n ≤ 16) := by
  rw [Bool.eq_iff_iff, complB_iff ok t (by simp), decide_eq_true_iff, lastT_snoc]
  rcases h with ⟨rfl, h⟩ | ⟨h0, h63, h1, h2⟩
  · constructor
    · rintro ⟨k, hk, _⟩; exact absurd hk (h k)
    · rintro ⟨h, _⟩; omega
  · constructor
    · rintro ⟨k, hk, hl⟩
      have := h2 k hk
      simp at hl
      omega
    · rintro ⟨_, hl⟩
      exact ⟨n.toNat, h1, by simp; omega⟩
end
end Go.Toll
end

section 

namespace Go.Toll
open Go Go.Abs

def levI (v : Net) (S F : List Bytes) (i : Nat) : List Bytes × List Bytes := (F.take i).foldl (cplMore v) (S, [])
def levJ (v : Net) (S F : List Bytes) (i : Nat) (y : Bytes) (j : Nat) : List Bytes × List Bytes := ((nextL v y).take j).foldl cplAdd (levI v S F i)
section
variable {v : Net} {S F M p : List Bytes} {i j n : Nat} {x y t : Bytes}
theorem levI_zero (v : Net) (S F : List Bytes) : levI v S F 0 = (S, []) := rfl
theorem levJ_zero (v : Net) (S F : List Bytes) (i : Nat) (y : Bytes) : levJ v S F i y 0 = levI v S F i := rfl
theorem levI_all (v : Net) (S F : List Bytes) : levI v S F F.length = cplLev v S F := by rw [levI, List.take_length]; rfl
theorem levJ_succ (h : (nextL v y)[j]? = some x) : levJ v S F i y (j + 1) = cplAdd (levJ v S F i y j) x := by
  rw [levJ, List.take_add_one, h, Option.toList_some, List.foldl_append]; rfl
theorem levJ_all (h : F[i]? = some y) : levJ v S F i y (nextL v y).length = levI v S F (i + 1) := by
  rw [levJ, List.take_length, levI, levI, List.take_add_one, h, Option.toList_some, List.foldl_append]; rfl
theorem cplAdd_in (h : x ∈ S) : cplAdd (S, M) x = (S, M) := by rw [cplAdd, if_pos h]
theorem cplAdd_new (h : x ∉ S) : cplAdd (S, M) x = (S ++ [x], M ++ [x]) := by rw [cplAdd, if_neg h]
theorem cplB_hit (h : t ∈ F) : cplB v t (n + 1) S F = true := by rw [cplB, if_pos h]
theorem cplB_miss (h : t ∉ F) : cplB v t (n + 1) S F = cplB v t n (levI v S F F.length).1 (levI v S F F.length).2 := by rw [cplB, if_neg h, levI_all]
theorem cplB_end : cplB v t 0 S F = false := rfl
/-- What was seen is the path and new points, as many as were found in this round or more. -/
def Cp (v : Net) (p S M : List Bytes) : Prop := ∃ W, S = p ++ W ∧ W.Nodup ∧ (∀ z ∈ W, hasPt v.pts z = true) ∧ M.length ≤ W.length
theorem Cp.zero (v : Net) (p : List Bytes) : Cp v p p [] := ⟨[], by simp, by simp, by simp, by simp⟩
theorem Cp.new (c : Cp v p S M) : Cp v p S [] := by
  obtain ⟨W, h1, h2, h3, _⟩ := c
  exact ⟨W, h1, h2, h3, by simp⟩
theorem Cp.add (c : Cp v p S M) (hx : x ∉ S) (hp : hasPt v.pts x = true) : Cp v p (S ++ [x]) (M ++ [x]) := by
  obtain ⟨W, rfl, h2, h3, h4⟩ := c
  refine ⟨W ++ [x], by simp, ?_, fun z hz => ?_, by simp; omega⟩
  · rw [List.nodup_append]
    exact ⟨h2, by simp, fun a ha b hb e => by
      rw [List.mem_singleton.1 hb] at e
      exact hx (List.mem_append.2 (.inr (e ▸ ha)))⟩
  · rcases List.mem_append.1 hz with h | h
    · exact h3 z h
    · rw [List.mem_singleton.1 h]; exact hp
theorem Cp.len (c : Cp v p S M) (ok : NetOk v) : S.length ≤ p.length + 64 ∧ M.length ≤ 64 := by
  obtain ⟨W, rfl, h2, h3, h4⟩ := c
  have h1 := nodup_sub_len h2 (m := v.pts.map (·.name)) fun z hz => (hasPt_iff _ _).1 (h3 z hz)
  have := ok.plen
  rw [List.length_map] at h1
  rw [List.length_append]
  exact ⟨by omega, by omega⟩
theorem extF_stop {path : List Bytes} {f : List (List Bytes)} {k : Nat} (h : 1024 < (extF v t n path f k).length) : ∀ m, extF v t n path f (k + m) = extF v t n path f k
  | 0 => rfl
  | m + 1 => by
    have ih := extF_stop h m
    rw [← Nat.add_assoc]
    cases e : (nextL v (lastT path))[k + m]? with
    | none =>
      rw [extF, List.take_add_one, e, Option.toList_none, List.append_nil]
      exact ih
    | some x => rw [extF_succ e, ih, extS_neg (by rintro ⟨c, _⟩; omega)]
theorem lev_pt (ok : NetOk v) (h : x ∈ nextL v y) : hasPt v.pts x = true := by
  obtain ⟨k, hk, _, rfl⟩ := (nextL_mem v _ _).1 h
  exact (ok.ends k hk).2.1
end
end Go.Toll
end

section 

namespace Go.Toll
open Go Go.Abs

theorem find_pt (n : Net) (s : Bytes) : (findPt n s).isSome = hasPt (validN n).pts s := by
  unfold findPt validN
  split
  · rw [Bool.eq_iff_iff, List.find?_isSome]; simp [hasPt]
  · rfl
section
variable {v : Net}
theorem reach_self (ok : NetOk v) (s : Bytes) : decide (s ∈ reachL v s) = hasPt v.pts s := by
  by_cases h : hasPt v.pts s = true
  · rw [h]; exact decide_eq_true ((reachL_mem ok s s).2 ⟨h, Rch.refl s⟩)
  · rw [Bool.not_eq_true] at h
    rw [h]; exact decide_eq_false fun c => by have := ((reachL_mem ok s s).1 c).1; rw [h] at this; cases this
theorem reach_none {s : Bytes} (h : hasPt v.pts s = false) : reachL v s = [] := by
  unfold reachL; rw [h]; rfl
theorem reach_next (ok : NetOk v) {s x t : Bytes} (h : x ∈ reachL v s) (ht : t ∈ nextL v x) : t ∈ reachL v s := by
  obtain ⟨h1, h2⟩ := (reachL_mem ok s x).1 h
  obtain ⟨k, hk, rfl, rfl⟩ := (nextL_mem v _ _).1 ht
  exact (reachL_mem ok s _).2 ⟨h1, Rch.step ok hk h2⟩
theorem reach_pt (ok : NetOk v) {s x : Bytes} (h : x ∈ reachL v s) : hasPt v.pts x = true := by
  obtain ⟨h1, l, t, h2, h3⟩ := (reachL_mem ok s x).1 h
  rw [← h3]
  rcases List.mem_cons.1 (endOf_mem s l) with e | e
  · rw [e]; exact h1
  · exact (wk_pts ok h2).1 _ e
theorem reach_len (ok : NetOk v) (s : Bytes) : (reachL v s).length ≤ 64 := by
  have h1 := nodup_sub_len (reachL_asc ok s).2 (m := v.pts.map (·.name)) fun z hz => (hasPt_iff _ _).1 (reach_pt ok hz)
  have := ok.plen
  rw [List.length_map] at h1; omega
theorem next_len (ok : NetOk v) (s : Bytes) : (nextL v s).length ≤ 128 := by
  have := lksOf_len v s
  have := ok.llen
  rw [nextL, List.length_map]; omega
theorem reach_less (ok : NetOk v) {s x y : Bytes} {j : Nat} (h1 : (reachL v s)[j]? = some x) (h2 : (reachL v s)[j + 1]? = some y) : Op.bytesLess x y = true := by
  obtain ⟨r1, r2⟩ := reachL_asc ok s
  obtain ⟨l1, e1⟩ := List.getElem?_eq_some_iff.1 h1
  obtain ⟨l2, e2⟩ := List.getElem?_eq_some_iff.1 h2
  have h3 := of_decide_eq_true (List.pairwise_iff_getElem.1 r1 j (j + 1) l1 l2 (by omega))
  have h4 := List.pairwise_iff_getElem.1 r2 j (j + 1) l1 l2 (by omega)
  rw [e1, e2] at h3 h4
  rw [bless]
  exact decide_eq_true (by
    rcases Nat.lt_or_ge 0 1 with _ | _
    · exact Std.lt_of_le_of_ne h3 h4
    · omega)
theorem last_end (a : Bytes) : ∀ l : List Bytes, (a :: l)[l.length]? = some (endOf a l)
  | [] => rfl
  | b :: l => by rw [List.length_cons, List.getElem?_cons_succ]; exact last_end b l
theorem bounds_wk (ok : NetOk v) {a : Bytes} {l : List Bytes} {s : Int × Int} (ha : hasPt v.pts a = true) (h : wk v a l = some s) : boundsM v (a :: l) = (s.1, s.2, 0) ∧ ∀ z ∈ a :: l, hasPt v.pts z = true := by
  have hp : ∀ z ∈ a :: l, hasPt v.pts z = true := fun z hz => by
    rcases List.mem_cons.1 hz with e | e
    · rw [e]; exact ha
    · exact (wk_pts ok h).1 z e
  refine ⟨?_, hp⟩
  rw [boundsM_ok hp, h]
/-- One of all paths. -/
structure PathAt (v : Net) (a b : Bytes) (q : List Bytes) (l : List Bytes) (s : Int × Int) : Prop where
  eq : q = a :: l
  bnd : boundsM v q = (s.1, s.2, 0)
  walk : wk v a l = some s
  ends : endOf a l = b
  nd : q.Nodup
  len : q.length ≤ 16
  pts : ∀ z ∈ q, hasPt v.pts z = true
theorem path_at (ok : NetOk v) {a b : Bytes} {i : Nat} {q : List Bytes} (h : (pathsM v a b).1[i]? = some q) : ∃ l s, PathAt v a b q l s := by
  obtain ⟨l, s, h1, h2, h3, h4, h5, h6, _⟩ := (pathsM_spec ok a b).2.2 q (List.mem_of_getElem? h)
  subst h1
  have := bounds_wk ok h6 h2
  exact ⟨l, s, rfl, this.1, h2, h3, h4, h5, this.2⟩
theorem path_less (ok : NetOk v) {a b : Bytes} {j : Nat} {p q : List Bytes} (h1 : (pathsM v a b).1[j]? = some p) (h2 : (pathsM v a b).1[j + 1]? = some q) : pcmp p q < 0 := by
  obtain ⟨l1, e1⟩ := List.getElem?_eq_some_iff.1 h1
  obtain ⟨l2, e2⟩ := List.getElem?_eq_some_iff.1 h2
  have := List.pairwise_iff_getElem.1 (pathsM_spec ok a b).2.1 j (j + 1) l1 l2 (by omega)
  rwa [e1, e2] at this
theorem take_no {q : List Bytes} {k : Nat} {x : Bytes} (hn : q.Nodup) (h : q[k]? = some x) : x ∉ q.take k := by
  intro hc
  obtain ⟨l1, e1⟩ := List.getElem?_eq_some_iff.1 h
  obtain ⟨i, hi, e⟩ := List.mem_iff_getElem.1 hc
  rw [List.length_take] at hi
  rw [List.getElem_take] at e
  exact List.pairwise_iff_getElem.1 hn i k (by omega) l1 (by omega) (by rw [e, e1])
theorem best_no (ok : NetOk v) {a b : Bytes} (h : bestP v a b = none) : b ∉ reachL v a := by
  intro hc
  have hb := reach_pt ok hc
  obtain ⟨ha, hr⟩ := (reachL_mem ok a b).1 hc
  rcases bestP_spec ok a b with ⟨l, d, e, _⟩ | ⟨_, e⟩
  · rw [h] at e; cases e
  · exact e ha hb hr
theorem best_yes (ok : NetOk v) {a b : Bytes} {l : List Bytes} {d : Int} (h : IsBest v a b l d) (ha : hasPt v.pts a = true) : b ∈ reachL v a := by
  obtain ⟨s, h1, _⟩ := h.walk
  exact (reachL_mem ok a b).2 ⟨ha, l, s, h1, h.ends⟩
theorem best_path {a b : Bytes} {l : List Bytes} {d : Int} (h : IsBest v a b l d) {q l' : List Bytes} {s : Int × Int} (p : PathAt v a b q l' s) : d ≤ s.1 ∧ (s.1 = d → ¬ q.length < l.length + 1 ∧ (q.length = l.length + 1 → 0 ≤ pcmp q (a :: l))) := by
  have hb := h.best l' s p.walk p.ends
  have hq := p.eq
  subst hq
  unfold ble at hb
  have han := pcmp_anti (a :: l) (a :: l')
  simp only [List.length_cons] at hb ⊢
  rcases hb with c | ⟨c, c2⟩
  · exact ⟨by omega, fun e => by omega⟩
  · refine ⟨by omega, fun _ => ⟨by omega, fun e => by omega⟩⟩
end
end Go.Toll
end
