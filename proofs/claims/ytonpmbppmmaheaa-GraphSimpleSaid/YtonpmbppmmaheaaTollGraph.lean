/-
  Networks that are valid; the points, the links that leave them, walks and what they take.
-/
import Derived.Test.YtonpmbppmmaheaaTollNet
import Derived.Test.YtonpmbppmmaheaaTollText
set_option linter.unusedVariables false
set_option linter.unusedSimpArgs false
namespace Go.Toll
open Go Go.Abs

/-! ### Valid networks -/
structure NetOk (v : Net) : Prop where
  plen : v.pts.length ≤ 64
  llen : v.lks.length ≤ 128
  nd : (v.pts.map (·.name)).Nodup
  short : ∀ p ∈ v.pts, nameB p.name = true
  ends : ∀ x ∈ v.lks, hasPt v.pts x.src = true ∧ hasPt v.pts x.dst = true ∧ x.src ≠ x.dst
  one : v.lks.Pairwise fun x y => ¬ (x.src = y.src ∧ x.dst = y.dst)
  rng : ∀ x ∈ v.lks, 1 ≤ x.min ∧ x.min ≤ x.max ∧ x.max ≤ 2147483648

theorem hasPt_iff (l : List Pt) (s : Bytes) : hasPt l s = true ↔ s ∈ l.map (·.name) := by
  rw [hasPt, List.any_eq_true, List.mem_map]
  constructor
  · rintro ⟨p, hp, h⟩; exact ⟨p, hp, of_decide_eq_true h⟩
  · rintro ⟨p, hp, rfl⟩; exact ⟨p, hp, by simp⟩
theorem hasPt_append (l m : List Pt) (s : Bytes) : hasPt (l ++ m) s = (hasPt l s || hasPt m s) := by simp [hasPt]
theorem ptsErr_nd : ∀ {l before : List Pt}, ptsErr before l = 0 → (∀ p ∈ l, nameB p.name = true ∧ hasPt before p.name = false) ∧ (l.map (·.name)).Nodup
  | [], _, _ => by simp
  | p :: l, before, h => by
    rw [ptsErr] at h
    split at h
    · cases h
    rename_i h1
    split at h
    · cases h
    rename_i h2
    split at h
    · cases h
    split at h
    · cases h
    obtain ⟨i1, i2⟩ := ptsErr_nd h
    refine ⟨fun q hq => ?_, ?_⟩
    · rcases List.mem_cons.1 hq with rfl | hq
      · exact ⟨by simpa using h1, by simpa using h2⟩
      · obtain ⟨j1, j2⟩ := i1 q hq
        rw [hasPt_append, Bool.or_eq_false_iff] at j2
        exact ⟨j1, j2.1⟩
    · rw [List.map_cons, List.nodup_cons]
      refine ⟨fun hm => ?_, i2⟩
      obtain ⟨q, hq, e⟩ := List.mem_map.1 hm
      have j2 := (i1 q hq).2
      rw [hasPt_append, Bool.or_eq_false_iff] at j2
      simp [hasPt, e] at j2
theorem lksErr_all {pts : List Pt} : ∀ {l before : List Lk}, lksErr pts before l = 0 →
    (∀ x ∈ l, (hasPt pts x.src = true ∧ hasPt pts x.dst = true ∧ x.src ≠ x.dst) ∧ (1 ≤ x.min ∧ x.min ≤ x.max ∧ x.max ≤ 2147483648) ∧ ∀ y ∈ before, ¬ (y.src = x.src ∧ y.dst = x.dst)) ∧ l.Pairwise fun x y => ¬ (x.src = y.src ∧ x.dst = y.dst)
  | [], _, _ => by simp
  | x :: l, before, h => by
    rw [lksErr] at h
    split at h
    · cases h
    rename_i h1
    split at h
    · cases h
    rename_i h2
    split at h
    · cases h
    rename_i h3
    obtain ⟨i1, i2⟩ := lksErr_all h
    refine ⟨fun y hy => ?_, List.pairwise_cons.2 ⟨fun y hy => (i1 y hy).2.2 x (by simp), i2⟩⟩
    rcases List.mem_cons.1 hy with rfl | hy
    · refine ⟨⟨?_, ?_, ?_⟩, by omega, fun z hz hc => h2 ?_⟩
      · cases e : hasPt pts y.src
        · exact absurd (.inl e) h1
        · rfl
      · cases e : hasPt pts y.dst
        · exact absurd (.inr (.inl e)) h1
        · rfl
      · exact fun e => h1 (.inr (.inr e))
      · rw [List.any_eq_true]; exact ⟨z, hz, by simp [hc]⟩
    · obtain ⟨j1, j2, j3⟩ := i1 y hy
      exact ⟨j1, j2, fun z hz => j3 z (by simp [hz])⟩
theorem netErr_ok {n : Net} (h : netErr n = 0) : NetOk n := by
  have hl := netErr_len h
  unfold netErr at h
  split at h
  · cases h
  split at h
  · rename_i h2; exact absurd h h2
  rename_i h2
  have h2 : ptsErr [] n.pts = 0 := by simpa using h2
  obtain ⟨p1, p2⟩ := ptsErr_nd h2
  obtain ⟨l1, l2⟩ := lksErr_all h
  exact ⟨hl.1, hl.2, p2, fun p hp => (p1 p hp).1, fun x hx => (l1 x hx).1, l2, fun x hx => (l1 x hx).2.1⟩
theorem validN_ok (n : Net) : NetOk (validN n) := by
  unfold validN
  split
  · rename_i h; exact netErr_ok h
  · exact ⟨by simp, by simp, by simp, by simp, by simp, by simp, by simp⟩

/-! ### Walks -/
/-- The names of the points, ascending. -/
def ptsN (v : Net) : List Bytes := sortT (v.pts.map (·.name))
/-- The links that leave a point, ascending by their ends. -/
def lksOf (v : Net) (s : Bytes) : List Lk := (v.lks.filter fun x => decide (x.src = s)).mergeSort fun x y => decide (x.dst ≤ y.dst)
def nextL (v : Net) (s : Bytes) : List Bytes := (lksOf v s).map (·.dst)
def lkOf (v : Net) (a b : Bytes) : Option Lk := v.lks.find? fun x => decide (x.src = a) && decide (x.dst = b)
def endOf : Bytes → List Bytes → Bytes
  | a, [] => a
  | _, b :: l => endOf b l
/-- What a walk takes, at least and at most. -/
def wk (v : Net) : Bytes → List Bytes → Option (Int × Int)
  | _, [] => some (0, 0)
  | a, b :: l => match lkOf v a b, wk v b l with
    | some x, some s => some (x.min + s.1, x.max + s.2)
    | _, _ => none

section
variable {v : Net}
theorem ptsN_mem (v : Net) (s : Bytes) : s ∈ ptsN v ↔ hasPt v.pts s = true := by rw [ptsN, sortT_mem, hasPt_iff]
theorem ptsN_len (v : Net) : (ptsN v).length = v.pts.length := by rw [ptsN, sortT_len, List.length_map]
theorem NetOk.nodup (ok : NetOk v) : (ptsN v).Nodup := sortT_nodup ok.nd
theorem ptsN_asc (v : Net) : ascT (ptsN v) := sortT_asc _
theorem NetOk.name (ok : NetOk v) {s : Bytes} (h : hasPt v.pts s = true) : nameB s = true := by
  obtain ⟨p, hp, rfl⟩ := List.mem_map.1 ((hasPt_iff _ _).1 h)
  exact ok.short p hp
theorem name_len {s : Bytes} (h : nameB s = true) : s.length ≤ 12 := by
  simp [nameB] at h; omega
theorem lksOf_mem (v : Net) (s : Bytes) (x : Lk) : x ∈ lksOf v s ↔ x ∈ v.lks ∧ x.src = s := by
  rw [lksOf, (List.mergeSort_perm _ _).mem_iff, List.mem_filter]; simp
theorem lksOf_len (v : Net) (s : Bytes) : (lksOf v s).length ≤ v.lks.length := by
  rw [lksOf, List.length_mergeSort]; exact List.length_filter_le _ _
theorem lksOf_asc (v : Net) (s : Bytes) : (lksOf v s).Pairwise fun x y => decide (x.dst ≤ y.dst) = true :=
  List.pairwise_mergeSort (fun a b c => leT_trans a.dst b.dst c.dst) (fun a b => leT_total a.dst b.dst) _
theorem NetOk.uniq (ok : NetOk v) {x y : Lk} (hx : x ∈ v.lks) (hy : y ∈ v.lks) (h1 : x.src = y.src) (h2 : x.dst = y.dst) : x = y := by
  have : ∀ l : List Lk, l.Pairwise (fun x y => ¬ (x.src = y.src ∧ x.dst = y.dst)) → x ∈ l → y ∈ l → x = y := by
    intro l
    induction l with
    | nil => intro _ h; cases h
    | cons z l ih =>
      intro hp hx hy
      obtain ⟨p1, p2⟩ := List.pairwise_cons.1 hp
      rcases List.mem_cons.1 hx with ex | hx' <;> rcases List.mem_cons.1 hy with ey | hy'
      · rw [ex, ey]
      · rw [ex] at h1 h2; exact absurd ⟨h1, h2⟩ (p1 y hy')
      · rw [ey] at h1 h2; exact absurd ⟨h1.symm, h2.symm⟩ (p1 x hx')
      · exact ih p2 hx' hy'
  exact this _ ok.one hx hy
theorem NetOk.dstnd (ok : NetOk v) (s : Bytes) : ((lksOf v s).map (·.dst)).Nodup := by
  have h : ((v.lks.filter fun x => decide (x.src = s)).map (·.dst)).Nodup := by
    refine List.pairwise_map.2 ?_
    have h1 := ok.one.sublist (List.filter_sublist (p := fun x => decide (x.src = s)) (l := v.lks))
    refine List.Pairwise.imp_of_mem ?_ h1
    intro x y hx hy hne e
    exact hne ⟨by rw [of_decide_eq_true (List.mem_filter.1 hx).2, of_decide_eq_true (List.mem_filter.1 hy).2], e⟩
  exact (((List.mergeSort_perm _ _).map _).nodup_iff).2 h
theorem nextL_asc (v : Net) (s : Bytes) : ascT (nextL v s) := List.pairwise_map.2 (lksOf_asc v s)
theorem NetOk.nextnd (ok : NetOk v) (s : Bytes) : (nextL v s).Nodup := ok.dstnd s
theorem nextL_mem (v : Net) (s t : Bytes) : t ∈ nextL v s ↔ ∃ x ∈ v.lks, x.src = s ∧ x.dst = t := by
  rw [nextL, List.mem_map]
  constructor
  · rintro ⟨x, hx, rfl⟩; exact ⟨x, ((lksOf_mem v s x).1 hx).1, ((lksOf_mem v s x).1 hx).2, rfl⟩
  · rintro ⟨x, hx, h1, h2⟩; exact ⟨x, (lksOf_mem v s x).2 ⟨hx, h1⟩, h2⟩
theorem nextL_eq (ok : NetOk v) (s : Bytes) : nextL v s = insF [] ((v.lks.filter fun x => decide (x.src = s)).map (·.dst)) := by
  obtain ⟨i1, i2, i3⟩ := insF_all ((v.lks.filter fun x : Lk => decide (x.src = s)).map fun x : Lk => x.dst) [] (by simp [ascT]) (by simp)
  refine asc_of_mem (nextL_asc v s) i1 (ok.nextnd s) i2 fun t => ?_
  rw [i3, nextL_mem, List.mem_map]
  simp [List.mem_filter, and_assoc]
theorem lkOf_some {a b : Bytes} {x : Lk} (h : lkOf v a b = some x) : x ∈ v.lks ∧ x.src = a ∧ x.dst = b := by
  have h1 := List.mem_of_find?_eq_some h
  have h2 := List.find?_some h
  simp at h2
  exact ⟨h1, h2⟩
theorem NetOk.lkOf (ok : NetOk v) {x : Lk} (hx : x ∈ v.lks) : lkOf v x.src x.dst = some x := by
  cases e : Go.Toll.lkOf v x.src x.dst with
  | none =>
    have := List.find?_eq_none.1 e x hx
    simp at this
  | some y =>
    obtain ⟨h1, h2, h3⟩ := lkOf_some e
    rw [ok.uniq h1 hx h2 h3]
theorem lkOf_next (ok : NetOk v) (a b : Bytes) : b ∈ nextL v a ↔ ∃ x, lkOf v a b = some x := by
  rw [nextL_mem]
  constructor
  · rintro ⟨x, hx, rfl, rfl⟩; exact ⟨x, ok.lkOf hx⟩
  · rintro ⟨x, h⟩
    obtain ⟨h1, h2, h3⟩ := lkOf_some h
    exact ⟨x, h1, h2, h3⟩
@[simp] theorem wk_nil (v : Net) (a : Bytes) : wk v a [] = some (0, 0) := rfl
theorem wk_cons {a b : Bytes} {l : List Bytes} {s : Int × Int} : wk v a (b :: l) = some s ↔ ∃ x t, lkOf v a b = some x ∧ wk v b l = some t ∧ s = (x.min + t.1, x.max + t.2) := by
  rw [wk]
  cases e1 : lkOf v a b with
  | none => simp
  | some x =>
    cases e2 : wk v b l with
    | none => simp
    | some t =>
      simp only [Option.some.injEq]
      constructor
      · rintro rfl; exact ⟨x, t, rfl, rfl, rfl⟩
      · rintro ⟨_, _, rfl, rfl, h⟩; exact h.symm
theorem endOf_app (a : Bytes) : ∀ (x y : List Bytes), endOf a (x ++ y) = endOf (endOf a x) y
  | [], y => rfl
  | b :: x, y => endOf_app b x y
theorem endOf_snoc (a : Bytes) (x : List Bytes) (b : Bytes) : endOf a (x ++ [b]) = b := by rw [endOf_app]; rfl
theorem wk_app {a : Bytes} : ∀ {x y : List Bytes} {s : Int × Int}, wk v a (x ++ y) = some s ↔ ∃ t u, wk v a x = some t ∧ wk v (endOf a x) y = some u ∧ s = (t.1 + u.1, t.2 + u.2)
  | [], y, s => by
    simp only [List.nil_append, wk_nil, endOf, Option.some.injEq]
    constructor
    · intro h; exact ⟨(0, 0), s, rfl, h, by simp⟩
    · rintro ⟨t, u, rfl, h, rfl⟩; simpa using h
  | b :: x, y, s => by
    rw [List.cons_append, wk_cons]
    constructor
    · rintro ⟨z, t, h1, h2, rfl⟩
      obtain ⟨t1, u, h3, h4, rfl⟩ := wk_app.1 h2
      exact ⟨(z.min + t1.1, z.max + t1.2), u, wk_cons.2 ⟨z, t1, h1, h3, rfl⟩, h4, by simp [Int.add_assoc]⟩
    · rintro ⟨t, u, h1, h2, rfl⟩
      obtain ⟨z, t1, h3, h4, rfl⟩ := wk_cons.1 h1
      exact ⟨z, (t1.1 + u.1, t1.2 + u.2), h3, wk_app.2 ⟨t1, u, h4, h2, rfl⟩, by simp [Int.add_assoc]⟩
theorem wk_rng (ok : NetOk v) {a : Bytes} : ∀ {l : List Bytes} {s : Int × Int}, wk v a l = some s → (l.length : Int) ≤ s.1 ∧ s.1 ≤ s.2 ∧ s.2 ≤ l.length * 2147483648
  | [], s, h => by
    obtain rfl := Option.some.inj h
    simp
  | b :: l, s, h => by
    obtain ⟨x, t, h1, h2, rfl⟩ := wk_cons.1 h
    obtain ⟨i1, i2, i3⟩ := wk_rng ok h2
    obtain ⟨r1, r2, r3⟩ := ok.rng x (lkOf_some h1).1
    simp only [List.length_cons]
    push_cast
    omega
theorem wk_pts (ok : NetOk v) {a : Bytes} : ∀ {l : List Bytes} {s : Int × Int}, wk v a l = some s → (∀ z ∈ l, hasPt v.pts z = true) ∧ (l ≠ [] → hasPt v.pts a = true)
  | [], s, h => by simp
  | b :: l, s, h => by
    obtain ⟨x, t, h1, h2, rfl⟩ := wk_cons.1 h
    obtain ⟨i1, i2⟩ := wk_pts ok h2
    obtain ⟨m, e1, e2⟩ := lkOf_some h1
    obtain ⟨p1, p2, _⟩ := ok.ends x m
    rw [e1] at p1; rw [e2] at p2
    refine ⟨fun z hz => ?_, fun _ => p1⟩
    rcases List.mem_cons.1 hz with rfl | hz
    · exact p2
    · exact i1 z hz
theorem endOf_mem (a : Bytes) : ∀ l : List Bytes, endOf a l ∈ a :: l
  | [] => by simp [endOf]
  | b :: l => List.mem_cons_of_mem _ (endOf_mem b l)
/-- A walk without a point twice, which is no worse. -/
theorem simple_le (ok : NetOk v) : ∀ (n : Nat) (a : Bytes) (l : List Bytes) (s : Int × Int), l.length ≤ n → wk v a l = some s →
    ∃ l' s', wk v a l' = some s' ∧ endOf a l' = endOf a l ∧ (a :: l').Nodup ∧ (∀ z ∈ l', z ∈ l) ∧ (l' = l ∨ (s'.1 < s.1 ∧ l'.length < l.length))
  | 0, a, l, s, hn, h => by
    obtain rfl : l = [] := List.length_eq_zero_iff.1 (by omega)
    exact ⟨[], s, h, rfl, by simp, by simp, .inl rfl⟩
  | n + 1, a, [], s, hn, h => ⟨[], s, h, rfl, by simp, by simp, .inl rfl⟩
  | n + 1, a, b :: l, s, hn, h => by
    by_cases ha : a ∈ b :: l
    · obtain ⟨x, y, e⟩ := List.append_of_mem ha
      rw [e, show x ++ a :: y = (x ++ [a]) ++ y by simp] at h
      obtain ⟨t, u, h1, h2, rfl⟩ := wk_app.1 h
      rw [endOf_snoc] at h2
      have hr := wk_rng ok h1
      have hyl : y.length ≤ n := by
        have := congrArg List.length e
        simp at this hn; omega
      obtain ⟨l', s', q1, q2, q3, q4, q5⟩ := simple_le ok n a y u hyl h2
      simp at hr
      have hlen := congrArg List.length e
      simp at hlen
      refine ⟨l', s', q1, ?_, q3, fun z hz => ?_, .inr ⟨?_, ?_⟩⟩
      · rw [q2, e, show x ++ a :: y = (x ++ [a]) ++ y by simp, endOf_app, endOf_snoc]
      · rw [e]; simp [q4 z hz]
      · rcases q5 with rfl | ⟨q5, q6⟩
        · have : s' = u := by rw [q1] at h2; exact Option.some.inj h2
          subst this; show s'.1 < t.1 + s'.1; omega
        · show s'.1 < t.1 + u.1; omega
      · rcases q5 with rfl | ⟨q5, q6⟩
        · simp; omega
        · simp; omega
    · obtain ⟨x, t, h1, h2, rfl⟩ := wk_cons.1 h
      obtain ⟨l', s', q1, q2, q3, q4, q5⟩ := simple_le ok n b l t (by simpa using hn) h2
      refine ⟨b :: l', (x.min + s'.1, x.max + s'.2), wk_cons.2 ⟨x, s', h1, q1, rfl⟩, q2, List.nodup_cons.2 ⟨fun hm => ha ?_, q3⟩, fun z hz => ?_, ?_⟩
      · rcases List.mem_cons.1 hm with rfl | hm
        · simp
        · exact List.mem_cons_of_mem _ (q4 a hm)
      · rcases List.mem_cons.1 hz with rfl | hz
        · simp
        · exact List.mem_cons_of_mem _ (q4 z hz)
      · rcases q5 with rfl | ⟨q5, q6⟩
        · exact .inl rfl
        · exact .inr ⟨by show x.min + s'.1 < x.min + t.1; omega, by simpa using q6⟩
theorem nodup_sub_len : ∀ {l m : List Bytes}, l.Nodup → (∀ z ∈ l, z ∈ m) → l.length ≤ m.length
  | [], m, _, _ => by simp
  | a :: l, m, hn, h => by
    obtain ⟨h1, h2⟩ := List.nodup_cons.1 hn
    have ha := h a List.mem_cons_self
    have := nodup_sub_len (m := m.erase a) h2 fun z hz => (List.mem_erase_of_ne (fun e : z = a => h1 (by rw [← e]; exact hz))).2 (h z (List.mem_cons_of_mem _ hz))
    rw [List.length_erase_of_mem ha] at this
    have := List.length_pos_of_mem ha
    simp; omega
/-- A walk without a point twice is short. -/
theorem simple_len (ok : NetOk v) {a : Bytes} {l : List Bytes} {s : Int × Int} (h : wk v a l = some s) (ha : hasPt v.pts a = true) (hn : (a :: l).Nodup) : l.length + 1 ≤ v.pts.length := by
  have := nodup_sub_len (m := ptsN v) hn fun z hz => (ptsN_mem v z).2 (by
    rcases List.mem_cons.1 hz with rfl | hz
    · exact ha
    · exact (wk_pts ok h).1 z hz)
  rw [ptsN_len] at this
  simpa using this
end

/-! ### As the reference goes -/
def nextI (v : Net) (s : Bytes) (i : Nat) : List Bytes := insF [] (((v.lks.take i).filter fun x => decide (x.src = s)).map (·.dst))
theorem insF_snoc (o l : List Bytes) (s : Bytes) : insF o (l ++ [s]) = insS (insF o l) s := by rw [insF, List.foldl_append]; rfl
theorem nextI_zero (v : Net) (s : Bytes) : nextI v s 0 = [] := rfl
theorem nextI_succ {v : Net} {i : Nat} {x : Lk} (s : Bytes) (h : v.lks[i]? = some x) : nextI v s (i + 1) = if x.src = s then insS (nextI v s i) x.dst else nextI v s i := by
  rw [nextI, List.take_add_one, h, Option.toList_some, List.filter_append]
  by_cases e : x.src = s
  · rw [if_pos e]
    simp only [List.filter_cons, e, decide_true, if_true, List.filter_nil, List.map_append, List.map_cons, List.map_nil, insF_snoc]
    rfl
  · rw [if_neg e]
    simp [e, nextI]
theorem nextI_all {v : Net} (ok : NetOk v) (s : Bytes) {i : Nat} (h : v.lks.length ≤ i) : nextI v s i = nextL v s := by rw [nextI, List.take_of_length_le h, nextL_eq ok]
theorem insF_len : ∀ (l o : List Bytes), (insF o l).length ≤ o.length + l.length
  | [], o => by simp [insF_nil]
  | s :: l, o => by
    rw [insF_cons]
    have := insF_len l (insS o s)
    have := insS_len o s
    simp; omega
theorem nextI_len (v : Net) (s : Bytes) (i : Nat) : (nextI v s i).length ≤ i := by
  have := insF_len (((v.lks.take i).filter fun x => decide (x.src = s)).map (·.dst)) []
  have h2 := List.length_filter_le (fun x : Lk => decide (x.src = s)) (v.lks.take i)
  rw [nextI]
  simp at this h2 ⊢
  omega

def lkTo (v : Net) (a b : Bytes) (k : Nat) : Option Lk := (v.lks.take k).find? fun x => decide (x.src = a) && decide (x.dst = b)
theorem lkTo_zero (v : Net) (a b : Bytes) : lkTo v a b 0 = none := rfl
theorem lkTo_all (v : Net) (a b : Bytes) : lkTo v a b v.lks.length = lkOf v a b := by rw [lkTo, List.take_length]; rfl
theorem lkTo_miss {v : Net} {k : Nat} {x : Lk} (a b : Bytes) (h : v.lks[k]? = some x) (hn : ¬ (x.src = a ∧ x.dst = b)) : lkTo v a b (k + 1) = lkTo v a b k := by
  rw [lkTo, List.take_add_one, h, Option.toList_some, List.find?_append]
  have : (decide (x.src = a) && decide (x.dst = b)) = false := by
    rw [Bool.and_eq_false_iff]
    by_cases e : x.src = a
    · right; exact decide_eq_false fun e2 => hn ⟨e, e2⟩
    · left; exact decide_eq_false e
  simp only [List.find?_cons, this, List.find?_nil, Option.or_none]
  rfl
theorem lkTo_hit {v : Net} (ok : NetOk v) {k : Nat} {x : Lk} (h : v.lks[k]? = some x) : lkTo v x.src x.dst k = none ∧ lkTo v x.src x.dst (k + 1) = some x := by
  have hk := lt_of_get h
  have hn : lkTo v x.src x.dst k = none := by
    rw [lkTo, List.find?_eq_none]
    intro y hy hc
    obtain ⟨j, hj⟩ := List.getElem?_of_mem hy
    have hjl := lt_of_get hj
    rw [List.length_take] at hjl
    rw [List.getElem?_take_of_lt (by omega)] at hj
    have hp := List.pairwise_iff_getElem.1 ok.one j k (by omega) hk (by omega)
    rw [(List.getElem?_eq_some_iff.1 hj).2, (List.getElem?_eq_some_iff.1 h).2] at hp
    exact hp (by simpa using hc)
  refine ⟨hn, ?_⟩
  rw [lkTo] at hn
  rw [lkTo, List.take_add_one, h, Option.toList_some, List.find?_append, hn]
  simp

/-! ### The durations of a path -/
def boundsM (v : Net) (p : List Bytes) : Int × Int × Int := match p with
  | [] => (0, 0, 16)
  | a :: l => if (a :: l).all (hasPt v.pts) then (match wk v a l with
    | some s => (s.1, s.2, 0)
    | none => (0, 0, 21)) else (0, 0, 16)

theorem boundsM_bad {v : Net} {p : List Bytes} (hne : p ≠ []) (h : ∃ s ∈ p, hasPt v.pts s = false) : boundsM v p = (0, 0, 16) := by
  cases p with
  | nil => exact absurd rfl hne
  | cons a l =>
    obtain ⟨s, hs, h⟩ := h
    rw [boundsM, if_neg]
    intro hc
    rw [List.all_eq_true.1 hc s hs] at h
    cases h
theorem boundsM_ok {v : Net} {a : Bytes} {l : List Bytes} (h : ∀ s ∈ a :: l, hasPt v.pts s = true) : boundsM v (a :: l) = match wk v a l with
    | some s => (s.1, s.2, 0)
    | none => (0, 0, 21) := by
  rw [boundsM, if_pos (List.all_eq_true.2 h)]

/-! ### The points that can be reached -/
def iter {α : Type} (f : α → α) : Nat → α → α
  | 0, x => x
  | n + 1, x => f (iter f n x)
def rchStep (out : List Bytes) (x : Lk) : List Bytes := if x.src ∈ out then insS out x.dst else out
def rchRound (v : Net) (out : List Bytes) : List Bytes := v.lks.foldl rchStep out
def reachL (v : Net) (a : Bytes) : List Bytes := if hasPt v.pts a then iter (rchRound v) v.pts.length [a] else []

def rchI (v : Net) (a : Bytes) (r i : Nat) : List Bytes := (v.lks.take i).foldl rchStep (iter (rchRound v) r [a])
theorem rchI_zero (v : Net) (a : Bytes) (r : Nat) : rchI v a r 0 = iter (rchRound v) r [a] := rfl
theorem rchI_succ {v : Net} {i : Nat} {x : Lk} (a : Bytes) (r : Nat) (h : v.lks[i]? = some x) : rchI v a r (i + 1) = if x.src ∈ rchI v a r i then insS (rchI v a r i) x.dst else rchI v a r i := by
  rw [rchI, List.take_add_one, h, Option.toList_some, List.foldl_append]
  rfl
theorem rchI_all (v : Net) (a : Bytes) (r : Nat) : rchI v a r v.lks.length = rchI v a (r + 1) 0 := by
  rw [rchI, List.take_length]; rfl
theorem rchF_len : ∀ (ls : List Lk) (out : List Bytes), (ls.foldl rchStep out).length ≤ out.length + ls.length
  | [], _ => by simp
  | x :: ls, out => by
    rw [List.foldl_cons]
    have h1 := rchF_len ls (rchStep out x)
    have h2 : (rchStep out x).length ≤ out.length + 1 := by
      unfold rchStep; split
      · exact insS_len _ _
      · omega
    simp; omega
theorem rchI_len {v : Net} (hl : v.lks.length ≤ 128) (a : Bytes) : ∀ r i, i ≤ v.lks.length → (rchI v a r i).length ≤ 1 + 128 * r + i
  | 0, i, hi => by
    have := rchF_len (v.lks.take i) [a]
    rw [rchI, iter]
    simp at this ⊢; omega
  | r + 1, i, hi => by
    have h1 := rchF_len (v.lks.take i) (iter (rchRound v) (r + 1) [a])
    have h2 := rchI_len hl a r v.lks.length (Nat.le_refl _)
    rw [rchI_all, rchI_zero] at h2
    rw [rchI]
    simp at h1 ⊢; omega
def Rch (v : Net) (a b : Bytes) : Prop := ∃ l s, wk v a l = some s ∧ endOf a l = b
section
variable {v : Net}
theorem Rch.refl (a : Bytes) : Rch v a a := ⟨[], (0, 0), rfl, rfl⟩
theorem Rch.step (ok : NetOk v) {a : Bytes} {x : Lk} (hx : x ∈ v.lks) (h : Rch v a x.src) : Rch v a x.dst := by
  obtain ⟨l, s, h1, h2⟩ := h
  refine ⟨l ++ [x.dst], (s.1 + (x.min + 0), s.2 + (x.max + 0)), wk_app.2 ⟨s, (x.min + 0, x.max + 0), h1, ?_, rfl⟩, endOf_snoc _ _ _⟩
  rw [h2]
  exact wk_cons.2 ⟨x, (0, 0), ok.lkOf hx, rfl, rfl⟩
/-- What is closed contains all that can be reached. -/
theorem Rch.closed {S : Bytes → Prop} (hc : ∀ x ∈ v.lks, S x.src → S x.dst) : ∀ {l : List Bytes} {a : Bytes} {s : Int × Int}, S a → wk v a l = some s → S (endOf a l)
  | [], _, _, ha, _ => ha
  | b :: l, a, s, ha, h => by
    obtain ⟨x, t, h1, h2, rfl⟩ := wk_cons.1 h
    obtain ⟨m, e1, e2⟩ := lkOf_some h1
    have : S b := by rw [← e2]; exact hc x m (by rw [e1]; exact ha)
    show S (endOf b l)
    exact Rch.closed hc this h2
theorem rchF_inv (ok : NetOk v) (a : Bytes) : ∀ (ls : List Lk) (out : List Bytes), (∀ x ∈ ls, x ∈ v.lks) → ascT out → out.Nodup → (∀ t ∈ out, Rch v a t) →
    ascT (ls.foldl rchStep out) ∧ (ls.foldl rchStep out).Nodup ∧ (∀ t ∈ ls.foldl rchStep out, Rch v a t) ∧ (∀ t ∈ out, t ∈ ls.foldl rchStep out) ∧ ∀ x ∈ ls, x.src ∈ out → x.dst ∈ ls.foldl rchStep out
  | [], out, _, h1, h2, h3 => ⟨h1, h2, h3, fun t h => h, by simp⟩
  | x :: ls, out, hl, h1, h2, h3 => by
    have hs : ascT (rchStep out x) ∧ (rchStep out x).Nodup ∧ (∀ t ∈ rchStep out x, Rch v a t) ∧ (∀ t ∈ out, t ∈ rchStep out x) ∧ (x.src ∈ out → x.dst ∈ rchStep out x) := by
      unfold rchStep
      split
      · rename_i hx
        refine ⟨insS_asc _ h1, insS_nodup _ h2, fun t ht => ?_, fun t ht => (insS_mem _ _ _).2 (.inr ht), fun _ => (insS_mem _ _ _).2 (.inl rfl)⟩
        rcases (insS_mem _ _ _).1 ht with rfl | ht
        · exact (h3 _ hx).step ok (hl x List.mem_cons_self)
        · exact h3 t ht
      · rename_i hx
        exact ⟨h1, h2, h3, fun t h => h, fun h => absurd h hx⟩
    obtain ⟨s1, s2, s3, s4, s5⟩ := hs
    obtain ⟨i1, i2, i3, i4, i5⟩ := rchF_inv ok a ls _ (fun y hy => hl y (List.mem_cons_of_mem _ hy)) s1 s2 s3
    rw [List.foldl_cons]
    refine ⟨i1, i2, i3, fun t ht => i4 t (s4 t ht), fun y hy hs => ?_⟩
    rcases List.mem_cons.1 hy with rfl | hy
    · exact i4 _ (s5 hs)
    · exact i5 y hy (s4 _ hs)
theorem rch_iter (ok : NetOk v) (a : Bytes) : ∀ n, ascT (iter (rchRound v) n [a]) ∧ (iter (rchRound v) n [a]).Nodup ∧ (∀ t ∈ iter (rchRound v) n [a], Rch v a t) ∧ ∀ l s, l.length ≤ n → wk v a l = some s → endOf a l ∈ iter (rchRound v) n [a]
  | 0 => by
    refine ⟨by simp [iter, ascT], by simp [iter], fun t ht => ?_, fun l s hl h => ?_⟩
    · rw [iter, List.mem_singleton] at ht; subst ht; exact Rch.refl _
    · obtain rfl : l = [] := List.length_eq_zero_iff.1 (by omega)
      simp [iter, endOf]
  | n + 1 => by
    obtain ⟨i1, i2, i3, i4⟩ := rch_iter ok a n
    obtain ⟨j1, j2, j3, j4, j5⟩ := rchF_inv ok a v.lks _ (fun _ h => h) i1 i2 i3
    refine ⟨j1, j2, j3, fun l s hl h => ?_⟩
    rcases List.eq_nil_or_concat l with rfl | ⟨l', b, rfl⟩
    · exact j4 _ (i4 [] (0, 0) (by simp) rfl)
    · rw [List.concat_eq_append] at h hl ⊢
      obtain ⟨t, u, h1, h2, _⟩ := wk_app.1 h
      obtain ⟨x, _, h3, _, _⟩ := wk_cons.1 h2
      obtain ⟨m, e1, e2⟩ := lkOf_some h3
      rw [endOf_snoc, ← e2]
      refine j5 x m ?_
      rw [e1]
      exact i4 l' t (by simp at hl; omega) h1
theorem reachL_mem (ok : NetOk v) (a b : Bytes) : b ∈ reachL v a ↔ hasPt v.pts a = true ∧ Rch v a b := by
  unfold reachL
  split
  · rename_i ha
    obtain ⟨i1, i2, i3, i4⟩ := rch_iter ok a v.pts.length
    constructor
    · intro h; exact ⟨ha, i3 b h⟩
    · rintro ⟨_, l, s, h1, h2⟩
      obtain ⟨l', s', q1, q2, q3, _⟩ := simple_le ok _ a l s (Nat.le_refl _) h1
      have := simple_len ok q1 ha q3
      rw [← h2, ← q2]
      exact i4 l' s' (by omega) q1
  · rename_i ha
    simp [ha]
theorem reachL_asc (ok : NetOk v) (a : Bytes) : ascT (reachL v a) ∧ (reachL v a).Nodup := by
  unfold reachL
  split
  · obtain ⟨i1, i2, _⟩ := rch_iter ok a v.pts.length
    exact ⟨i1, i2⟩
  · simp [ascT]
/-- Any set of points that contains the first one, is closed and contains only what can be reached. -/
theorem reachL_filter (ok : NetOk v) (a : Bytes) (ha : hasPt v.pts a = true) (f : Bytes → Bool) (h0 : f a = true) (hc : ∀ x ∈ v.lks, f x.src = true → f x.dst = true) (hr : ∀ t, f t = true → Rch v a t) : (ptsN v).filter f = reachL v a := by
  obtain ⟨r1, r2⟩ := reachL_asc ok a
  refine asc_of_mem ((ptsN_asc v).sublist (List.filter_sublist)) r1 (ok.nodup.sublist List.filter_sublist) r2 fun t => ?_
  rw [List.mem_filter, ptsN_mem, reachL_mem ok]
  constructor
  · rintro ⟨_, h⟩; exact ⟨ha, hr t h⟩
  · rintro ⟨_, l, s, h1, h2⟩
    have := Rch.closed (S := fun t => f t = true) hc h0 h1
    rw [h2] at this
    refine ⟨?_, this⟩
    cases l with
    | nil => rw [← h2]; exact ha
    | cons b l =>
      rw [← h2]
      have hm := endOf_mem b l
      exact (wk_pts ok h1).1 _ hm
end
end Go.Toll
