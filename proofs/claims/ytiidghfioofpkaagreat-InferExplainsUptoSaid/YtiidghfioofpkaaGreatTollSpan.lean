/-
  Sets of intervals: normal forms, unions and intersections as lists of numbers tell them.
  Detectors: how they show; when one works.
  When no detector works: the cells between cuts.
-/
import Derived.Test.YtiidghfioofpkaaGreatTollBase
import Derived.Test.YtiidghfioofpkaaGreatAbsList
set_option linter.unusedVariables false
set_option linter.unusedSimpArgs false

section 

namespace Go.Toll
open Go Go.Abs

theorem iv_n (l : List Iv) : ∀ e ∈ l.map encIv, e.length = 2 := by
  intro e he
  obtain ⟨a, _, rfl⟩ := List.mem_map.1 he
  rfl
theorem ls_mono {n lo lo' : Nat} {h : AHeap} {x : AV} {es : List (List AV)} (r : Ls n lo h x es) (hl : lo' ≤ lo) : Ls n lo' h x es := by
  obtain ⟨h1, h2⟩ := r
  rcases h1 with e | ⟨b, e, hb, hg⟩
  · exact ⟨.inl e, h2⟩
  · exact ⟨.inr ⟨b, e, by omega, hg⟩, h2⟩
theorem ls_lt {n lo : Nat} {h : AHeap} {x : AV} {es : List (List AV)} (r : Ls n lo h x es) {b off len : Nat} (e : x = .own b off len) : b < h.length := by
  rcases r.1 with ⟨e1, _⟩ | ⟨b', e1, _, hg⟩
  · rw [e1] at e; cases e
  · rw [e1] at e; injection e with e2; subst e2; exact lt_of_get hg
theorem hasB_iff (i : Iv) (t : Int) : hasB i t = true ↔ validIB i = true ∧ i.lo ≤ t ∧ t < i.hi := by
  simp [hasB, and_assoc]
theorem hasL_iff (t : Int) (l : List Iv) : hasL t l = true ↔ ∃ i ∈ l, hasB i t = true := by rw [hasL_eq, List.any_eq_true]
theorem hasL_app (t : Int) (l m : List Iv) : hasL t (l ++ m) = (hasL t l || hasL t m) := by simp [hasL_eq]
theorem hasL_perm {l m : List Iv} (h : l.Perm m) (t : Int) : hasL t l = hasL t m := by
  rw [Bool.eq_iff_iff, hasL_iff, hasL_iff]
  exact ⟨fun ⟨i, hi, hb⟩ => ⟨i, h.mem_iff.1 hi, hb⟩, fun ⟨i, hi, hb⟩ => ⟨i, h.mem_iff.2 hi, hb⟩⟩
/-- Valid intervals that do not touch, in their order. -/
structure Nf (l : List Iv) : Prop where
  ok : ∀ i ∈ l, validIB i = true
  asc : l.Pairwise fun a b => a.hi < b.lo
theorem validIB_iff (i : Iv) : validIB i = true ↔ 0 ≤ i.lo ∧ i.lo < i.hi ∧ i.hi ≤ 68719476736 := by
  simp [validIB, and_assoc]

/-! ### The union: a sorted list, put together -/
def stepJ (out : List Iv) (i : Iv) : List Iv := match out.getLast? with
  | some o => if i.lo ≤ o.hi then out.dropLast ++ [⟨o.lo, max o.hi i.hi⟩] else out ++ [i]
  | none => out ++ [i]
structure NfJ (out : List Iv) (b : Int) : Prop where
  nf : Nf out
  le : ∀ o ∈ out, o.lo ≤ b
theorem stepJ_ok {out : List Iv} {i : Iv} (h : NfJ out i.lo) (hi : validIB i = true) : NfJ (stepJ out i) i.lo ∧ ∀ t, hasL t (stepJ out i) = (hasL t out || hasB i t) := by
  have hv := (validIB_iff i).1 hi
  unfold stepJ
  rcases List.eq_nil_or_concat out with rfl | ⟨m, o, rfl⟩
  · refine ⟨⟨⟨by simpa using hi, by simp⟩, by simp⟩, fun t => by simp [hasL]⟩
  · simp only [List.concat_eq_append, List.getLast?_append, List.getLast?_singleton, Option.some_or, List.dropLast_concat] at *
    have ho := (validIB_iff o).1 (h.nf.ok o (by simp))
    have hol := h.le o (by simp)
    have hp := List.pairwise_append.1 h.nf.asc
    split
    · rename_i hle
      have hn : validIB ⟨o.lo, max o.hi i.hi⟩ = true := (validIB_iff _).2 (by simp only; omega)
      refine ⟨⟨⟨fun x hx => ?_, ?_⟩, fun x hx => ?_⟩, fun t => ?_⟩
      · rcases List.mem_append.1 hx with hx | hx
        · exact h.nf.ok x (by simp [hx])
        · obtain rfl := List.mem_singleton.1 hx; exact hn
      · rw [List.pairwise_append]
        exact ⟨hp.1, by simp, fun a ha b hb => by obtain rfl := List.mem_singleton.1 hb; exact hp.2.2 a ha o (by simp)⟩
      · rcases List.mem_append.1 hx with hx | hx
        · exact h.le x (by simp [hx])
        · obtain rfl := List.mem_singleton.1 hx; exact hol
      · rw [hasL_app, hasL_app, Bool.or_assoc]
        congr 1
        rw [Bool.eq_iff_iff]
        simp only [hasL, Bool.or_false, Bool.or_eq_true, hasB_iff, hn, hi, h.nf.ok o (by simp), true_and]
        omega
    · rename_i hgt
      refine ⟨⟨⟨fun x hx => ?_, ?_⟩, fun x hx => ?_⟩, fun t => ?_⟩
      · rcases List.mem_append.1 hx with hx | hx
        · exact h.nf.ok x hx
        · obtain rfl := List.mem_singleton.1 hx; exact hi
      · rw [List.pairwise_append]
        refine ⟨h.nf.asc, by simp, fun a ha b hb => ?_⟩
        obtain rfl := List.mem_singleton.1 hb
        rcases List.mem_append.1 ha with ha | ha
        · have := hp.2.2 a ha o (by simp); omega
        · obtain rfl := List.mem_singleton.1 ha; omega
      · rcases List.mem_append.1 hx with hx | hx
        · exact h.le x hx
        · obtain rfl := List.mem_singleton.1 hx; exact Int.le_refl _
      · rw [hasL_app]; simp [hasL]
theorem joinJ_ok : ∀ {l out : List Iv}, (∀ i ∈ l, validIB i = true) → (l.Pairwise fun a b => a.lo ≤ b.lo) → Nf out → (∀ o ∈ out, ∀ i ∈ l, o.lo ≤ i.lo) →
    Nf (l.foldl stepJ out) ∧ ∀ t, hasL t (l.foldl stepJ out) = (hasL t out || hasL t l)
  | [], out, _, _, hn, _ => ⟨hn, fun t => by simp [hasL]⟩
  | i :: l, out, hv, hs, hn, hl => by
    obtain ⟨h1, h2⟩ := stepJ_ok (i := i) ⟨hn, fun o ho => hl o ho i (by simp)⟩ (hv i (by simp))
    rw [List.pairwise_cons] at hs
    obtain ⟨q1, q2⟩ := joinJ_ok (l := l) (fun j hj => hv j (by simp [hj])) hs.2 h1.nf (fun o ho j hj => Int.le_trans (h1.le o ho) (hs.1 j hj))
    exact ⟨q1, fun t => by rw [List.foldl_cons, q2, h2, hasL, Bool.or_assoc]⟩

/-! ### The intersection -/
def cutM (a b : Iv) : List Iv := if max a.lo b.lo < min a.hi b.hi then [⟨max a.lo b.lo, min a.hi b.hi⟩] else []
def meetM : List Iv → List Iv → List Iv
  | a :: x, b :: y => if a.hi < b.hi then cutM a b ++ meetM x (b :: y) else cutM a b ++ meetM (a :: x) y
  | _, _ => []
termination_by x y => x.length + y.length
theorem cutM_has (a b : Iv) (ha : validIB a = true) (hb : validIB b = true) (t : Int) : hasL t (cutM a b) = (hasB a t && hasB b t) := by
  have h1 := (validIB_iff a).1 ha
  have h2 := (validIB_iff b).1 hb
  rw [Bool.eq_iff_iff]
  unfold cutM
  split
  · rename_i h
    have hn : validIB ⟨max a.lo b.lo, min a.hi b.hi⟩ = true := (validIB_iff _).2 (by simp only; omega)
    simp only [hasL, Bool.or_false, Bool.and_eq_true, hasB_iff, hn, ha, hb, true_and]
    omega
  · simp only [hasL, Bool.and_eq_true, hasB_iff, ha, hb, true_and]
    simp
    omega
theorem nf_cons {a : Iv} {x : List Iv} (h : Nf (a :: x)) : validIB a = true ∧ Nf x ∧ ∀ b ∈ x, a.hi < b.lo := by
  have := List.pairwise_cons.1 h.asc
  exact ⟨h.ok a (by simp), ⟨fun i hi => h.ok i (by simp [hi]), this.2⟩, this.1⟩
theorem meetM_has (t : Int) : ∀ (x y : List Iv), Nf x → Nf y → hasL t (meetM x y) = (hasL t x && hasL t y)
  | [], y, _, _ => by simp [meetM, hasL]
  | a :: x, [], _, _ => by simp [meetM, hasL]
  | a :: x, b :: y, hx, hy => by
    obtain ⟨a1, a2, a3⟩ := nf_cons hx
    obtain ⟨b1, b2, b3⟩ := nf_cons hy
    rw [meetM]
    split
    · rename_i h
      rw [hasL_app, cutM_has a b a1 b1, meetM_has t x (b :: y) a2 hy]
      simp only [hasL]
      cases ha : hasB a t with
      | false => simp
      | true =>
        have hy0 : hasL t y = false := by
          rw [← Bool.not_eq_true, hasL_iff]
          rintro ⟨c, hc, hh⟩
          have := b3 c hc
          have h1 := (hasB_iff _ _).1 hh
          have h2 := (hasB_iff _ _).1 ha
          omega
        rw [hy0]
        cases hasB b t <;> simp
    · rename_i h
      rw [hasL_app, cutM_has a b a1 b1, meetM_has t (a :: x) y hx b2]
      simp only [hasL]
      cases hb : hasB b t with
      | false => simp
      | true =>
        have hx0 : hasL t x = false := by
          rw [← Bool.not_eq_true, hasL_iff]
          rintro ⟨c, hc, hh⟩
          have := a3 c hc
          have h1 := (hasB_iff _ _).1 hh
          have h2 := (hasB_iff _ _).1 hb
          omega
        rw [hx0]
        cases hasB a t <;> simp
termination_by x y => x.length + y.length
end Go.Toll
end

section 

namespace Go.Toll
open Go Go.Abs

structure TDev where
  name : Bytes
  point : Bytes
  kind : Int
  lane : Int
  offs : List (List AV)
  down : List Iv
def encDev (d : TDev) : List AV := [.str d.name, .str d.point, .int .i64 d.kind, .int .i64 d.lane, .ro d.offs, .ro (d.down.map encIv)]
@[simp] theorem encDev_len (d : TDev) : (encDev d).length = 6 := rfl
def worksB (d : TDev) (t : Int) : Bool := isTimeB t && !hasL t d.down
end Go.Toll
end

section 

namespace Go.Toll
open Go Go.Abs

/-- The times at which all of these detectors are out of order. -/
def outB (L : List TDev) (t : Int) : Bool := decide (0 ≤ t) && decide (t < 68719476736) && L.all fun d => hasL t d.down
theorem outB_iff (L : List TDev) (t : Int) : outB L t = true ↔ 0 ≤ t ∧ t < 68719476736 ∧ ∀ d ∈ L, hasL t d.down = true := by
  simp [outB, and_assoc]
theorem outB_mem {L M : List TDev} (h : ∀ d, d ∈ L ↔ d ∈ M) (t : Int) : outB L t = outB M t := by
  rw [Bool.eq_iff_iff, outB_iff, outB_iff]
  simp only [h]
/-- Cuts: numbers in their order, from 0 to the last time. -/
structure CutsOk (c : List Int) : Prop where
  asc : c.Pairwise (· < ·)
  rng : ∀ x ∈ c, 0 ≤ x ∧ x ≤ 68719476736
  lo : (0 : Int) ∈ c
  hi : (68719476736 : Int) ∈ c
theorem cuts_start : CutsOk [0, 68719476736] := ⟨by simp, by simp, by simp, by simp⟩
theorem cuts_gap {c : List Int} (h : c.Pairwise (· < ·)) {i : Nat} {a b : Int} (ha : c[i]? = some a) (hb : c[i + 1]? = some b) : a < b ∧ ∀ x ∈ c, x ≤ a ∨ b ≤ x := by
  obtain ⟨i1, e1⟩ := List.getElem?_eq_some_iff.1 ha
  obtain ⟨i2, e2⟩ := List.getElem?_eq_some_iff.1 hb
  have hp := List.pairwise_iff_getElem.1 h
  refine ⟨by rw [← e1, ← e2]; exact hp i (i + 1) i1 i2 (by omega), fun x hx => ?_⟩
  obtain ⟨j, hj, rfl⟩ := List.getElem_of_mem hx
  rcases Nat.lt_trichotomy j i with q | rfl | q
  · left; rw [← e1]; exact Int.le_of_lt (hp j i hj i1 q)
  · left; rw [← e1]; exact Int.le_refl _
  · right
    rcases Nat.lt_or_ge (i + 1) j with q2 | q2
    · rw [← e2]; exact Int.le_of_lt (hp (i + 1) j i2 hj q2)
    · obtain rfl : j = i + 1 := by omega
      rw [← e2]; exact Int.le_refl _
theorem cuts_first {c : List Int} (h : CutsOk c) : c[0]? = some 0 := by
  obtain ⟨j, hj, e⟩ := List.getElem_of_mem h.lo
  have h0 : 0 < c.length := by omega
  rw [List.getElem?_eq_getElem h0]
  have hp := List.pairwise_iff_getElem.1 h.asc
  have r := h.rng c[0] (List.getElem_mem h0)
  rcases Nat.eq_zero_or_pos j with rfl | q
  · rw [e]
  · have := hp 0 j h0 hj q; rw [e] at this; omega
theorem cuts_last {c : List Int} (h : CutsOk c) {i : Nat} {a : Int} (ha : c[i]? = some a) (hi : c.length = i + 1) : a = 68719476736 := by
  obtain ⟨i1, e1⟩ := List.getElem?_eq_some_iff.1 ha
  obtain ⟨j, hj, e⟩ := List.getElem_of_mem h.hi
  have hp := List.pairwise_iff_getElem.1 h.asc
  have r := h.rng a (List.mem_of_getElem? ha)
  rcases Nat.lt_or_ge j i with q | q
  · have := hp j i hj i1 q; rw [e, e1] at this; omega
  · obtain rfl : j = i := by omega
    rw [← e1, e]
/-- All ends of a list's intervals are cuts. -/
def EndsIn (c : List Int) (l : List Iv) : Prop := ∀ v ∈ l, validIB v = true → v.lo ∈ c ∧ v.hi ∈ c
theorem hasL_gap {c : List Int} {l : List Iv} (he : EndsIn c l) {a b : Int} (hg : ∀ x ∈ c, x ≤ a ∨ b ≤ x) {t : Int} (h1 : a ≤ t) (h2 : t < b) : hasL t l = hasL a l := by
  rw [Bool.eq_iff_iff, hasL_iff, hasL_iff]
  constructor
  · rintro ⟨v, hv, hb⟩
    rw [hasB_iff] at hb
    obtain ⟨e1, e2⟩ := he v hv hb.1
    have g1 := hg _ e1
    have g2 := hg _ e2
    exact ⟨v, hv, (hasB_iff _ _).2 ⟨hb.1, by omega, by omega⟩⟩
  · rintro ⟨v, hv, hb⟩
    rw [hasB_iff] at hb
    obtain ⟨e1, e2⟩ := he v hv hb.1
    have g1 := hg _ e1
    have g2 := hg _ e2
    exact ⟨v, hv, (hasB_iff _ _).2 ⟨hb.1, by omega, by omega⟩⟩
/-- What is told of the outages up to a cut. -/
structure OutP (L : List TDev) (c : Int) (out : List Iv) : Prop where
  le : ∀ o ∈ out, validIB o = true ∧ o.hi ≤ c
  has : ∀ t, hasL t out = (decide (0 ≤ t) && decide (t < c) && L.all fun d => hasL t d.down)
theorem outP_start (L : List TDev) : OutP L 0 [] := ⟨by simp, fun t => by
  rw [hasL]
  rcases Int.lt_or_le t 0 with h | h
  · rw [decide_eq_false (by omega : ¬ 0 ≤ t)]; rfl
  · rw [decide_eq_false (by omega : ¬ t < 0), Bool.and_false]; rfl⟩
theorem works_any {L : List TDev} {c : Int} (h0 : isTimeB c = true) : (L.any fun d => worksB d c) = !(L.all fun d => hasL c d.down) := by
  rw [List.not_all_eq_any_not]
  simp [worksB, h0]
section
variable {L : List TDev} {cuts : List Int} {a b : Int} {out : List Iv}
theorem outP_skip (h : OutP L a out) (he : ∀ d ∈ L, EndsIn cuts d.down) (hab : a < b) (hg : ∀ x ∈ cuts, x ≤ a ∨ b ≤ x) (hw : (L.all fun d => hasL a d.down) = false) : OutP L b out := by
  refine ⟨fun o ho => ⟨(h.le o ho).1, by have := (h.le o ho).2; omega⟩, fun t => ?_⟩
  rw [h.has]
  rcases Int.lt_or_le t a with q | q
  · rw [decide_eq_true q, decide_eq_true (by omega : t < b)]
  · rw [decide_eq_false (by omega : ¬ t < a)]
    rcases Int.lt_or_le t b with q2 | q2
    · have : (L.all fun d => hasL t d.down) = false := by
        rw [List.all_eq_false] at hw ⊢
        obtain ⟨d, hd, hn⟩ := hw
        exact ⟨d, hd, by rw [hasL_gap (he d hd) hg q q2]; exact hn⟩
      simp [this]
    · rw [decide_eq_false (by omega : ¬ t < b)]
theorem outP_tell (h : OutP L a out) (he : ∀ d ∈ L, EndsIn cuts d.down) (h0 : 0 ≤ a) (hab : a < b) (hg : ∀ x ∈ cuts, x ≤ a ∨ b ≤ x) (hw : (L.all fun d => hasL a d.down) = true) (t : Int) :
    (hasL t out || (decide (a ≤ t) && decide (t < b))) = (decide (0 ≤ t) && decide (t < b) && L.all fun d => hasL t d.down) := by
  rw [h.has]
  rcases Int.lt_or_le t a with q | q
  · rw [decide_eq_true q, decide_eq_true (by omega : t < b), decide_eq_false (by omega : ¬ a ≤ t), Bool.false_and, Bool.or_false]
  · rw [decide_eq_false (by omega : ¬ t < a), decide_eq_true q, Bool.and_false, Bool.false_and, Bool.false_or, Bool.true_and]
    rcases Int.lt_or_le t b with q2 | q2
    · have : (L.all fun d => hasL t d.down) = true := by
        rw [List.all_eq_true] at hw ⊢
        exact fun d hd => by rw [hasL_gap (he d hd) hg q q2]; exact hw d hd
      rw [this, decide_eq_true q2, decide_eq_true (by omega : 0 ≤ t)]; rfl
    · rw [decide_eq_false (by omega : ¬ t < b), Bool.and_false, Bool.false_and]
theorem outP_new (h : OutP L a out) (he : ∀ d ∈ L, EndsIn cuts d.down) (h0 : 0 ≤ a) (hab : a < b) (hb : b ≤ 68719476736) (hg : ∀ x ∈ cuts, x ≤ a ∨ b ≤ x) (hw : (L.all fun d => hasL a d.down) = true) : OutP L b (out ++ [⟨a, b⟩]) := by
  have hv : validIB ⟨a, b⟩ = true := (validIB_iff _).2 (by simp only; omega)
  refine ⟨fun o ho => ?_, fun t => ?_⟩
  · rcases List.mem_append.1 ho with ho | ho
    · exact ⟨(h.le o ho).1, by have := (h.le o ho).2; omega⟩
    · obtain rfl := List.mem_singleton.1 ho; exact ⟨hv, Int.le_refl _⟩
  · rw [hasL_app, ← outP_tell h he h0 hab hg hw t]
    congr 1
    rw [Bool.eq_iff_iff]
    simp [hasL, hasB_iff, hv]
theorem outP_more {m : List Iv} {o : Iv} (h : OutP L a (m ++ [o])) (ho : o.hi = a) (he : ∀ d ∈ L, EndsIn cuts d.down) (h0 : 0 ≤ a) (hab : a < b) (hb : b ≤ 68719476736) (hg : ∀ x ∈ cuts, x ≤ a ∨ b ≤ x) (hw : (L.all fun d => hasL a d.down) = true) : OutP L b (m ++ [⟨o.lo, b⟩]) := by
  have h1 := h.le o (by simp)
  have hv1 := (validIB_iff o).1 h1.1
  have hv : validIB ⟨o.lo, b⟩ = true := (validIB_iff _).2 (by simp only; omega)
  refine ⟨fun x hx => ?_, fun t => ?_⟩
  · rcases List.mem_append.1 hx with hx | hx
    · exact ⟨(h.le x (by simp [hx])).1, by have := (h.le x (by simp [hx])).2; omega⟩
    · obtain rfl := List.mem_singleton.1 hx; exact ⟨hv, Int.le_refl _⟩
  · rw [← outP_tell h he h0 hab hg hw t, hasL_app, hasL_app, Bool.or_assoc]
    congr 1
    rw [Bool.eq_iff_iff]
    simp only [hasL, Bool.or_false, Bool.or_eq_true, hasB_iff, hv, h1.1, true_and, Bool.and_eq_true, decide_eq_true_eq]
    omega
theorem outP_end (h : OutP L 68719476736 out) (t : Int) : hasL t out = outB L t := h.has t
end
end Go.Toll
end
