/-
  Stable sorting over lists: one result alone is sorted and keeps the order of equals; how a merge by rotation comes to it.
-/
import Derived.Test.YtillfoacekifbaaDoorAbsSort
set_option linter.unusedVariables false
set_option linter.unusedSimpArgs false
namespace Go.Toll
open Go Go.Abs

section
variable {α : Type} {lt : α → α → Bool}

/-- A comparison that orders up to equals. -/
structure SWO (lt : α → α → Bool) : Prop where
  asymm : ∀ a b, lt a b = true → lt b a = false
  trans : ∀ a b c, lt a b = false → lt b c = false → lt a c = false

theorem SWO.irrefl (o : SWO lt) (a : α) : lt a a = false := by
  cases h : lt a a with
  | false => rfl
  | true => have := o.asymm a a h; rw [h] at this; cases this
/-- a ≤ b < c. -/
theorem SWO.le_lt (o : SWO lt) {a b c : α} (h1 : lt b a = false) (h2 : lt b c = true) : lt a c = true := by
  cases h : lt a c with
  | true => rfl
  | false =>
    have := o.trans b a c h1 h
    rw [h2] at this; cases this
theorem SWO.lt_le (o : SWO lt) {a b c : α} (h1 : lt a b = true) (h2 : lt c b = false) : lt a c = true := by
  cases h : lt a c with
  | true => rfl
  | false =>
    have := o.trans a c b h h2
    rw [h1] at this; cases this

def eqvB (lt : α → α → Bool) (a b : α) : Bool := !lt a b && !lt b a
def Srt (lt : α → α → Bool) (l : List α) : Prop := l.Pairwise fun a b => lt b a = false

theorem eqvB_self (o : SWO lt) (a : α) : eqvB lt a a = true := by simp [eqvB, o.irrefl a]

/-- Sorted lists with the same equals in the same order are one. -/
theorem Srt.uniq (o : SWO lt) : ∀ {z z' : List α}, Srt lt z → Srt lt z' → (∀ a, z.filter (eqvB lt a) = z'.filter (eqvB lt a)) → z = z'
  | [], [], _, _, _ => rfl
  | [], b :: l, _, _, h => by have := h b; simp [eqvB_self o] at this
  | a :: l, [], _, _, h => by have := h a; simp [eqvB_self o] at this
  | x :: xs, y :: ys, h1, h2, h => by
    have p1 := List.pairwise_cons.1 h1
    have p2 := List.pairwise_cons.1 h2
    have hxy : x = y := by
      by_cases e : eqvB lt x y = true
      · have := h x
        rw [List.filter_cons, if_pos (eqvB_self o x), List.filter_cons, if_pos e] at this
        exact (List.cons.inj this).1
      · exfalso
        have hx : x ∈ (y :: ys).filter (eqvB lt x) := by rw [← h x]; simp [eqvB_self o]
        have hy : y ∈ (x :: xs).filter (eqvB lt y) := by rw [h y]; simp [eqvB_self o]
        have hx' := (List.mem_filter.1 hx).1
        have hy' := (List.mem_filter.1 hy).1
        have l1 : lt x y = false := by
          rcases List.mem_cons.1 hx' with rfl | hm
          · exact o.irrefl x
          · exact p2.1 x hm
        have l2 : lt y x = false := by
          rcases List.mem_cons.1 hy' with rfl | hm
          · exact o.irrefl y
          · exact p1.1 y hm
        exact e (by simp [eqvB, l1, l2])
    subst hxy
    congr 1
    refine Srt.uniq o p1.2 p2.2 fun a => ?_
    have := h a
    rw [List.filter_cons, List.filter_cons] at this
    split at this
    · exact (List.cons.inj this).2
    · exact this

/-- Sorted, and the equals of l in their order. -/
def Stab (lt : α → α → Bool) (l z : List α) : Prop := Srt lt z ∧ ∀ a, z.filter (eqvB lt a) = l.filter (eqvB lt a)

theorem eqvB_lt (o : SWO lt) {a x y : α} (hx : eqvB lt a x = true) (hxy : lt x y = true) : eqvB lt a y = false := by
  simp only [eqvB, Bool.and_eq_true, Bool.not_eq_true'] at hx
  have := o.le_lt (a := a) (b := x) (c := y) hx.2 hxy
  simp [eqvB, this]
theorem eqvB_lt' (o : SWO lt) {a x y : α} (hx : eqvB lt a x = true) (hxy : lt y x = true) : eqvB lt a y = false := by
  simp only [eqvB, Bool.and_eq_true, Bool.not_eq_true'] at hx
  have := o.lt_le (a := y) (b := x) (c := a) hxy hx.1
  simp [eqvB, this]

/-- What lies behind x, all of it greater: x may be put ahead of it. -/
theorem filter_swap (o : SWO lt) {a x : α} {B : List α} (h : ∀ y ∈ B, lt x y = true ∨ lt y x = true) : ([x] ++ B).filter (eqvB lt a) = (B ++ [x]).filter (eqvB lt a) := by
  rw [List.filter_append, List.filter_append]
  by_cases hx : eqvB lt a x = true
  · have : B.filter (eqvB lt a) = [] := by
      rw [List.filter_eq_nil_iff]
      intro y hy
      rcases h y hy with h | h
      · simp [eqvB_lt o hx h]
      · simp [eqvB_lt' o hx h]
    simp [this]
  · simp [hx]
theorem filter_swapL (o : SWO lt) {a : α} {A B : List α} (h : ∀ x ∈ A, ∀ y ∈ B, lt x y = true ∨ lt y x = true) : (A ++ B).filter (eqvB lt a) = (B ++ A).filter (eqvB lt a) := by
  induction A with
  | nil => simp
  | cons x A ih =>
    have h1 := filter_swap o (a := a) (h x (by simp))
    have h2 := ih fun x hx => h x (by simp [hx])
    have e1 : (x :: A ++ B).filter (eqvB lt a) = [x].filter (eqvB lt a) ++ (A ++ B).filter (eqvB lt a) := by
      rw [← List.filter_append]; rfl
    rw [e1, h2, List.filter_append, ← List.append_assoc, ← List.filter_append, h1, List.filter_append, List.append_assoc, ← List.filter_append, ← List.filter_append]
    rfl

theorem insK_spec (o : SWO lt) (x : α) (l : List α) (hl : Srt lt l) : ∀ k, k ≤ l.length → insK lt x l k ≤ k ∧ (∀ i y, i < insK lt x l k → l[i]? = some y → lt x y = false) ∧ (∀ i y, insK lt x l k ≤ i → i < k → l[i]? = some y → lt x y = true)
  | 0, _ => ⟨Nat.le_refl _, by simp [insK], by omega⟩
  | k + 1, hk => by
    obtain ⟨y, hy⟩ : ∃ y, l[k]? = some y := ⟨_, List.getElem?_eq_getElem (by omega)⟩
    rw [insK, hy]
    simp only
    obtain ⟨h1, h2, h3⟩ := insK_spec o x l hl k (by omega)
    cases hxy : lt x y with
    | true =>
      simp only [if_true]
      refine ⟨by omega, h2, fun i z hi hik hz => ?_⟩
      by_cases e : i = k
      · subst e; rw [hy] at hz; injection hz with hz; rw [← hz]; exact hxy
      · exact h3 i z hi (by omega) hz
    | false =>
      simp only [Bool.false_eq_true, if_false]
      refine ⟨Nat.le_refl _, fun i z hi hz => ?_, by omega⟩
      by_cases e : i = k
      · subst e; rw [hy] at hz; injection hz with hz; rw [← hz]; exact hxy
      · have hzy : lt y z = false := by
          have := List.pairwise_iff_getElem.1 hl i k (by omega) (by omega) (by omega)
          have e1 := List.getElem?_eq_some_iff.1 hy
          have e2 := List.getElem?_eq_some_iff.1 hz
          rw [← e1.2, ← e2.2]; exact this
        exact o.trans x y z hxy hzy

theorem insR_stab (o : SWO lt) {x : α} {l l₀ : List α} (h : Stab lt l₀ l) : Stab lt (l₀ ++ [x]) (insR lt x l) := by
  obtain ⟨hs, hf⟩ := h
  obtain ⟨h1, h2, h3⟩ := insK_spec o x l hs l.length (Nat.le_refl _)
  unfold insR
  generalize insK lt x l l.length = k at h1 h2 h3
  have ht : ∀ y ∈ l.take k, lt x y = false := by
    intro y hy
    obtain ⟨i, hi⟩ := List.getElem?_of_mem hy
    rw [List.getElem?_take] at hi
    split at hi
    · rename_i hik; exact h2 i y hik hi
    · cases hi
  have hd : ∀ y ∈ l.drop k, lt x y = true := by
    intro y hy
    obtain ⟨i, hi⟩ := List.getElem?_of_mem hy
    rw [List.getElem?_drop] at hi
    exact h3 (k + i) y (by omega) (List.getElem?_eq_some_iff.1 hi).1 hi
  have hs' : Srt lt (l.take k ++ l.drop k) := by rw [List.take_append_drop]; exact hs
  have hp := List.pairwise_append.1 hs'
  refine ⟨?_, fun a => ?_⟩
  · refine List.pairwise_append.2 ⟨hp.1, List.pairwise_cons.2 ⟨fun y hy => o.asymm _ _ (hd y hy), hp.2.1⟩, fun y hy z hz => ?_⟩
    rcases List.mem_cons.1 hz with rfl | hz
    · exact ht y hy
    · exact hp.2.2 y hy z hz
  · have e1 : l.take k ++ x :: l.drop k = l.take k ++ ([x] ++ l.drop k) := rfl
    rw [e1, List.filter_append, filter_swap o (fun y hy => .inl (hd y hy)), ← List.filter_append, ← List.append_assoc, List.take_append_drop, List.filter_append, List.filter_append, hf]

theorem sortR_stab (o : SWO lt) (l : List α) : Stab lt l (sortR lt l) := by
  have : ∀ (l acc acc₀ : List α), Stab lt acc₀ acc → Stab lt (acc₀ ++ l) (l.foldl (fun acc x => insR lt x acc) acc) := by
    intro l
    induction l with
    | nil => intro acc acc₀ h; simpa using h
    | cons x l ih =>
      intro acc acc₀ h
      have := ih _ _ (insR_stab o (x := x) h)
      simpa using this
  simpa [sortR] using this l [] [] ⟨List.Pairwise.nil, fun a => rfl⟩

theorem Stab.eq (o : SWO lt) {l z : List α} (h : Stab lt l z) : z = sortR lt l :=
  Srt.uniq o h.1 (sortR_stab o l).1 fun a => (h.2 a).trans ((sortR_stab o l).2 a).symm
theorem sortR_of_srt (o : SWO lt) {l : List α} (h : Srt lt l) : sortR lt l = l := (Stab.eq o ⟨h, fun _ => rfl⟩).symm
theorem sortR_srt (o : SWO lt) (l : List α) : Srt lt (sortR lt l) := (sortR_stab o l).1

/-- One ahead of a sorted list. -/
theorem merge_one (o : SWO lt) {x : α} {y1 y2 : List α} (hs : Srt lt (y1 ++ y2)) (h1 : ∀ y ∈ y1, lt y x = true) (h2 : ∀ y ∈ y2, lt y x = false) : y1 ++ x :: y2 = sortR lt (x :: (y1 ++ y2)) := by
  have hp := List.pairwise_append.1 hs
  refine Stab.eq o ⟨?_, fun a => ?_⟩
  · refine List.pairwise_append.2 ⟨hp.1, List.pairwise_cons.2 ⟨h2, hp.2.1⟩, fun y hy z hz => ?_⟩
    rcases List.mem_cons.1 hz with rfl | hz
    · exact o.asymm _ _ (h1 y hy)
    · exact hp.2.2 y hy z hz
  · have e1 : y1 ++ x :: y2 = (y1 ++ [x]) ++ y2 := by simp
    have e2 : x :: (y1 ++ y2) = ([x] ++ y1) ++ y2 := rfl
    rw [e1, e2, List.filter_append (p := eqvB lt a) (y1 ++ [x]), List.filter_append (p := eqvB lt a) ([x] ++ y1), filter_swap o (fun y hy => .inr (h1 y hy))]
/-- One behind a sorted list. -/
theorem merge_last (o : SWO lt) {y : α} {x1 x2 : List α} (hs : Srt lt (x1 ++ x2)) (h1 : ∀ x ∈ x1, lt y x = false) (h2 : ∀ x ∈ x2, lt y x = true) : x1 ++ y :: x2 = sortR lt (x1 ++ x2 ++ [y]) := by
  have hp := List.pairwise_append.1 hs
  refine Stab.eq o ⟨?_, fun a => ?_⟩
  · refine List.pairwise_append.2 ⟨hp.1, List.pairwise_cons.2 ⟨fun z hz => o.asymm _ _ (h2 z hz), hp.2.1⟩, fun x hx z hz => ?_⟩
    rcases List.mem_cons.1 hz with rfl | hz
    · exact h1 x hx
    · exact hp.2.2 x hx z hz
  · have e1 : x1 ++ y :: x2 = x1 ++ ([y] ++ x2) := by simp
    rw [e1, List.append_assoc, List.filter_append (p := eqvB lt a) x1, filter_swap o (fun z hz => .inl (h2 z hz)), ← List.filter_append]
/-- Two sorted lists, each cut in two; the inner parts change places; each half is merged. -/
theorem merge_cut (o : SWO lt) {x1 x2 y1 y2 : List α} (hx : Srt lt (x1 ++ x2)) (hy : Srt lt (y1 ++ y2)) (h1 : ∀ x ∈ x2, ∀ y ∈ y1, lt y x = true) (h2 : ∀ x ∈ x1, ∀ y ∈ y2, lt y x = false) :
    sortR lt (x1 ++ y1) ++ sortR lt (x2 ++ y2) = sortR lt ((x1 ++ x2) ++ (y1 ++ y2)) := by
  have px := List.pairwise_append.1 hx
  have py := List.pairwise_append.1 hy
  refine Stab.eq o ⟨?_, fun a => ?_⟩
  · refine List.pairwise_append.2 ⟨sortR_srt o _, sortR_srt o _, fun u hu v hv => ?_⟩
    rw [mem_sortR, List.mem_append] at hu hv
    rcases hu with hu | hu <;> rcases hv with hv | hv
    · exact px.2.2 u hu v hv
    · exact h2 u hu v hv
    · exact o.asymm _ _ (h1 v hv u hu)
    · exact py.2.2 u hu v hv
  · have e1 := (sortR_stab o (x1 ++ y1)).2 a
    have e2 := (sortR_stab o (x2 ++ y2)).2 a
    rw [List.filter_append, e1, e2, ← List.filter_append]
    have e3 : x1 ++ y1 ++ (x2 ++ y2) = x1 ++ ((y1 ++ x2) ++ y2) := by simp
    have e4 : x1 ++ x2 ++ (y1 ++ y2) = x1 ++ ((x2 ++ y1) ++ y2) := by simp
    rw [e3, e4, List.filter_append, List.filter_append (p := eqvB lt a) x1, List.filter_append (p := eqvB lt a) (y1 ++ x2), List.filter_append (p := eqvB lt a) (x2 ++ y1), filter_swapL o (fun y hy x hx => .inl (h1 x hx y hy))]
end
end Go.Toll
