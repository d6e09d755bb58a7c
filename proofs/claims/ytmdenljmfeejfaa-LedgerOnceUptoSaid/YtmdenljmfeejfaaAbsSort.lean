/-
  Insertion sort over lists, as the library's sort does it in a block.
  Stable sorting over lists: one result alone is sorted and keeps the order of equals; how a merge by rotation comes to it.
  Sorting in blocks and merging them, over lists; cells that change places; a search by halves.
  Comparisons that answer a number: numbers, strings of bytes, one after the other.
-/
import Derived.Test.YtmdenljmfeejfaaAbsWp
import Derived.Test.YtmdenljmfeejfaaTollBase
set_option linter.unusedVariables false
set_option linter.unusedSimpArgs false

section 

namespace Go.Toll
open Go Go.Abs

section
variable {α : Type}
/-- The place of x in the first k of l: behind the last that x is not before. -/
def insK (lt : α → α → Bool) (x : α) (l : List α) : Nat → Nat
  | 0 => 0
  | k + 1 => match l[k]? with
    | some y => if lt x y then insK lt x l k else k + 1
    | none => k + 1
def insR (lt : α → α → Bool) (x : α) (l : List α) : List α := l.take (insK lt x l l.length) ++ x :: l.drop (insK lt x l l.length)
def sortR (lt : α → α → Bool) (l : List α) : List α := l.foldl (fun acc x => insR lt x acc) []

theorem insR_length (lt : α → α → Bool) (x : α) (l : List α) : (insR lt x l).length = l.length + 1 := by
  simp [insR]; omega
theorem sortR_length (lt : α → α → Bool) (l : List α) : (sortR lt l).length = l.length := by
  have : ∀ (l acc : List α), (l.foldl (fun acc x => insR lt x acc) acc).length = acc.length + l.length := by
    intro l
    induction l with
    | nil => simp
    | cons x l ih => intro acc; simp [ih, insR_length]; omega
  simpa [sortR] using this l []
theorem mem_insR (lt : α → α → Bool) {x y : α} {l : List α} : y ∈ insR lt x l ↔ y = x ∨ y ∈ l := by
  unfold insR
  generalize insK lt x l l.length = k
  have : y ∈ l ↔ y ∈ l.take k ∨ y ∈ l.drop k := by rw [← List.mem_append, List.take_append_drop]
  rw [this]
  simp only [List.mem_append, List.mem_cons]
  constructor
  · rintro (h | h | h)
    · exact .inr (.inl h)
    · exact .inl h
    · exact .inr (.inr h)
  · rintro (h | h | h)
    · exact .inr (.inl h)
    · exact .inl h
    · exact .inr (.inr h)
theorem mem_sortR (lt : α → α → Bool) {y : α} {l : List α} : y ∈ sortR lt l ↔ y ∈ l := by
  have : ∀ (l acc : List α), y ∈ l.foldl (fun acc x => insR lt x acc) acc ↔ y ∈ acc ∨ y ∈ l := by
    intro l
    induction l with
    | nil => simp
    | cons x l ih =>
      intro acc
      simp only [List.foldl_cons, ih, mem_insR, List.mem_cons]
      constructor
      · rintro ((h | h) | h)
        · exact .inr (.inl h)
        · exact .inl h
        · exact .inr (.inr h)
      · rintro (h | h | h)
        · exact .inl (.inr h)
        · exact .inl (.inl h)
        · exact .inr h
  simpa [sortR] using this l []
theorem sortR_take_succ (lt : α → α → Bool) {l : List α} {i : Nat} {x : α} (h : l[i]? = some x) : sortR lt (l.take (i + 1)) = insR lt x (sortR lt (l.take i)) := by
  have : l.take (i + 1) = l.take i ++ [x] := by
    rw [List.take_add_one, h]; rfl
  simp [sortR, this]

theorem app_add (a b : List α) (k : Nat) : (a ++ b)[a.length + k]? = b[k]? := by
  rw [List.getElem?_append_right (by omega)]
  congr 1; omega

/-- A block in which x is on its way down. -/
def sinkB (pre l post : List α) (x : α) (j : Nat) : List α := pre ++ (l.take j ++ x :: l.drop j) ++ post

theorem sinkB_x {pre l post : List α} {x : α} {j : Nat} (hj : j ≤ l.length) : (sinkB pre l post x j)[pre.length + j]? = some x := by
  unfold sinkB
  rw [List.append_assoc, List.getElem?_append_right (by omega)]
  have : pre.length + j - pre.length = j := by omega
  rw [this, List.append_assoc, List.getElem?_append_right (by simp; omega)]
  simp [Nat.min_eq_left hj]
theorem sinkB_y {pre l post : List α} {x : α} {j : Nat} (hj : j < l.length) : (sinkB pre l post x (j + 1))[pre.length + j]? = l[j]? := by
  unfold sinkB
  rw [List.append_assoc, List.getElem?_append_right (by omega)]
  have : pre.length + j - pre.length = j := by omega
  rw [this, List.append_assoc, List.getElem?_append_left (by simp; omega), List.getElem?_take]
  simp
theorem sinkB_length {pre l post : List α} {x : α} {j : Nat} : (sinkB pre l post x j).length = pre.length + l.length + 1 + post.length := by
  simp [sinkB]; omega
theorem sinkB_swap {pre l post : List α} {x y : α} {j : Nat} (hj : l[j]? = some y) : ((sinkB pre l post x (j + 1)).set (pre.length + (j + 1)) y).set (pre.length + j) x = sinkB pre l post x j := by
  obtain ⟨hlt, hy⟩ := List.getElem?_eq_some_iff.1 hj
  apply List.ext_getElem?
  intro i
  rw [List.getElem?_set, List.getElem?_set, List.length_set]
  simp only [sinkB_length]
  unfold sinkB
  have ht : l.take (j + 1) = l.take j ++ [y] := by rw [List.take_add_one, hj]; rfl
  have hd : l.drop j = y :: l.drop (j + 1) := by rw [← hy]; exact List.drop_eq_getElem_cons hlt
  rw [ht, hd]
  simp only [List.append_assoc, List.cons_append, List.nil_append]
  rcases Nat.lt_or_ge i pre.length with h1 | h1
  · rw [if_neg (by omega), if_neg (by omega), List.getElem?_append_left h1, List.getElem?_append_left h1]
  obtain ⟨k, rfl⟩ := Nat.exists_eq_add_of_le h1
  have hm : (l.take j).length = j := by simp; omega
  rw [app_add, app_add]
  rcases Nat.lt_or_ge k j with h2 | h2
  · rw [if_neg (by omega), if_neg (by omega), List.getElem?_append_left (by omega), List.getElem?_append_left (by omega)]
  obtain ⟨m, rfl⟩ := Nat.exists_eq_add_of_le h2
  have e1 : ∀ z : List α, (l.take j ++ z)[j + m]? = z[m]? := fun z => by
    have := app_add (l.take j) z m
    rwa [hm] at this
  rw [e1, e1]
  match m with
  | 0 => rw [if_pos (by omega), if_pos (by omega)]; rfl
  | 1 => rw [if_neg (by omega), if_pos (by omega), if_pos (by omega)]; rfl
  | m + 2 => rw [if_neg (by omega), if_neg (by omega)]; rfl
end
end Go.Toll
end

section 

namespace Go.Toll
open Go Go.Abs

section
variable {α : Type} {lt : α → α → Bool}

/-- A comparison that orders up to equals. -/
structure SWO (lt : α → α → Bool) : Prop where
  asymm : ∀ a b, lt a b = true → lt b a = false
  trans : ∀ a b c, lt a b = false → lt b c = false → lt a c = false

theorem SWO.irrefl (o : SWO lt) (a : α) : lt a a = false := by
  cases h : lt a a with
  | false => rfl
  | true => have := o.asymm a a h; rw [h] at this; cases this
/-- a ≤ b < c. -/
theorem SWO.le_lt (o : SWO lt) {a b c : α} (h1 : lt b a = false) (h2 : lt b c = true) : lt a c = true := by
  cases h : lt a c with
  | true => rfl
  | false =>
    have := o.trans b a c h1 h
    rw [h2] at this; cases this
theorem SWO.lt_le (o : SWO lt) {a b c : α} (h1 : lt a b = true) (h2 : lt c b = false) : lt a c = true := by
  cases h : lt a c with
  | true => rfl
  | false =>
    have := o.trans a c b h h2
    rw [h1] at this; cases this

def eqvB (lt : α → α → Bool) (a b : α) : Bool := !lt a b && !lt b a
def Srt (lt : α → α → Bool) (l : List α) : Prop := l.Pairwise fun a b => lt b a = false

theorem eqvB_self (o : SWO lt) (a : α) : eqvB lt a a = true := by simp [eqvB, o.irrefl a]

/-- Sorted lists with the same equals in the same order are one. -/
theorem Srt.uniq (o : SWO lt) : ∀ {z z' : List α}, Srt lt z → Srt lt z' → (∀ a, z.filter (eqvB lt a) = z'.filter (eqvB lt a)) → z = z'
  | [], [], _, _, _ => rfl
  | [], b :: l, _, _, h => by have := h b; simp [eqvB_self o] at this
  | a :: l, [], _, _, h => by have := h a; simp [eqvB_self o] at this
  | x :: xs, y :: ys, h1, h2, h => by
    have p1 := List.pairwise_cons.1 h1
    have p2 := List.pairwise_cons.1 h2
    have hxy : x = y := by
      by_cases e : eqvB lt x y = true
      · have := h x
        rw [List.filter_cons, if_pos (eqvB_self o x), List.filter_cons, if_pos e] at this
        exact (List.cons.inj this).1
      · exfalso
        have hx : x ∈ (y :: ys).filter (eqvB lt x) := by rw [← h x]; simp [eqvB_self o]
        have hy : y ∈ (x :: xs).filter (eqvB lt y) := by rw [h y]; simp [eqvB_self o]
        have hx' := (List.mem_filter.1 hx).1
        have hy' := (List.mem_filter.1 hy).1
        have l1 : lt x y = false := by
          rcases List.mem_cons.1 hx' with rfl | hm
          · exact o.irrefl x
          · exact p2.1 x hm
        have l2 : lt y x = false := by
          rcases List.mem_cons.1 hy' with rfl | hm
          · exact o.irrefl y
          · exact p1.1 y hm
        exact e (by simp [eqvB, l1, l2])
    subst hxy
    congr 1
    refine Srt.uniq o p1.2 p2.2 fun a => ?_
    have := h a
    rw [List.filter_cons, List.filter_cons] at this
    split at this
    · exact (List.cons.inj this).2
    · exact this

/-- Sorted, and the equals of l in their order. -/
def Stab (lt : α → α → Bool) (l z : List α) : Prop := Srt lt z ∧ ∀ a, z.filter (eqvB lt a) = l.filter (eqvB lt a)

theorem eqvB_lt (o : SWO lt) {a x y : α} (hx : eqvB lt a x = true) (hxy : lt x y = true) : eqvB lt a y = false := by
  simp only [eqvB, Bool.and_eq_true, Bool.not_eq_true'] at hx
  have := o.le_lt (a := a) (b := x) (c := y) hx.2 hxy
  simp [eqvB, this]
theorem eqvB_lt' (o : SWO lt) {a x y : α} (hx : eqvB lt a x = true) (hxy : lt y x = true) : eqvB lt a y = false := by
  simp only [eqvB, Bool.and_eq_true, Bool.not_eq_true'] at hx
  have := o.lt_le (a := y) (b := x) (c := a) hxy hx.1
  simp [eqvB, this]

/-- What lies behind x, all of it greater: x may be put ahead of it. -/
theorem filter_swap (o : SWO lt) {a x : α} {B : List α} (h : ∀ y ∈ B, lt x y = true ∨ lt y x = true) : ([x] ++ B).filter (eqvB lt a) = (B ++ [x]).filter (eqvB lt a) := by
  rw [List.filter_append, List.filter_append]
  by_cases hx : eqvB lt a x = true
  · have : B.filter (eqvB lt a) = [] := by
      rw [List.filter_eq_nil_iff]
      intro y hy
      rcases h y hy with h | h
      · simp [eqvB_lt o hx h]
      · simp [eqvB_lt' o hx h]
    simp [this]
  · simp [hx]
theorem filter_swapL (o : SWO lt) {a : α} {A B : List α} (h : ∀ x ∈ A, ∀ y ∈ B, lt x y = true ∨ lt y x = true) : (A ++ B).filter (eqvB lt a) = (B ++ A).filter (eqvB lt a) := by
  induction A with
  | nil => simp
  | cons x A ih =>
    have h1 := filter_swap o (a := a) (h x (by simp))
    have h2 := ih fun x hx => h x (by simp [hx])
    have e1 : (x :: A ++ B).filter (eqvB lt a) = [x].filter (eqvB lt a) ++ (A ++ B).filter (eqvB lt a) := by
      rw [← List.filter_append]; rfl
    rw [e1, h2, List.filter_append, ← List.append_assoc, ← List.filter_append, h1, List.filter_append, List.append_assoc, ← List.filter_append, ← List.filter_append]
    rfl

theorem insK_spec (o : SWO lt) (x : α) (l : List α) (hl : Srt lt l) : ∀ k, k ≤ l.length → insK lt x l k ≤ k ∧ (∀ i y, i < insK lt x l k → l[i]? = some y → lt x y = false) ∧ (∀ i y, insK lt x l k ≤ i → i < k → l[i]? = some y → lt x y = true)
  | 0, _ => ⟨Nat.le_refl _, by simp [insK], by omega⟩
  | k + 1, hk => by
    obtain ⟨y, hy⟩ : ∃ y, l[k]? = some y := ⟨_, List.getElem?_eq_getElem (by omega)⟩
    rw [insK, hy]
    simp only
    obtain ⟨h1, h2, h3⟩ := insK_spec o x l hl k (by omega)
    cases hxy : lt x y with
    | true =>
      simp only [if_true]
      refine ⟨by omega, h2, fun i z hi hik hz => ?_⟩
      by_cases e : i = k
      · subst e; rw [hy] at hz; injection hz with hz; rw [← hz]; exact hxy
      · exact h3 i z hi (by omega) hz
    | false =>
      simp only [Bool.false_eq_true, if_false]
      refine ⟨Nat.le_refl _, fun i z hi hz => ?_, by omega⟩
      by_cases e : i = k
      · subst e; rw [hy] at hz; injection hz with hz; rw [← hz]; exact hxy
      · have hzy : lt y z = false := by
          have := List.pairwise_iff_getElem.1 hl i k (by omega) (by omega) (by omega)
          have e1 := List.getElem?_eq_some_iff.1 hy
          have e2 := List.getElem?_eq_some_iff.1 hz
          rw [← e1.2, ← e2.2]; exact this
        exact o.trans x y z hxy hzy

theorem insR_stab (o : SWO lt) {x : α} {l l₀ : List α} (h : Stab lt l₀ l) : Stab lt (l₀ ++ [x]) (insR lt x l) := by
  obtain ⟨hs, hf⟩ := h
  obtain ⟨h1, h2, h3⟩ := insK_spec o x l hs l.length (Nat.le_refl _)
  unfold insR
  generalize insK lt x l l.length = k at h1 h2 h3
  have ht : ∀ y ∈ l.take k, lt x y = false := by
    intro y hy
    obtain ⟨i, hi⟩ := List.getElem?_of_mem hy
    rw [List.getElem?_take] at hi
    split at hi
    · rename_i hik; exact h2 i y hik hi
    · cases hi
  have hd : ∀ y ∈ l.drop k, lt x y = true := by
    intro y hy
    obtain ⟨i, hi⟩ := List.getElem?_of_mem hy
    rw [List.getElem?_drop] at hi
    exact h3 (k + i) y (by omega) (List.getElem?_eq_some_iff.1 hi).1 hi
  have hs' : Srt lt (l.take k ++ l.drop k) := by rw [List.take_append_drop]; exact hs
  have hp := List.pairwise_append.1 hs'
  refine ⟨?_, fun a => ?_⟩
  · refine List.pairwise_append.2 ⟨hp.1, List.pairwise_cons.2 ⟨fun y hy => o.asymm _ _ (hd y hy), hp.2.1⟩, fun y hy z hz => ?_⟩
    rcases List.mem_cons.1 hz with rfl | hz
    · exact ht y hy
    · exact hp.2.2 y hy z hz
  · have e1 : l.take k ++ x :: l.drop k = l.take k ++ ([x] ++ l.drop k) := rfl
    rw [e1, List.filter_append, filter_swap o (fun y hy => .inl (hd y hy)), ← List.filter_append, ← List.append_assoc, List.take_append_drop, List.filter_append, List.filter_append, hf]

theorem sortR_stab (o : SWO lt) (l : List α) : Stab lt l (sortR lt l) := by
  have : ∀ (l acc acc₀ : List α), Stab lt acc₀ acc → Stab lt (acc₀ ++ l) (l.foldl (fun acc x => insR lt x acc) acc) := by
    intro l
    induction l with
    | nil => intro acc acc₀ h; simpa using h
    | cons x l ih =>
      intro acc acc₀ h
      have := ih _ _ (insR_stab o (x := x) h)
      simpa using this
  simpa [sortR] using this l [] [] ⟨List.Pairwise.nil, fun a => rfl⟩

theorem Stab.eq (o : SWO lt) {l z : List α} (h : Stab lt l z) : z = sortR lt l :=
  Srt.uniq o h.1 (sortR_stab o l).1 fun a => (h.2 a).trans ((sortR_stab o l).2 a).symm
theorem sortR_of_srt (o : SWO lt) {l : List α} (h : Srt lt l) : sortR lt l = l := (Stab.eq o ⟨h, fun _ => rfl⟩).symm
theorem sortR_srt (o : SWO lt) (l : List α) : Srt lt (sortR lt l) := (sortR_stab o l).1

/-- One ahead of a sorted list. -/
theorem merge_one (o : SWO lt) {x : α} {y1 y2 : List α} (hs : Srt lt (y1 ++ y2)) (h1 : ∀ y ∈ y1, lt y x = true) (h2 : ∀ y ∈ y2, lt y x = false) : y1 ++ x :: y2 = sortR lt (x :: (y1 ++ y2)) := by
  have hp := List.pairwise_append.1 hs
  refine Stab.eq o ⟨?_, fun a => ?_⟩
  · refine List.pairwise_append.2 ⟨hp.1, List.pairwise_cons.2 ⟨h2, hp.2.1⟩, fun y hy z hz => ?_⟩
    rcases List.mem_cons.1 hz with rfl | hz
    · exact o.asymm _ _ (h1 y hy)
    · exact hp.2.2 y hy z hz
  · have e1 : y1 ++ x :: y2 = (y1 ++ [x]) ++ y2 := by simp
    have e2 : x :: (y1 ++ y2) = ([x] ++ y1) ++ y2 := rfl
    rw [e1, e2, List.filter_append (p := eqvB lt a) (y1 ++ [x]), List.filter_append (p := eqvB lt a) ([x] ++ y1), filter_swap o (fun y hy => .inr (h1 y hy))]
/-- One behind a sorted list. -/
theorem merge_last (o : SWO lt) {y : α} {x1 x2 : List α} (hs : Srt lt (x1 ++ x2)) (h1 : ∀ x ∈ x1, lt y x = false) (h2 : ∀ x ∈ x2, lt y x = true) : x1 ++ y :: x2 = sortR lt (x1 ++ x2 ++ [y]) := by
  have hp := List.pairwise_append.1 hs
  refine Stab.eq o ⟨?_, fun a => ?_⟩
  · refine List.pairwise_append.2 ⟨hp.1, List.pairwise_cons.2 ⟨fun z hz => o.asymm _ _ (h2 z hz), hp.2.1⟩, fun x hx z hz => ?_⟩
    rcases List.mem_cons.1 hz with rfl | hz
    · exact h1 x hx
    · exact hp.2.2 x hx z hz
  · have e1 : x1 ++ y :: x2 = x1 ++ ([y] ++ x2) := by simp
    rw [e1, List.append_assoc, List.filter_append (p := eqvB lt a) x1, filter_swap o (fun z hz => .inl (h2 z hz)), ← List.filter_append]
/-- Two sorted lists, each cut in two; the inner parts change places; each half is merged. -/
theorem merge_cut (o : SWO lt) {x1 x2 y1 y2 : List α} (hx : Srt lt (x1 ++ x2)) (hy : Srt lt (y1 ++ y2)) (h1 : ∀ x ∈ x2, ∀ y ∈ y1, lt y x = true) (h2 : ∀ x ∈ x1, ∀ y ∈ y2, lt y x = false) :
    sortR lt (x1 ++ y1) ++ sortR lt (x2 ++ y2) = sortR lt ((x1 ++ x2) ++ (y1 ++ y2)) := by
  have px := List.pairwise_append.1 hx
  have py := List.pairwise_append.1 hy
  refine Stab.eq o ⟨?_, fun a => ?_⟩
  · refine List.pairwise_append.2 ⟨sortR_srt o _, sortR_srt o _, fun u hu v hv => ?_⟩
    rw [mem_sortR, List.mem_append] at hu hv
    rcases hu with hu | hu <;> rcases hv with hv | hv
    · exact px.2.2 u hu v hv
    · exact h2 u hu v hv
    · exact o.asymm _ _ (h1 v hv u hu)
    · exact py.2.2 u hu v hv
  · have e1 := (sortR_stab o (x1 ++ y1)).2 a
    have e2 := (sortR_stab o (x2 ++ y2)).2 a
    rw [List.filter_append, e1, e2, ← List.filter_append]
    have e3 : x1 ++ y1 ++ (x2 ++ y2) = x1 ++ ((y1 ++ x2) ++ y2) := by simp
    have e4 : x1 ++ x2 ++ (y1 ++ y2) = x1 ++ ((x2 ++ y1) ++ y2) := by simp
    rw [e3, e4, List.filter_append, List.filter_append (p := eqvB lt a) x1, List.filter_append (p := eqvB lt a) (y1 ++ x2), List.filter_append (p := eqvB lt a) (x2 ++ y1), filter_swapL o (fun y hy x hx => .inl (h1 x hx y hy))]
end
end Go.Toll
end

section 

namespace Go.Toll
open Go Go.Abs

section
variable {α : Type} {lt : α → α → Bool}

/-! ### Two cells change places -/
theorem at1 (A B C : List α) (u v : α) : (A ++ u :: (B ++ v :: C))[A.length]? = some u := by simp
theorem at2 (A B C : List α) (u v : α) : (A ++ u :: (B ++ v :: C))[A.length + 1 + B.length]? = some v := by
  have : A ++ u :: (B ++ v :: C) = (A ++ u :: B) ++ v :: C := by simp
  rw [this, List.getElem?_append_right (by simp; omega)]
  simp [show A.length + 1 + B.length - (A.length + (B.length + 1)) = 0 by omega]
theorem set2 (A B C : List α) (u v : α) : ((A ++ u :: (B ++ v :: C)).set A.length v).set (A.length + 1 + B.length) u = A ++ v :: (B ++ u :: C) := by
  have e1 : (A ++ u :: (B ++ v :: C)).set A.length v = (A ++ v :: B) ++ v :: C := by simp
  have e2 : A.length + 1 + B.length = (A ++ v :: B).length := by simp; omega
  rw [e1, e2, List.set_append_right _ _ (Nat.le_refl _)]
  simp
theorem set2' (A B C : List α) (u v : α) : ((A ++ u :: (B ++ v :: C)).set (A.length + 1 + B.length) u).set A.length v = A ++ v :: (B ++ u :: C) := by
  rw [List.set_comm _ _ (by omega), set2]

/-! ### Blocks -/
/-- The first k blocks of B, each sorted. -/
def hdB (lt : α → α → Bool) (B : Nat) (l : List α) : Nat → List α
  | 0 => []
  | k + 1 => hdB lt B l k ++ sortR lt ((l.drop (B * k)).take B)
def csF (lt : α → α → Bool) (B : Nat) : Nat → List α → List α
  | 0, _ => []
  | f + 1, l => sortR lt (l.take B) ++ csF lt B f (l.drop B)
/-- All blocks of B, each sorted. -/
def csA (lt : α → α → Bool) (B : Nat) (l : List α) : List α := csF lt B l.length l

theorem sortR_nil : sortR lt ([] : List α) = [] := rfl
theorem csF_nil (B : Nat) : ∀ f, csF lt B f ([] : List α) = []
  | 0 => rfl
  | f + 1 => by simp [csF, sortR_nil, csF_nil B f]
theorem csF_more {B : Nat} (hB : 0 < B) : ∀ (f : Nat) (l : List α), l.length ≤ f → csF lt B f l = csF lt B (f + 1) l
  | 0, l, h => by
    have : l = [] := List.length_eq_zero_iff.1 (by omega)
    subst this
    simp [csF, sortR_nil]
  | f + 1, l, h => by
    rw [csF, csF, csF_more hB f (l.drop B) (by simp; omega)]
theorem csF_add {B : Nat} (hB : 0 < B) (l : List α) (f : Nat) (h : l.length ≤ f) : ∀ n, csF lt B (f + n) l = csF lt B f l
  | 0 => rfl
  | n + 1 => by rw [← Nat.add_assoc, ← csF_more hB (f + n) l (by omega), csF_add hB l f h n]
theorem csA_eq {B : Nat} (hB : 0 < B) (l : List α) : csA lt B l = sortR lt (l.take B) ++ csA lt B (l.drop B) := by
  unfold csA
  rw [csF_more hB _ _ (Nat.le_refl _), csF]
  have hd : (l.drop B).length ≤ l.length := by simp
  have := csF_add (lt := lt) hB (l.drop B) (l.drop B).length (Nat.le_refl _) (l.length - (l.drop B).length)
  rw [← this, Nat.add_sub_cancel' hd]
theorem csA_one {B : Nat} (hB : 0 < B) {l : List α} (h : l.length ≤ B) : csA lt B l = sortR lt l := by
  rw [csA_eq hB, List.take_of_length_le h, List.drop_eq_nil_of_le h]
  simp [csA, csF]
theorem csA_length {B : Nat} (hB : 0 < B) : ∀ (n : Nat) (l : List α), l.length ≤ n → (csA lt B l).length = l.length
  | 0, l, h => by
    have : l = [] := List.length_eq_zero_iff.1 (by omega)
    subst this; rfl
  | n + 1, l, h => by
    rw [csA_eq hB, List.length_append, sortR_length]
    by_cases h0 : l.length ≤ B
    · rw [List.take_of_length_le h0, List.drop_eq_nil_of_le h0]; simp [csA, csF]
    · rw [csA_length hB n (l.drop B) (by simp; omega)]; simp; omega
theorem hdB_length {B : Nat} {l : List α} : ∀ {k : Nat}, B * k ≤ l.length → (hdB lt B l k).length = B * k
  | 0, _ => rfl
  | k + 1, h => by
    have e : B * (k + 1) = B * k + B := Nat.mul_succ B k
    rw [hdB, List.length_append, hdB_length (by omega), sortR_length]
    simp; omega
theorem hdB_csA {B : Nat} (hB : 0 < B) (l : List α) : ∀ k, hdB lt B l k ++ csA lt B (l.drop (B * k)) = csA lt B l
  | 0 => by simp [hdB]
  | k + 1 => by
    rw [hdB, List.append_assoc, ← hdB_csA hB l k]
    congr 1
    rw [csA_eq hB (l.drop (B * k)), List.drop_drop, ← Nat.mul_succ]
theorem hdB_last {B : Nat} (hB : 0 < B) {l : List α} {k : Nat} (h : (l.drop (B * k)).length ≤ B) : hdB lt B l k ++ sortR lt (l.drop (B * k)) = csA lt B l := by
  rw [← hdB_csA hB l k, csA_one hB h]
theorem sortR_app (o : SWO lt) (A C : List α) : sortR lt (sortR lt A ++ sortR lt C) = sortR lt (A ++ C) := by
  refine Stab.eq o ⟨sortR_srt o _, fun a => ?_⟩
  rw [(sortR_stab o _).2, List.filter_append, (sortR_stab o _).2, (sortR_stab o _).2, ← List.filter_append]
theorem csA_two {B : Nat} (hB : 0 < B) (l : List α) : csA lt B l = sortR lt (l.take B) ++ (sortR lt ((l.drop B).take B) ++ csA lt B (l.drop (2 * B))) := by
  rw [csA_eq hB, csA_eq hB (l.drop B), List.drop_drop, show B + B = 2 * B by omega]
theorem mem_csA {B : Nat} (hB : 0 < B) {x : α} : ∀ (n : Nat) (l : List α), l.length ≤ n → (x ∈ csA lt B l ↔ x ∈ l)
  | 0, l, h => by
    have : l = [] := List.length_eq_zero_iff.1 (by omega)
    subst this; simp [csA, csF]
  | n + 1, l, h => by
    rw [csA_eq hB, List.mem_append, mem_sortR]
    by_cases h0 : l.length ≤ B
    · rw [List.take_of_length_le h0, List.drop_eq_nil_of_le h0]; simp [csA, csF]
    · rw [mem_csA hB n (l.drop B) (by simp; omega), ← List.mem_append, List.take_append_drop]
theorem mem_hdB {B : Nat} {l : List α} {x : α} : ∀ {k : Nat}, x ∈ hdB lt B l k → x ∈ l
  | 0, h => by simp [hdB] at h
  | k + 1, h => by
    rw [hdB, List.mem_append] at h
    rcases h with h | h
    · exact mem_hdB h
    · exact List.mem_of_mem_drop (List.mem_of_mem_take ((mem_sortR _).1 h))
theorem sortR_two (o : SWO lt) (l : List α) (B : Nat) : sortR lt (sortR lt (l.take B) ++ sortR lt ((l.drop B).take B)) = sortR lt (l.take (2 * B)) := by
  refine Stab.eq o ⟨sortR_srt o _, fun a => ?_⟩
  rw [(sortR_stab o _).2, List.filter_append, (sortR_stab o _).2, (sortR_stab o _).2, ← List.filter_append]
  congr 1
  rw [show 2 * B = B + B by omega, List.take_add]

/-! ### A merge by rotation: where to cut -/
theorem Srt.get {l : List α} (o : SWO lt) (h : Srt lt l) {i j : Nat} {x y : α} (hij : i ≤ j) (hx : l[i]? = some x) (hy : l[j]? = some y) : lt y x = false := by
  obtain ⟨h1, h2⟩ := List.getElem?_eq_some_iff.1 hx
  obtain ⟨h3, h4⟩ := List.getElem?_eq_some_iff.1 hy
  rcases Nat.lt_or_ge i j with h' | h'
  · have := List.pairwise_iff_getElem.1 h i j h1 h3 h'
    rw [h2, h4] at this; exact this
  · have : i = j := by omega
    subst this
    rw [hx] at hy; injection hy with hy; rw [hy]; exact o.irrefl y
theorem mem_take_iff {l : List α} {k : Nat} {x : α} : x ∈ l.take k ↔ ∃ i, i < k ∧ l[i]? = some x := by
  rw [List.mem_iff_getElem?]
  constructor
  · rintro ⟨i, hi⟩
    rw [List.getElem?_take] at hi
    split at hi
    · rename_i h; exact ⟨i, h, hi⟩
    · cases hi
  · rintro ⟨i, h, hi⟩
    exact ⟨i, by rw [List.getElem?_take, if_pos h]; exact hi⟩
theorem mem_drop_iff {l : List α} {k : Nat} {x : α} : x ∈ l.drop k ↔ ∃ i, k ≤ i ∧ l[i]? = some x := by
  rw [List.mem_iff_getElem?]
  constructor
  · rintro ⟨i, hi⟩
    rw [List.getElem?_drop] at hi
    exact ⟨k + i, by omega, hi⟩
  · rintro ⟨i, h, hi⟩
    exact ⟨i - k, by rw [List.getElem?_drop, show k + (i - k) = i by omega]; exact hi⟩
/-- Both lists cut so that what lies across is in order: X at k, Y at j. -/
theorem cut_ok (o : SWO lt) {X Y : List α} (hX : Srt lt X) (hY : Srt lt Y) {k j : Nat} (hk : k ≤ X.length) (hj : j ≤ Y.length)
    (h1 : k < X.length → 0 < j → ∀ x y, X[k]? = some x → Y[j - 1]? = some y → lt y x = true)
    (h2 : 0 < k → j < Y.length → ∀ x y, X[k - 1]? = some x → Y[j]? = some y → lt y x = false) :
    sortR lt (X.take k ++ Y.take j) ++ sortR lt (X.drop k ++ Y.drop j) = sortR lt (X ++ Y) := by
  have e := merge_cut o (x1 := X.take k) (x2 := X.drop k) (y1 := Y.take j) (y2 := Y.drop j) (by rw [List.take_append_drop]; exact hX) (by rw [List.take_append_drop]; exact hY) ?_ ?_
  · rw [e, List.take_append_drop, List.take_append_drop]
  · intro x hx y hy
    obtain ⟨i, hi, hx⟩ := mem_drop_iff.1 hx
    obtain ⟨m, hm, hy⟩ := mem_take_iff.1 hy
    have hiX := (List.getElem?_eq_some_iff.1 hx).1
    obtain ⟨x0, hx0⟩ : ∃ x0, X[k]? = some x0 := ⟨_, List.getElem?_eq_getElem (by omega)⟩
    obtain ⟨y0, hy0⟩ : ∃ y0, Y[j - 1]? = some y0 := ⟨_, List.getElem?_eq_getElem (by omega)⟩
    have := h1 (by omega) (by omega) x0 y0 hx0 hy0
    exact o.lt_le (o.le_lt (hY.get o (by omega) hy hy0) this) (hX.get o hi hx0 hx)
  · intro x hx y hy
    obtain ⟨i, hi, hx⟩ := mem_take_iff.1 hx
    obtain ⟨m, hm, hy⟩ := mem_drop_iff.1 hy
    have hmY := (List.getElem?_eq_some_iff.1 hy).1
    obtain ⟨x0, hx0⟩ : ∃ x0, X[k - 1]? = some x0 := ⟨_, List.getElem?_eq_getElem (by omega)⟩
    obtain ⟨y0, hy0⟩ : ∃ y0, Y[j]? = some y0 := ⟨_, List.getElem?_eq_getElem (by omega)⟩
    have := h2 (by omega) (by omega) x0 y0 hx0 hy0
    exact o.trans _ _ _ (hY.get o hm hy0 hy) (o.trans _ _ _ this (hX.get o (by omega) hx hx0))
theorem Srt.take {l : List α} (h : Srt lt l) (k : Nat) : Srt lt (l.take k) := List.Pairwise.sublist (List.take_sublist k l) h
theorem Srt.drop {l : List α} (h : Srt lt l) (k : Nat) : Srt lt (l.drop k) := List.Pairwise.sublist (List.drop_sublist k l) h
end

section
variable {α : Type}
theorem getX {P X R : List α} {t : Nat} (h1 : P.length ≤ t) (h2 : t < P.length + X.length) : (P ++ (X ++ R))[t]? = X[t - P.length]? := by
  rw [List.getElem?_append_right h1, List.getElem?_append_left (by omega)]
theorem getY {P X Y R : List α} {t : Nat} (h1 : P.length + X.length ≤ t) (h2 : t < P.length + X.length + Y.length) : (P ++ (X ++ (Y ++ R)))[t]? = Y[t - (P.length + X.length)]? := by
  rw [List.getElem?_append_right (by omega), List.getElem?_append_right (by omega), List.getElem?_append_left (by omega)]
  congr 1; omega
end

/-- The middle, as the library computes it. -/
theorem wrap_half {i j : Nat} (h : i + j < 4611686018427387904) : IntKind.i64.wrap ((IntKind.u64.wrap (IntKind.i64.wrap ((i : Int) + j))).fdiv 2) = (((i + j) / 2 : Nat) : Int) := by
  rw [wrap64_of (n := (i : Int) + j) (by omega) (by omega)]
  have e1 : IntKind.u64.wrap ((i : Int) + j) = (i : Int) + j := by
    simp [IntKind.wrap, IntKind.signed, IntKind.bits]; omega
  rw [e1, Int.fdiv_eq_ediv_of_nonneg _ (by omega), wrap64_of (by omega) (by omega)]
  omega
end Go.Toll
end

section 

namespace Go.Toll
open Go Go.Abs

section
variable {α β : Type} {c c' : α → α → Int}
structure Ord3 (c : α → α → Int) : Prop where
  anti : ∀ x y, c x y < 0 ↔ 0 < c y x
  trans : ∀ x y z, c x y ≤ 0 → c y z ≤ 0 → c x z ≤ 0

theorem Ord3.zero (o : Ord3 c) {x y : α} : c x y = 0 ↔ c y x = 0 := by
  have h1 := o.anti x y
  have h2 := o.anti y x
  constructor <;> intro h <;> omega
theorem Ord3.self (o : Ord3 c) (x : α) : c x x = 0 := by
  have h1 := o.anti x x
  omega
theorem Ord3.swo (o : Ord3 c) : SWO fun x y => decide (c x y < 0) := by
  refine ⟨fun a b h => ?_, fun x y z h1 h2 => ?_⟩
  · have h1 := o.anti a b
    simp at h ⊢
    omega
  · have a1 := o.anti x y
    have a2 := o.anti y z
    have a3 := o.anti x z
    have a4 := o.anti y x
    have a5 := o.anti z y
    simp at h1 h2 ⊢
    have := o.trans z y x (by omega) (by omega)
    omega
theorem Ord3.comap (o : Ord3 c) (f : β → α) : Ord3 fun x y => c (f x) (f y) := ⟨fun x y => o.anti _ _, fun x y z => o.trans _ _ _⟩
theorem Ord3.lex (o : Ord3 c) (o' : Ord3 c') : Ord3 fun x y => if c x y = 0 then c' x y else c x y := by
  refine ⟨fun x y => ?_, fun x y z h1 h2 => ?_⟩
  · have h1 := o.anti x y
    have h2 := o.anti y x
    have h3 := o'.anti x y
    skip
    by_cases h : c x y = 0
    · rw [if_pos h, if_pos (o.zero.1 h)]; exact h3
    · rw [if_neg h, if_neg (fun e => h (o.zero.1 e))]; exact h1
  · skip
    have a1 : c x y ≤ 0 := by split at h1 <;> omega
    have a2 : c y z ≤ 0 := by split at h2 <;> omega
    have a3 := o.trans x y z a1 a2
    by_cases h : c x z = 0
    · rw [if_pos h]
      have b1 := o.trans z x y (by rw [o.zero.1 h]; omega) a1
      have b2 := o.trans y z x a2 (by rw [o.zero.1 h]; omega)
      have b3 := o.anti z y
      have b4 := o.anti y x
      have b5 := o.anti x y
      have b6 := o.anti y z
      rw [if_pos (by omega)] at h1 h2
      exact o'.trans x y z h1 h2
    · rw [if_neg h]; omega
theorem ord3_const : Ord3 fun (_ _ : α) => 0 := ⟨by simp, by simp⟩

def cmpI (a b : Int) : Int := if a < b then -1 else if b < a then 1 else 0
theorem ord3_int : Ord3 cmpI := by
  refine ⟨fun x y => ?_, fun x y z h1 h2 => ?_⟩
  · unfold cmpI; split <;> split <;> (try split) <;> omega
  · unfold cmpI at *; split at h1 <;> split at h2 <;> (try split at h1) <;> (try split at h2) <;> (split <;> (try split) <;> omega)
end

theorem cmpB_vals : ∀ (a b : Bytes), Lib.compareBytes a b = -1 ∨ Lib.compareBytes a b = 0 ∨ Lib.compareBytes a b = 1
  | [], [] => by simp [Lib.compareBytes]
  | [], _ :: _ => by simp [Lib.compareBytes]
  | _ :: _, [] => by simp [Lib.compareBytes]
  | a :: as, b :: bs => by
    rw [Lib.compareBytes]
    split
    · simp
    · split
      · simp
      · exact cmpB_vals as bs
theorem u8_tri (a b : UInt8) (h1 : ¬ a < b) (h2 : ¬ b < a) : a = b := by
  rw [UInt8.lt_iff_toNat_lt] at h1 h2
  exact UInt8.toNat_inj.1 (by omega)
theorem cmpB_anti : ∀ (a b : Bytes), Lib.compareBytes b a = - Lib.compareBytes a b
  | [], [] => by simp [Lib.compareBytes]
  | [], _ :: _ => by simp [Lib.compareBytes]
  | _ :: _, [] => by simp [Lib.compareBytes]
  | a :: as, b :: bs => by
    rw [Lib.compareBytes, Lib.compareBytes]
    by_cases h1 : a < b
    · have h2 : ¬ b < a := by rw [UInt8.lt_iff_toNat_lt] at h1 ⊢; omega
      simp [h1, h2]
    · by_cases h2 : b < a
      · simp [h1, h2]
      · simp [h1, h2]; exact cmpB_anti as bs
theorem cmpB_trans : ∀ (a b c : Bytes), Lib.compareBytes a b ≤ 0 → Lib.compareBytes b c ≤ 0 → Lib.compareBytes a c ≤ 0
  | [], _, [] => by simp [Lib.compareBytes]
  | [], _, _ :: _ => by simp [Lib.compareBytes]
  | _ :: _, [], _ => by simp [Lib.compareBytes]
  | _ :: _, _ :: _, [] => by simp [Lib.compareBytes]
  | a :: as, b :: bs, c :: cs => by
    intro h1 h2
    rw [Lib.compareBytes] at h1 h2 ⊢
    by_cases h3 : a < c
    · simp [h3]
    · by_cases h4 : a < b
      · by_cases h5 : b < c
        · exfalso; rw [UInt8.lt_iff_toNat_lt] at h3 h4 h5; omega
        · by_cases h6 : c < b
          · simp [h5, h6] at h2
          · have := u8_tri b c h5 h6
            subst this; exact absurd h4 h3
      · by_cases h5 : b < a
        · simp [h4, h5] at h1
        · have := u8_tri a b h4 h5
          subst this
          by_cases h6 : c < a
          · simp [h3, h6] at h2
          · have := u8_tri a c h3 h6
            subst this
            simp [h4] at h1 h2 ⊢
            exact cmpB_trans as bs cs h1 h2
theorem cmpB_eq : ∀ (a b : Bytes), Lib.compareBytes a b = 0 ↔ a = b
  | [], [] => by simp [Lib.compareBytes]
  | [], _ :: _ => by simp [Lib.compareBytes]
  | _ :: _, [] => by simp [Lib.compareBytes]
  | a :: as, b :: bs => by
    rw [Lib.compareBytes]
    by_cases h1 : a < b
    · have : a ≠ b := by rintro rfl; rw [UInt8.lt_iff_toNat_lt] at h1; omega
      simp [h1, this]
    · by_cases h2 : b < a
      · have : a ≠ b := by rintro rfl; rw [UInt8.lt_iff_toNat_lt] at h2; omega
        simp [h1, h2, this]
      · have := u8_tri a b h1 h2
        subst this
        simp [h1]; exact cmpB_eq as bs
theorem cmpB_less : ∀ (a b : Bytes), decide (Lib.compareBytes a b < 0) = Op.bytesLess a b
  | [], [] => by simp [Lib.compareBytes, Op.bytesLess]
  | [], _ :: _ => by simp [Lib.compareBytes, Op.bytesLess]
  | _ :: _, [] => by simp [Lib.compareBytes, Op.bytesLess]
  | a :: as, b :: bs => by
    rw [Lib.compareBytes, Op.bytesLess]
    by_cases h1 : a < b
    · simp [h1]
    · by_cases h2 : b < a
      · have : a ≠ b := by rintro rfl; exact h1 h2
        simp [h1, h2, this]
      · have := u8_tri a b h1 h2
        subst this
        simp [h1]; simpa using cmpB_less as bs
theorem ord3_bytes : Ord3 Lib.compareBytes := ⟨fun x y => by rw [cmpB_anti x y]; omega, cmpB_trans⟩

theorem ord3_rate : Ord3 rateCmp := by
  have := (ord3_bytes.comap Rate.src).lex ((ord3_bytes.comap Rate.dst).lex ((ord3_bytes.comap Rate.band).lex ord3_const))
  refine Eq.mp (congrArg Ord3 ?_) this
  funext a b
  simp only [rateCmp, orI]
theorem before_rate (a b : Rate) : beforeB a b = decide (rateCmp a b < 0) := by
  simp only [beforeB, rateCmp, orI, cmpB_eq, ← cmpB_less]
  by_cases h1 : a.src = b.src
  · by_cases h2 : a.dst = b.dst
    · by_cases h3 : a.band = b.band
      · simp [h1, h2, h3, (cmpB_eq b.band b.band).2 rfl]
      · simp [h1, h2, h3]
    · simp [h1, h2]
  · simp [h1]
end Go.Toll
end
