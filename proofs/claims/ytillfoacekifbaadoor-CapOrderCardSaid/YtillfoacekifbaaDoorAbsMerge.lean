/-
  Sorting in blocks and merging them, over lists; cells that change places; a search by halves.
-/
import Derived.Test.YtillfoacekifbaaDoorAbsStable
import Derived.Test.YtillfoacekifbaaDoorTollBase
set_option linter.unusedVariables false
set_option linter.unusedSimpArgs false
namespace Go.Toll
open Go Go.Abs

section
variable {α : Type} {lt : α → α → Bool}

/-! ### Two cells change places -/
theorem at1 (A B C : List α) (u v : α) : (A ++ u :: (B ++ v :: C))[A.length]? = some u := by simp
theorem at2 (A B C : List α) (u v : α) : (A ++ u :: (B ++ v :: C))[A.length + 1 + B.length]? = some v := by
  have : A ++ u :: (B ++ v :: C) = (A ++ u :: B) ++ v :: C := by simp
  rw [this, List.getElem?_append_right (by simp; omega)]
  simp [show A.length + 1 + B.length - (A.length + (B.length + 1)) = 0 by omega]
theorem set2 (A B C : List α) (u v : α) : ((A ++ u :: (B ++ v :: C)).set A.length v).set (A.length + 1 + B.length) u = A ++ v :: (B ++ u :: C) := by
  have e1 : (A ++ u :: (B ++ v :: C)).set A.length v = (A ++ v :: B) ++ v :: C := by simp
  have e2 : A.length + 1 + B.length = (A ++ v :: B).length := by simp; omega
  rw [e1, e2, List.set_append_right _ _ (Nat.le_refl _)]
  simp
theorem set2' (A B C : List α) (u v : α) : ((A ++ u :: (B ++ v :: C)).set (A.length + 1 + B.length) u).set A.length v = A ++ v :: (B ++ u :: C) := by
  rw [List.set_comm _ _ (by omega), set2]

/-! ### Blocks -/
/-- The first k blocks of B, each sorted. -/
def hdB (lt : α → α → Bool) (B : Nat) (l : List α) : Nat → List α
  | 0 => []
  | k + 1 => hdB lt B l k ++ sortR lt ((l.drop (B * k)).take B)
def csF (lt : α → α → Bool) (B : Nat) : Nat → List α → List α
  | 0, _ => []
  | f + 1, l => sortR lt (l.take B) ++ csF lt B f (l.drop B)
/-- All blocks of B, each sorted. -/
def csA (lt : α → α → Bool) (B : Nat) (l : List α) : List α := csF lt B l.length l

theorem sortR_nil : sortR lt ([] : List α) = [] := rfl
theorem csF_nil (B : Nat) : ∀ f, csF lt B f ([] : List α) = []
  | 0 => rfl
  | f + 1 => by simp [csF, sortR_nil, csF_nil B f]
theorem csF_more {B : Nat} (hB : 0 < B) : ∀ (f : Nat) (l : List α), l.length ≤ f → csF lt B f l = csF lt B (f + 1) l
  | 0, l, h => by
    have : l = [] := List.length_eq_zero_iff.1 (by omega)
    subst this
    simp [csF, sortR_nil]
  | f + 1, l, h => by
    rw [csF, csF, csF_more hB f (l.drop B) (by simp; omega)]
theorem csF_add {B : Nat} (hB : 0 < B) (l : List α) (f : Nat) (h : l.length ≤ f) : ∀ n, csF lt B (f + n) l = csF lt B f l
  | 0 => rfl
  | n + 1 => by rw [← Nat.add_assoc, ← csF_more hB (f + n) l (by omega), csF_add hB l f h n]
theorem csA_eq {B : Nat} (hB : 0 < B) (l : List α) : csA lt B l = sortR lt (l.take B) ++ csA lt B (l.drop B) := by
  unfold csA
  rw [csF_more hB _ _ (Nat.le_refl _), csF]
  have hd : (l.drop B).length ≤ l.length := by simp
  have := csF_add (lt := lt) hB (l.drop B) (l.drop B).length (Nat.le_refl _) (l.length - (l.drop B).length)
  rw [← this, Nat.add_sub_cancel' hd]
theorem csA_one {B : Nat} (hB : 0 < B) {l : List α} (h : l.length ≤ B) : csA lt B l = sortR lt l := by
  rw [csA_eq hB, List.take_of_length_le h, List.drop_eq_nil_of_le h]
  simp [csA, csF]
theorem csA_length {B : Nat} (hB : 0 < B) : ∀ (n : Nat) (l : List α), l.length ≤ n → (csA lt B l).length = l.length
  | 0, l, h => by
    have : l = [] := List.length_eq_zero_iff.1 (by omega)
    subst this; rfl
  | n + 1, l, h => by
    rw [csA_eq hB, List.length_append, sortR_length]
    by_cases h0 : l.length ≤ B
    · rw [List.take_of_length_le h0, List.drop_eq_nil_of_le h0]; simp [csA, csF]
    · rw [csA_length hB n (l.drop B) (by simp; omega)]; simp; omega
theorem hdB_length {B : Nat} {l : List α} : ∀ {k : Nat}, B * k ≤ l.length → (hdB lt B l k).length = B * k
  | 0, _ => rfl
  | k + 1, h => by
    have e : B * (k + 1) = B * k + B := Nat.mul_succ B k
    rw [hdB, List.length_append, hdB_length (by omega), sortR_length]
    simp; omega
theorem hdB_csA {B : Nat} (hB : 0 < B) (l : List α) : ∀ k, hdB lt B l k ++ csA lt B (l.drop (B * k)) = csA lt B l
  | 0 => by simp [hdB]
  | k + 1 => by
    rw [hdB, List.append_assoc, ← hdB_csA hB l k]
    congr 1
    rw [csA_eq hB (l.drop (B * k)), List.drop_drop, ← Nat.mul_succ]
theorem hdB_last {B : Nat} (hB : 0 < B) {l : List α} {k : Nat} (h : (l.drop (B * k)).length ≤ B) : hdB lt B l k ++ sortR lt (l.drop (B * k)) = csA lt B l := by
  rw [← hdB_csA hB l k, csA_one hB h]
theorem sortR_app (o : SWO lt) (A C : List α) : sortR lt (sortR lt A ++ sortR lt C) = sortR lt (A ++ C) := by
  refine Stab.eq o ⟨sortR_srt o _, fun a => ?_⟩
  rw [(sortR_stab o _).2, List.filter_append, (sortR_stab o _).2, (sortR_stab o _).2, ← List.filter_append]
theorem csA_two {B : Nat} (hB : 0 < B) (l : List α) : csA lt B l = sortR lt (l.take B) ++ (sortR lt ((l.drop B).take B) ++ csA lt B (l.drop (2 * B))) := by
  rw [csA_eq hB, csA_eq hB (l.drop B), List.drop_drop, show B + B = 2 * B by omega]
theorem mem_csA {B : Nat} (hB : 0 < B) {x : α} : ∀ (n : Nat) (l : List α), l.length ≤ n → (x ∈ csA lt B l ↔ x ∈ l)
  | 0, l, h => by
    have : l = [] := List.length_eq_zero_iff.1 (by omega)
    subst this; simp [csA, csF]
  | n + 1, l, h => by
    rw [csA_eq hB, List.mem_append, mem_sortR]
    by_cases h0 : l.length ≤ B
    · rw [List.take_of_length_le h0, List.drop_eq_nil_of_le h0]; simp [csA, csF]
    · rw [mem_csA hB n (l.drop B) (by simp; omega), ← List.mem_append, List.take_append_drop]
theorem mem_hdB {B : Nat} {l : List α} {x : α} : ∀ {k : Nat}, x ∈ hdB lt B l k → x ∈ l
  | 0, h => by simp [hdB] at h
  | k + 1, h => by
    rw [hdB, List.mem_append] at h
    rcases h with h | h
    · exact mem_hdB h
    · exact List.mem_of_mem_drop (List.mem_of_mem_take ((mem_sortR _).1 h))
theorem sortR_two (o : SWO lt) (l : List α) (B : Nat) : sortR lt (sortR lt (l.take B) ++ sortR lt ((l.drop B).take B)) = sortR lt (l.take (2 * B)) := by
  refine Stab.eq o ⟨sortR_srt o _, fun a => ?_⟩
  rw [(sortR_stab o _).2, List.filter_append, (sortR_stab o _).2, (sortR_stab o _).2, ← List.filter_append]
  congr 1
  rw [show 2 * B = B + B by omega, List.take_add]

/-! ### A merge by rotation: where to cut -/
theorem Srt.get {l : List α} (o : SWO lt) (h : Srt lt l) {i j : Nat} {x y : α} (hij : i ≤ j) (hx : l[i]? = some x) (hy : l[j]? = some y) : lt y x = false := by
  obtain ⟨h1, h2⟩ := List.getElem?_eq_some_iff.1 hx
  obtain ⟨h3, h4⟩ := List.getElem?_eq_some_iff.1 hy
  rcases Nat.lt_or_ge i j with h' | h'
  · have := List.pairwise_iff_getElem.1 h i j h1 h3 h'
    rw [h2, h4] at this; exact this
  · have : i = j := by omega
    subst this
    rw [hx] at hy; injection hy with hy; rw [hy]; exact o.irrefl y
theorem mem_take_iff {l : List α} {k : Nat} {x : α} : x ∈ l.take k ↔ ∃ i, i < k ∧ l[i]? = some x := by
  rw [List.mem_iff_getElem?]
  constructor
  · rintro ⟨i, hi⟩
    rw [List.getElem?_take] at hi
    split at hi
    · rename_i h; exact ⟨i, h, hi⟩
    · cases hi
  · rintro ⟨i, h, hi⟩
    exact ⟨i, by rw [List.getElem?_take, if_pos h]; exact hi⟩
theorem mem_drop_iff {l : List α} {k : Nat} {x : α} : x ∈ l.drop k ↔ ∃ i, k ≤ i ∧ l[i]? = some x := by
  rw [List.mem_iff_getElem?]
  constructor
  · rintro ⟨i, hi⟩
    rw [List.getElem?_drop] at hi
    exact ⟨k + i, by omega, hi⟩
  · rintro ⟨i, h, hi⟩
    exact ⟨i - k, by rw [List.getElem?_drop, show k + (i - k) = i by omega]; exact hi⟩
/-- Both lists cut so that what lies across is in order: X at k, Y at j. -/
theorem cut_ok (o : SWO lt) {X Y : List α} (hX : Srt lt X) (hY : Srt lt Y) {k j : Nat} (hk : k ≤ X.length) (hj : j ≤ Y.length)
    (h1 : k < X.length → 0 < j → ∀ x y, X[k]? = some x → Y[j - 1]? = some y → lt y x = true)
    (h2 : 0 < k → j < Y.length → ∀ x y, X[k - 1]? = some x → Y[j]? = some y → lt y x = false) :
    sortR lt (X.take k ++ Y.take j) ++ sortR lt (X.drop k ++ Y.drop j) = sortR lt (X ++ Y) := by
  have e := merge_cut o (x1 := X.take k) (x2 := X.drop k) (y1 := Y.take j) (y2 := Y.drop j) (by rw [List.take_append_drop]; exact hX) (by rw [List.take_append_drop]; exact hY) ?_ ?_
  · rw [e, List.take_append_drop, List.take_append_drop]
  · intro x hx y hy
    obtain ⟨i, hi, hx⟩ := mem_drop_iff.1 hx
    obtain ⟨m, hm, hy⟩ := mem_take_iff.1 hy
    have hiX := (List.getElem?_eq_some_iff.1 hx).1
    obtain ⟨x0, hx0⟩ : ∃ x0, X[k]? = some x0 := ⟨_, List.getElem?_eq_getElem (by omega)⟩
    obtain ⟨y0, hy0⟩ : ∃ y0, Y[j - 1]? = some y0 := ⟨_, List.getElem?_eq_getElem (by omega)⟩
    have := h1 (by omega) (by omega) x0 y0 hx0 hy0
    exact o.lt_le (o.le_lt (hY.get o (by omega) hy hy0) this) (hX.get o hi hx0 hx)
  · intro x hx y hy
    obtain ⟨i, hi, hx⟩ := mem_take_iff.1 hx
    obtain ⟨m, hm, hy⟩ := mem_drop_iff.1 hy
    have hmY := (List.getElem?_eq_some_iff.1 hy).1
    obtain ⟨x0, hx0⟩ : ∃ x0, X[k - 1]? = some x0 := ⟨_, List.getElem?_eq_getElem (by omega)⟩
    obtain ⟨y0, hy0⟩ : ∃ y0, Y[j]? = some y0 := ⟨_, List.getElem?_eq_getElem (by omega)⟩
    have := h2 (by omega) (by omega) x0 y0 hx0 hy0
    exact o.trans _ _ _ (hY.get o hm hy0 hy) (o.trans _ _ _ this (hX.get o (by omega) hx hx0))
theorem Srt.take {l : List α} (h : Srt lt l) (k : Nat) : Srt lt (l.take k) := List.Pairwise.sublist (List.take_sublist k l) h
theorem Srt.drop {l : List α} (h : Srt lt l) (k : Nat) : Srt lt (l.drop k) := List.Pairwise.sublist (List.drop_sublist k l) h
end

section
variable {α : Type}
theorem getX {P X R : List α} {t : Nat} (h1 : P.length ≤ t) (h2 : t < P.length + X.length) : (P ++ (X ++ R))[t]? = X[t - P.length]? := by
  rw [List.getElem?_append_right h1, List.getElem?_append_left (by omega)]
theorem getY {P X Y R : List α} {t : Nat} (h1 : P.length + X.length ≤ t) (h2 : t < P.length + X.length + Y.length) : (P ++ (X ++ (Y ++ R)))[t]? = Y[t - (P.length + X.length)]? := by
  rw [List.getElem?_append_right (by omega), List.getElem?_append_right (by omega), List.getElem?_append_left (by omega)]
  congr 1; omega
end

/-- The middle, as the library computes it. -/
theorem wrap_half {i j : Nat} (h : i + j < 4611686018427387904) : IntKind.i64.wrap ((IntKind.u64.wrap (IntKind.i64.wrap ((i : Int) + j))).fdiv 2) = (((i + j) / 2 : Nat) : Int) := by
  rw [wrap64_of (n := (i : Int) + j) (by omega) (by omega)]
  have e1 : IntKind.u64.wrap ((i : Int) + j) = (i : Int) + j := by
    simp [IntKind.wrap, IntKind.signed, IntKind.bits]; omega
  rw [e1, Int.fdiv_eq_ediv_of_nonneg _ (by omega), wrap64_of (by omega) (by omega)]
  omega
end Go.Toll
