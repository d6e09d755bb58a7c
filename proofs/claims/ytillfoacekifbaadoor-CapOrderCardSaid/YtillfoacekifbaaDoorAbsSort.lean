/-
  Insertion sort over lists, as the library's sort does it in a block.
-/
import Derived.Test.YtillfoacekifbaaDoorAbsRd
set_option linter.unusedVariables false
set_option linter.unusedSimpArgs false
namespace Go.Toll
open Go Go.Abs

section
variable {α : Type}
/-- The place of x in the first k of l: behind the last that x is not before. -/
def insK (lt : α → α → Bool) (x : α) (l : List α) : Nat → Nat
  | 0 => 0
  | k + 1 => match l[k]? with
    | some y => if lt x y then insK lt x l k else k + 1
    | none => k + 1
def insR (lt : α → α → Bool) (x : α) (l : List α) : List α := l.take (insK lt x l l.length) ++ x :: l.drop (insK lt x l l.length)
def sortR (lt : α → α → Bool) (l : List α) : List α := l.foldl (fun acc x => insR lt x acc) []

theorem insR_length (lt : α → α → Bool) (x : α) (l : List α) : (insR lt x l).length = l.length + 1 := by
  simp [insR]; omega
theorem sortR_length (lt : α → α → Bool) (l : List α) : (sortR lt l).length = l.length := by
  have : ∀ (l acc : List α), (l.foldl (fun acc x => insR lt x acc) acc).length = acc.length + l.length := by
    intro l
    induction l with
    | nil => simp
    | cons x l ih => intro acc; simp [ih, insR_length]; omega
  simpa [sortR] using this l []
theorem mem_insR (lt : α → α → Bool) {x y : α} {l : List α} : y ∈ insR lt x l ↔ y = x ∨ y ∈ l := by
  unfold insR
  generalize insK lt x l l.length = k
  have : y ∈ l ↔ y ∈ l.take k ∨ y ∈ l.drop k := by rw [← List.mem_append, List.take_append_drop]
  rw [this]
  simp only [List.mem_append, List.mem_cons]
  constructor
  · rintro (h | h | h)
    · exact .inr (.inl h)
    · exact .inl h
    · exact .inr (.inr h)
  · rintro (h | h | h)
    · exact .inr (.inl h)
    · exact .inl h
    · exact .inr (.inr h)
theorem mem_sortR (lt : α → α → Bool) {y : α} {l : List α} : y ∈ sortR lt l ↔ y ∈ l := by
  have : ∀ (l acc : List α), y ∈ l.foldl (fun acc x => insR lt x acc) acc ↔ y ∈ acc ∨ y ∈ l := by
    intro l
    induction l with
    | nil => simp
    | cons x l ih =>
      intro acc
      simp only [List.foldl_cons, ih, mem_insR, List.mem_cons]
      constructor
      · rintro ((h | h) | h)
        · exact .inr (.inl h)
        · exact .inl h
        · exact .inr (.inr h)
      · rintro (h | h | h)
        · exact .inl (.inr h)
        · exact .inl (.inl h)
        · exact .inr h
  simpa [sortR] using this l []
theorem sortR_take_succ (lt : α → α → Bool) {l : List α} {i : Nat} {x : α} (h : l[i]? = some x) : sortR lt (l.take (i + 1)) = insR lt x (sortR lt (l.take i)) := by
  have : l.take (i + 1) = l.take i ++ [x] := by
    rw [List.take_add_one, h]; rfl
  simp [sortR, this]

theorem app_add (a b : List α) (k : Nat) : (a ++ b)[a.length + k]? = b[k]? := by
  rw [List.getElem?_append_right (by omega)]
  congr 1; omega

/-- A block in which x is on its way down. -/
def sinkB (pre l post : List α) (x : α) (j : Nat) : List α := pre ++ (l.take j ++ x :: l.drop j) ++ post

theorem sinkB_x {pre l post : List α} {x : α} {j : Nat} (hj : j ≤ l.length) : (sinkB pre l post x j)[pre.length + j]? = some x := by
  unfold sinkB
  rw [List.append_assoc, List.getElem?_append_right (by omega)]
  have : pre.length + j - pre.length = j := by omega
  rw [this, List.append_assoc, List.getElem?_append_right (by simp; omega)]
  simp [Nat.min_eq_left hj]
theorem sinkB_y {pre l post : List α} {x : α} {j : Nat} (hj : j < l.length) : (sinkB pre l post x (j + 1))[pre.length + j]? = l[j]? := by
  unfold sinkB
  rw [List.append_assoc, List.getElem?_append_right (by omega)]
  have : pre.length + j - pre.length = j := by omega
  rw [this, List.append_assoc, List.getElem?_append_left (by simp; omega), List.getElem?_take]
  simp
theorem sinkB_length {pre l post : List α} {x : α} {j : Nat} : (sinkB pre l post x j).length = pre.length + l.length + 1 + post.length := by
  simp [sinkB]; omega
theorem sinkB_swap {pre l post : List α} {x y : α} {j : Nat} (hj : l[j]? = some y) : ((sinkB pre l post x (j + 1)).set (pre.length + (j + 1)) y).set (pre.length + j) x = sinkB pre l post x j := by
  obtain ⟨hlt, hy⟩ := List.getElem?_eq_some_iff.1 hj
  apply List.ext_getElem?
  intro i
  rw [List.getElem?_set, List.getElem?_set, List.length_set]
  simp only [sinkB_length]
  unfold sinkB
  have ht : l.take (j + 1) = l.take j ++ [y] := by rw [List.take_add_one, hj]; rfl
  have hd : l.drop j = y :: l.drop (j + 1) := by rw [← hy]; exact List.drop_eq_getElem_cons hlt
  rw [ht, hd]
  simp only [List.append_assoc, List.cons_append, List.nil_append]
  rcases Nat.lt_or_ge i pre.length with h1 | h1
  · rw [if_neg (by omega), if_neg (by omega), List.getElem?_append_left h1, List.getElem?_append_left h1]
  obtain ⟨k, rfl⟩ := Nat.exists_eq_add_of_le h1
  have hm : (l.take j).length = j := by simp; omega
  rw [app_add, app_add]
  rcases Nat.lt_or_ge k j with h2 | h2
  · rw [if_neg (by omega), if_neg (by omega), List.getElem?_append_left (by omega), List.getElem?_append_left (by omega)]
  obtain ⟨m, rfl⟩ := Nat.exists_eq_add_of_le h2
  have e1 : ∀ z : List α, (l.take j ++ z)[j + m]? = z[m]? := fun z => by
    have := app_add (l.take j) z m
    rwa [hm] at this
  rw [e1, e1]
  match m with
  | 0 => rw [if_pos (by omega), if_pos (by omega)]; rfl
  | 1 => rw [if_neg (by omega), if_pos (by omega), if_pos (by omega)]; rfl
  | m + 2 => rw [if_neg (by omega), if_neg (by omega)]; rfl
end
end Go.Toll
