/-
  Texts in ascending order: the order of texts, texts that are inserted one by one, lists of texts that are compared.
-/
import Derived.Test.YtmdenljmfeejfaaAbsMore
import Derived.Test.YtmdenljmfeejfaaTollCmp
set_option linter.unusedVariables false
set_option linter.unusedSimpArgs false
namespace Go.Toll
open Go Go.Abs

theorem bless : ∀ a b : Bytes, Op.bytesLess a b = decide (a < b)
  | [], [] => by simp [Op.bytesLess]
  | [], b :: y => by simp [Op.bytesLess]
  | a :: x, [] => by simp [Op.bytesLess]
  | a :: x, b :: y => by
    rw [Op.bytesLess, bless x y]
    rw [Bool.eq_iff_iff]
    simp [List.cons_lt_cons_iff]
def insT (s : Bytes) : List Bytes → List Bytes
  | [] => [s]
  | y :: l => if Op.bytesLess s y = true then s :: y :: l else y :: insT s l
theorem insT_perm (s : Bytes) : ∀ l : List Bytes, (insT s l).Perm (s :: l)
  | [] => .refl _
  | y :: l => by
    rw [insT]
    split
    · exact .refl _
    · exact ((insT_perm s l).cons y).trans (.swap s y l)
theorem insT_len (s : Bytes) (l : List Bytes) : (insT s l).length = l.length + 1 := (insT_perm s l).length_eq
def ascT (l : List Bytes) : Prop := l.Pairwise fun a b => decide (a ≤ b) = true
theorem insT_asc (s : Bytes) : ∀ l : List Bytes, ascT l → ascT (insT s l)
  | [], _ => by simp [insT, ascT]
  | y :: l, h => by
    obtain ⟨h1, h2⟩ := List.pairwise_cons.1 h
    rw [insT, bless]
    split
    · rename_i c
      have c : s < y := by simpa using c
      have c' : s ≤ y := List.le_of_lt c
      refine List.pairwise_cons.2 ⟨fun b hb => ?_, h⟩
      rcases List.mem_cons.1 hb with rfl | hb
      · exact decide_eq_true c'
      · exact decide_eq_true (List.le_trans c' (of_decide_eq_true (h1 b hb)))
    · rename_i c
      have c : ¬ s < y := by simpa using c
      have c' : y ≤ s := List.not_lt.1 c
      refine List.pairwise_cons.2 ⟨fun b hb => ?_, insT_asc s l h2⟩
      rcases List.mem_cons.1 ((insT_perm s l).mem_iff.1 hb) with rfl | hb
      · exact decide_eq_true c'
      · exact h1 b hb
theorem leT_trans (a b c : Bytes) (h1 : decide (a ≤ b) = true) (h2 : decide (b ≤ c) = true) : decide (a ≤ c) = true := decide_eq_true (List.le_trans (of_decide_eq_true h1) (of_decide_eq_true h2))
theorem leT_total (a b : Bytes) : (decide (a ≤ b) || decide (b ≤ a)) = true := by
  rcases List.le_total a b with h | h <;> simp [h]
theorem leT_antisymm {a b : Bytes} (h1 : decide (a ≤ b) = true) (h2 : decide (b ≤ a) = true) : a = b := List.le_antisymm (of_decide_eq_true h1) (of_decide_eq_true h2)
/-- Two ascending lists of the same texts are one. -/
theorem asc_uniq : ∀ {l m : List Bytes}, ascT l → ascT m → l.Perm m → l = m
  | [], m, _, _, hp => (List.nil_perm.1 hp).symm
  | a :: l, [], _, _, hp => by have := hp.length_eq; simp at this
  | a :: l, b :: m, hl, hm, hp => by
    obtain ⟨h1, h2⟩ := List.pairwise_cons.1 hl
    obtain ⟨h3, h4⟩ := List.pairwise_cons.1 hm
    have hab : a = b := by
      rcases List.mem_cons.1 (hp.mem_iff.1 List.mem_cons_self) with e | ha
      · exact e
      · rcases List.mem_cons.1 (hp.mem_iff.2 (List.mem_cons_self (a := b) (l := m))) with e | hb
        · exact e.symm
        · exact leT_antisymm (h1 b hb) (h3 a ha)
    subst hab
    rw [asc_uniq h2 h4 ((List.perm_cons a).1 hp)]
theorem asc_of_mem {l m : List Bytes} (hl : ascT l) (hm : ascT m) (hn : l.Nodup) (hn' : m.Nodup) (h : ∀ x, x ∈ l ↔ x ∈ m) : l = m := asc_uniq hl hm ((List.perm_ext_iff_of_nodup hn hn').2 h)
theorem sortT_asc (l : List Bytes) : ascT (sortT l) := List.pairwise_mergeSort leT_trans leT_total l
theorem sortT_perm0 (l : List Bytes) : (sortT l).Perm l := List.mergeSort_perm _ _
theorem sortT_mem (l : List Bytes) (s : Bytes) : s ∈ sortT l ↔ s ∈ l := (sortT_perm0 l).mem_iff
theorem sortT_len (l : List Bytes) : (sortT l).length = l.length := (sortT_perm0 l).length_eq
theorem sortT_nodup {l : List Bytes} (h : l.Nodup) : (sortT l).Nodup := (sortT_perm0 l).nodup_iff.2 h
/-- A text is inserted unless it is there. -/
def insS (l : List Bytes) (s : Bytes) : List Bytes := if s ∈ l then l else insT s l
theorem insS_mem (l : List Bytes) (s x : Bytes) : x ∈ insS l s ↔ x = s ∨ x ∈ l := by
  unfold insS
  split
  · rename_i h
    exact ⟨.inr, by rintro (rfl | h'); exact h; exact h'⟩
  · rw [(insT_perm s l).mem_iff, List.mem_cons]
theorem insS_asc {l : List Bytes} (s : Bytes) (h : ascT l) : ascT (insS l s) := by
  unfold insS; split
  · exact h
  · exact insT_asc s l h
theorem insS_nodup {l : List Bytes} (s : Bytes) (h : l.Nodup) : (insS l s).Nodup := by
  unfold insS; split
  · exact h
  · rename_i h'
    exact (insT_perm s l).nodup_iff.2 (List.nodup_cons.2 ⟨h', h⟩)
theorem insS_len (l : List Bytes) (s : Bytes) : (insS l s).length ≤ l.length + 1 := by
  unfold insS; split
  · omega
  · rw [insT_len]; omega
def insF (out : List Bytes) (l : List Bytes) : List Bytes := l.foldl insS out
theorem insF_nil (out : List Bytes) : insF out [] = out := rfl
theorem insF_cons (out : List Bytes) (p : Bytes) (l : List Bytes) : insF out (p :: l) = insF (insS out p) l := rfl
theorem insF_all : ∀ (l out : List Bytes), ascT out → out.Nodup → ascT (insF out l) ∧ (insF out l).Nodup ∧ ∀ a, a ∈ insF out l ↔ a ∈ out ∨ a ∈ l
  | [], out, h1, h2 => ⟨h1, h2, by simp [insF_nil]⟩
  | p :: l, out, h1, h2 => by
    obtain ⟨i1, i2, i3⟩ := insF_all l _ (insS_asc p h1) (insS_nodup p h2)
    rw [insF_cons]
    refine ⟨i1, i2, fun a => ?_⟩
    rw [i3, insS_mem, List.mem_cons]
    constructor
    · rintro ((h | h) | h)
      · exact .inr (.inl h)
      · exact .inl h
      · exact .inr (.inr h)
    · rintro (h | h | h)
      · exact .inl (.inr h)
      · exact .inl (.inl h)
      · exact .inr h
theorem insF_sort {l : List Bytes} (h : l.Nodup) : insF [] l = sortT l := by
  obtain ⟨i1, i2, i3⟩ := insF_all l [] (by simp [ascT]) (by simp)
  exact asc_of_mem i1 (sortT_asc l) i2 (sortT_nodup h) fun x => by rw [i3, sortT_mem]; simp

/-! ### Lists of texts -/
theorem cmpS_anti (a b : Bytes) : cmpS b a = - cmpS a b := by rw [cmpS_eq, cmpS_eq, cmpB_anti]
def pcmp : List Bytes → List Bytes → Int
  | [], [] => 0
  | [], _ :: _ => -1
  | _ :: _, [] => 1
  | a :: x, b :: y => if cmpS a b = 0 then pcmp x y else cmpS a b
theorem pcmp_anti : ∀ x y, pcmp y x = - pcmp x y
  | [], [] => rfl
  | [], _ :: _ => rfl
  | _ :: _, [] => rfl
  | a :: x, b :: y => by
    rw [pcmp, pcmp, pcmp_anti x y, cmpS_anti a b]
    by_cases h : cmpS a b = 0
    · simp [h]
    · rw [if_neg h, if_neg (by omega)]
theorem pcmp_zero : ∀ {x y}, pcmp x y = 0 ↔ x = y
  | [], [] => by simp [pcmp]
  | [], _ :: _ => by simp [pcmp]
  | _ :: _, [] => by simp [pcmp]
  | a :: x, b :: y => by
    rw [pcmp]
    by_cases h : cmpS a b = 0
    · rw [if_pos h, pcmp_zero, cmpS_zero.1 h]; simp
    · rw [if_neg h]
      constructor
      · intro h'; exact absurd h' h
      · intro h'
        injection h' with h1 h2
        exact absurd (cmpS_zero.2 h1) h
theorem pcmp_self (x : List Bytes) : pcmp x x = 0 := pcmp_zero.2 rfl
theorem pcmp_trans : ∀ {x y z}, pcmp x y ≤ 0 → pcmp y z ≤ 0 → pcmp x z ≤ 0
  | [], _, [], _, _ => by simp [pcmp]
  | [], _, _ :: _, _, _ => by simp [pcmp]
  | _ :: _, [], _, h, _ => by simp [pcmp] at h
  | _ :: _, _ :: _, [], _, h => by simp [pcmp] at h
  | a :: x, b :: y, c :: z, h1, h2 => by
    rw [pcmp] at h1 h2 ⊢
    have t := ord3_cmpS.trans a b c
    by_cases e1 : cmpS a b = 0
    · rw [if_pos e1] at h1
      rw [cmpS_zero.1 e1]
      by_cases e2 : cmpS b c = 0
      · rw [if_pos e2] at h2 ⊢
        exact pcmp_trans h1 h2
      · rw [if_neg e2] at h2 ⊢
        exact h2
    · rw [if_neg e1] at h1
      by_cases e2 : cmpS b c = 0
      · rw [← cmpS_zero.1 e2, if_neg e1]; exact h1
      · rw [if_neg e2] at h2
        have h3 := t h1 h2
        by_cases e3 : cmpS a c = 0
        · exfalso
          have := cmpS_zero.1 e3
          subst this
          have := cmpS_anti a b
          omega
        · rw [if_neg e3]; exact h3
theorem pcmp_cons (a : Bytes) (x y : List Bytes) : pcmp (a :: x) (a :: y) = pcmp x y := by rw [pcmp, if_pos (cmpS_zero.2 rfl)]
theorem pcmp_pre (p x y : List Bytes) : pcmp (p ++ x) (p ++ y) = pcmp x y := by
  induction p with
  | nil => rfl
  | cons a p ih => rw [List.cons_append, List.cons_append, pcmp_cons, ih]
/-- Of the same length: what follows decides only where they are one. -/
theorem pcmp_app : ∀ {x y : List Bytes} (u v : List Bytes), x.length = y.length → pcmp (x ++ u) (y ++ v) = if pcmp x y = 0 then pcmp u v else pcmp x y
  | [], [], u, v, _ => by simp [pcmp]
  | [], _ :: _, _, _, h => by simp at h
  | _ :: _, [], _, _, h => by simp at h
  | a :: x, b :: y, u, v, h => by
    rw [List.cons_append, List.cons_append, pcmp, pcmp, pcmp_app u v (by simpa using h)]
    by_cases e : cmpS a b = 0
    · simp [e]
    · simp [e]
theorem pcmp_one (a b : Bytes) : pcmp [a] [b] = cmpS a b := by
  rw [pcmp]
  split
  · rename_i h; rw [h]; rfl
  · rfl
theorem cmpS_le (a b : Bytes) : cmpS a b ≤ 0 ↔ a ≤ b := by
  have h1 := @cmpS_neg b a
  have h2 := cmpS_anti a b
  rw [bless] at h1
  constructor
  · intro h
    refine List.not_lt.1 fun hl => ?_
    have := h1.2 (decide_eq_true hl)
    omega
  · intro h
    rcases Int.lt_or_le 0 (cmpS a b) with h3 | h3
    · have := of_decide_eq_true (h1.1 (by omega))
      exact absurd h (List.not_le.2 this)
    · exact h3
end Go.Toll
