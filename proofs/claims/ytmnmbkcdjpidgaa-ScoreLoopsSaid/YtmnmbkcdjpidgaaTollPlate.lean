/-
  Plates: characters that are easily confused, and the distance of two plates.
-/
import Derived.Test.YtmnmbkcdjpidgaaTollSeen
import Derived.Test.YtmnmbkcdjpidgaaAbsList
import Derived.Lib.Bytealg
set_option linter.unusedVariables false
set_option linter.unusedSimpArgs false
namespace Go.Toll
open Go Go.Abs

def pairL : List (UInt8 × UInt8) := [(48, 79), (48, 68), (48, 81), (49, 73), (50, 90), (53, 83), (56, 66), (54, 71), (85, 86)]
def likeB (a b : UInt8) : Bool := pairL.any fun p => (p.1 == a && p.2 == b) || (p.1 == b && p.2 == a)
def lookS (a : UInt8) : Bytes := (pairL.filter fun p => p.1 == a).map (·.2)
def likeT : List (AV × AV) := [(.int .u8 48, .str [79, 68, 81]), (.int .u8 49, .str [73]), (.int .u8 50, .str [90]), (.int .u8 53, .str [83]), (.int .u8 56, .str [66]), (.int .u8 54, .str [71]), (.int .u8 85, .str [86])]
theorem u8n {a : UInt8} {n : Nat} (h : n < 256) : a.toNat = n ↔ a = UInt8.ofNat n := by
  constructor
  · intro e
    rw [← e]; simp
  · rintro rfl
    simp; omega
theorem u8i {a : UInt8} {n : Nat} (h : n < 256) : ((a.toNat : Nat) : Int) = (n : Int) ↔ a = UInt8.ofNat n := by
  rw [← u8n h]; omega
theorem likeT_look (a : UInt8) : alook likeT (.int .u8 a.toNat) = if lookS a = [] then none else some (.str (lookS a)) := by
  have k := fun n (h : n < 256) => u8i (a := a) h
  simp only [likeT, alook_cons, alook_nil]
  simp [ceq, acells]
  have e1 := k 48 (by omega); have e2 := k 49 (by omega); have e3 := k 50 (by omega); have e4 := k 53 (by omega); have e5 := k 56 (by omega); have e6 := k 54 (by omega); have e7 := k 85 (by omega)
  simp only [Int.cast_ofNat_Int] at e1 e2 e3 e4 e5 e6 e7
  simp only [e1, e2, e3, e4, e5, e6, e7]
  by_cases h1 : a = 48
  · subst h1; rfl
  by_cases h2 : a = 49
  · subst h2; rfl
  by_cases h3 : a = 50
  · subst h3; rfl
  by_cases h4 : a = 53
  · subst h4; rfl
  by_cases h5 : a = 56
  · subst h5; rfl
  by_cases h6 : a = 54
  · subst h6; rfl
  by_cases h7 : a = 85
  · subst h7; rfl
  have g : lookS a = [] := by
    have n1 := Ne.symm h1; have n2 := Ne.symm h2; have n3 := Ne.symm h3; have n4 := Ne.symm h4; have n5 := Ne.symm h5; have n6 := Ne.symm h6; have n7 := Ne.symm h7
    simp [lookS, pairL, n1, n2, n3, n4, n5, n6, n7]
  rw [if_pos g]
  simp [UInt8.ofNat, h1, h2, h3, h4, h5, h6, h7]
theorem idx_look (l : List UInt8) (c : UInt8) : 0 ≤ Lib.indexByte l c ↔ c ∈ l := by
  induction l with
  | nil => simp [Lib.indexByte]
  | cons b l ih =>
    have := Lib.indexByte_ge l c
    rw [Lib.indexByte, List.mem_cons]
    by_cases hb : b = c
    · subst hb; simp
    · simp only [beq_iff_eq, hb, if_false]
      rw [← ih]
      split <;> rename_i h1
      · simp only [show ¬ (0 : Int) ≤ -1 by omega, false_iff]
        rintro (h2 | h2)
        · exact hb h2.symm
        · omega
      · constructor
        · intro _; right; omega
        · rintro (h2 | h2)
          · exact absurd h2.symm hb
          · omega
theorem like_look (a b : UInt8) : likeB a b = (decide (0 ≤ Lib.indexByte (lookS a) b) || decide (0 ≤ Lib.indexByte (lookS b) a)) := by
  rw [Bool.eq_iff_iff, Bool.or_eq_true, decide_eq_true_eq, decide_eq_true_eq, idx_look, idx_look]
  simp only [likeB, List.any_eq_true, Bool.or_eq_true, Bool.and_eq_true, beq_iff_eq, lookS, List.mem_map, List.mem_filter]
  constructor
  · rintro ⟨p, hp, h | h⟩
    · exact .inl ⟨p, ⟨hp, h.1⟩, h.2⟩
    · exact .inr ⟨p, ⟨hp, h.1⟩, h.2⟩
  · rintro (⟨p, ⟨hp, h⟩, h2⟩ | ⟨p, ⟨hp, h⟩, h2⟩)
    · exact ⟨p, hp, .inl ⟨h, h2⟩⟩
    · exact ⟨p, hp, .inr ⟨h, h2⟩⟩
def flatB : Bytes := [48, 79, 48, 68, 48, 81, 49, 73, 50, 90, 53, 83, 56, 66, 54, 71, 85, 86]
theorem flat_at {i : Nat} (h : i < 9) : ∃ p q, flatB[2 * i]? = some p ∧ flatB[2 * i + 1]? = some q ∧ pairL[i]? = some (p, q) := by
  match i, h with
  | 0, _ | 1, _ | 2, _ | 3, _ | 4, _ | 5, _ | 6, _ | 7, _ | 8, _ => exact ⟨_, _, rfl, rfl, rfl⟩
  | n + 9, h => omega
/-- The table of distances: how far the first i characters of one plate are from the first k of the other one. -/
def plC (a b : UInt8) : Int := if a = b then 0 else if likeB a b = true then 1 else 3
def plD (a b : Bytes) : Nat → Nat → Int
  | 0, k => 3 * k
  | i + 1, 0 => 3 * (i + 1 : Nat)
  | i + 1, k + 1 => min (plD a b i k + plC (a.getD i 0) (b.getD k 0)) (min (plD a b i (k + 1) + 3) (plD a b (i + 1) k + 3))
def cutB (s : Bytes) : Bytes := s.take 32
def plateD (a b : Bytes) : Int := plD (cutB a) (cutB b) (cutB a).length (cutB b).length
theorem plC_range (a b : UInt8) : 0 ≤ plC a b ∧ plC a b ≤ 3 := by
  unfold plC; split
  · omega
  · split <;> omega
theorem plD_range (a b : Bytes) : ∀ i k, 0 ≤ plD a b i k ∧ plD a b i k ≤ 3 * (i + k : Nat)
  | 0, k => by rw [plD]; omega
  | i + 1, 0 => by rw [plD]; omega
  | i + 1, k + 1 => by
    have h1 := plD_range a b i k
    have h2 := plD_range a b i (k + 1)
    have h3 := plD_range a b (i + 1) k
    have h4 := plC_range (a.getD i 0) (b.getD k 0)
    rw [plD]; omega
theorem cutB_len (s : Bytes) : (cutB s).length ≤ 32 := by rw [cutB, List.length_take]; omega
theorem fillC_old (f : Nat → List AV) (z : List AV) {n i k : Nat} (h : k < i) : (fillC f z n i)[k]? = some (f k) := by
  rw [fillC, List.getElem?_append_left (by simpa using h)]
  simp [h]
def joinsB (a b : TSeen) : Bool := if a.kind ≠ b.kind then false else if b.kind = 1 then decide (a.tag = b.tag) else decide (plateD a.plate b.plate ≤ 2)
end Go.Toll
