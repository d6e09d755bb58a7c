/-
  Numbers of two words: products, quotients; a quotient bit by bit.
-/
import Derived.Test.YtiidghfioofpkaaGreatTollBase
set_option linter.unusedVariables false
set_option linter.unusedSimpArgs false
namespace Go.Toll
open Go Go.Abs

/-! ### One digit of a quotient, by a guess that is put right -/
section
variable {v1 v0 u d : Nat}
/-- What is guessed: q1 is the quotient or greater, r is what the guess leaves. -/
structure Guess (v1 v0 u d q1 r : Nat) : Prop where
  eq : u = q1 * v1 + r
  ge : (u * 4294967296 + d) / (v1 * 4294967296 + v0) ≤ q1
  le : q1 ≤ 4294967297
theorem Guess.start (h1 : 2147483648 ≤ v1) (h0 : v0 < 4294967296) (hd : d < 4294967296) (hu : u < v1 * 4294967296 + v0) : Guess v1 v0 u d (u / v1) (u % v1) := by
  have hv : 0 < v1 * 4294967296 + v0 := by omega
  refine ⟨by have := Nat.div_add_mod u v1; rw [Nat.mul_comm] at this; omega, ?_, ?_⟩
  · have h3 := Nat.div_mul_le_self (u * 4294967296 + d) (v1 * 4294967296 + v0)
    generalize (u * 4294967296 + d) / (v1 * 4294967296 + v0) = q at *
    rw [Nat.le_div_iff_mul_le (by omega)]
    rw [Nat.mul_add, ← Nat.mul_assoc] at h3
    have : 0 ≤ q * v0 := Nat.zero_le _
    omega
  · have h3 := Nat.div_mul_le_self u v1
    generalize u / v1 = q at *
    rcases Nat.lt_or_ge q 4294967298 with c | c
    · omega
    · have := Nat.mul_le_mul_right v1 c
      omega
/-- The guess is too great: one less. -/
theorem Guess.step {q1 r : Nat} (g : Guess v1 v0 u d q1 r) (hd : d < 4294967296) (hu : u < v1 * 4294967296 + v0) (hc : 4294967296 ≤ q1 ∨ 4294967296 * r + d < q1 * v0) : Guess v1 v0 u d (q1 - 1) (r + v1) ∧ 1 ≤ q1 := by
  have hv : 0 < v1 * 4294967296 + v0 := by omega
  have h3 := Nat.div_mul_le_self (u * 4294967296 + d) (v1 * 4294967296 + v0)
  have ge := g.ge
  have eq := g.eq
  generalize hq : (u * 4294967296 + d) / (v1 * 4294967296 + v0) = q at *
  have hlt : q < q1 := by
    rcases hc with c | c
    · have hqB : q < 4294967296 := by
        rw [← hq, Nat.div_lt_iff_lt_mul hv]
        have : (u + 1) * 4294967296 ≤ (v1 * 4294967296 + v0) * 4294967296 := Nat.mul_le_mul_right _ hu
        rw [Nat.mul_comm 4294967296]
        omega
      omega
    · rcases Nat.lt_or_ge q q1 with e | e
      · exact e
      · exfalso
        have h4 := Nat.mul_le_mul_right (v1 * 4294967296 + v0) e
        have h5 : q1 * (v1 * 4294967296 + v0) = q1 * v1 * 4294967296 + q1 * v0 := by rw [Nat.mul_add, Nat.mul_assoc]
        omega
  have hp : 1 ≤ q1 := by omega
  refine ⟨⟨?_, by omega, by have := g.le; omega⟩, hp⟩
  obtain ⟨k, rfl⟩ : ∃ k, q1 = k + 1 := ⟨q1 - 1, by omega⟩
  rw [Nat.add_mul, Nat.one_mul] at eq
  rw [Nat.add_sub_cancel]
  omega
/-- The guess is right. -/
theorem Guess.done {q1 r : Nat} (g : Guess v1 v0 u d q1 r) (hu : u < v1 * 4294967296 + v0) (hc : q1 * v0 ≤ 4294967296 * r + d) : q1 = (u * 4294967296 + d) / (v1 * 4294967296 + v0) := by
  have hv : 0 < v1 * 4294967296 + v0 := by omega
  refine Nat.le_antisymm ?_ g.ge
  rw [Nat.le_div_iff_mul_le hv, Nat.mul_add, ← Nat.mul_assoc]
  have := g.eq
  omega
theorem Guess.far {q1 r : Nat} (g : Guess v1 v0 u d q1 r) (h0 : v0 < 4294967296) (hu : u < v1 * 4294967296 + v0) (hq : q1 ≤ 4294967296) (hr : 4294967296 ≤ r) : q1 = (u * 4294967296 + d) / (v1 * 4294967296 + v0) := by
  refine g.done hu ?_
  have h1 : q1 * v0 ≤ 4294967296 * v0 := Nat.mul_le_mul_right _ hq
  omega
theorem digit_lt (hd : d < 4294967296) (hu : u < v1 * 4294967296 + v0) : (u * 4294967296 + d) / (v1 * 4294967296 + v0) < 4294967296 := by
  have hv : 0 < v1 * 4294967296 + v0 := by omega
  rw [Nat.div_lt_iff_lt_mul hv]
  have : (u + 1) * 4294967296 ≤ (v1 * 4294967296 + v0) * 4294967296 := Nat.mul_le_mul_right _ hu
  rw [Nat.mul_comm 4294967296]
  omega
end
theorem two_digits0 {v x B b q r : Nat} (hv : 0 < v) (h : v * q + r = x) : q * B + (r * B + b) / v = (x * B + b) / v := by
  subst h
  have e : (v * q + r) * B + b = (r * B + b) + v * (q * B) := by
    rw [Nat.add_mul, Nat.mul_assoc, Nat.add_comm (v * (q * B)), Nat.add_right_comm]
  have e2 : ((r * B + b) + v * (q * B)) / v = (r * B + b) / v + q * B := Nat.add_mul_div_left _ _ hv
  rw [e, e2]
  exact Nat.add_comm _ _
/-- Two digits make the quotient. -/
theorem two_digits {v u a b : Nat} (hv : 0 < v) : (u * 4294967296 + a) / v * 4294967296 + ((u * 4294967296 + a) % v * 4294967296 + b) / v = ((u * 4294967296 + a) * 4294967296 + b) / v :=
  two_digits0 hv (Nat.div_add_mod (u * 4294967296 + a) v)
/-- Both numbers shifted: the quotient stays. -/
theorem shift_div {a y s : Nat} : (a * 2 ^ s) / (y * 2 ^ s) = a / y := Nat.mul_div_mul_right a y (Nat.two_pow_pos s)
theorem two64 : (2 : Nat) ^ 64 = 18446744073709551616 := by decide +kernel
theorem lt_two64 {a : Nat} (h : a < 18446744073709551616) : a < 2 ^ 64 := by rw [two64]; exact h
theorem shl_or {hi lo s : Nat} (hs : s ≤ 64) (hlo : lo < 18446744073709551616) : hi * 2 ^ s ||| lo / 2 ^ (64 - s) = hi * 2 ^ s + lo / 2 ^ (64 - s) := by
  have h : lo / 2 ^ (64 - s) < 2 ^ s := by
    rw [Nat.div_lt_iff_lt_mul (Nat.two_pow_pos _), ← Nat.pow_add, show s + (64 - s) = 64 by omega]
    exact lt_two64 hlo
  have := Nat.shiftLeft_add_eq_or_of_lt h hi
  rw [Nat.shiftLeft_eq] at this
  exact this.symm
theorem lo_split {lo s : Nat} (hs : s ≤ 64) : lo * 2 ^ s = lo / 2 ^ (64 - s) * 18446744073709551616 + lo * 2 ^ s % 18446744073709551616 := by
  have h := Nat.div_add_mod (lo * 2 ^ s) 18446744073709551616
  have e : lo * 2 ^ s / 18446744073709551616 = lo / 2 ^ (64 - s) := by
    have e64 : (18446744073709551616 : Nat) = 2 ^ (64 - s) * 2 ^ s := by rw [← Nat.pow_add, show 64 - s + s = 64 by omega, two64]
    rw [e64, Nat.mul_div_mul_right _ _ (Nat.two_pow_pos s)]
  rw [e] at h
  omega
/-- The words of the number that is divided, shifted. -/
theorem words_shift {hi lo y s : Nat} (hs : s ≤ 64) (hlo : lo < 18446744073709551616) (hhi : hi < y) :
    hi * 2 ^ s + lo / 2 ^ (64 - s) < y * 2 ^ s ∧ (hi * 18446744073709551616 + lo) * 2 ^ s = (hi * 2 ^ s + lo / 2 ^ (64 - s)) * 18446744073709551616 + lo * 2 ^ s % 18446744073709551616 := by
  have h : lo / 2 ^ (64 - s) < 2 ^ s := by
    rw [Nat.div_lt_iff_lt_mul (Nat.two_pow_pos _), ← Nat.pow_add, show s + (64 - s) = 64 by omega]
    exact lt_two64 hlo
  have h2 : (hi + 1) * 2 ^ s ≤ y * 2 ^ s := Nat.mul_le_mul_right _ hhi
  rw [Nat.add_mul, Nat.one_mul] at h2
  refine ⟨by omega, ?_⟩
  have := lo_split (lo := lo) hs
  rw [Nat.add_mul, Nat.mul_right_comm]
  omega
/-- The two words divided: what the algorithm's digits make. -/
theorem words_div {hi lo y s : Nat} (hs : s ≤ 64) (hlo : lo < 18446744073709551616) (hhi : hi < y) (u l v : Nat) (hu : u = hi * 2 ^ s + lo / 2 ^ (64 - s)) (hl : l = lo * 2 ^ s % 18446744073709551616) (hv : v = y * 2 ^ s) :
    (u * 4294967296 + l / 4294967296) / v * 4294967296 + ((u * 4294967296 + l / 4294967296) % v * 4294967296 + l % 4294967296) / v = (hi * 18446744073709551616 + lo) / y := by
  have hy : 0 < v := by rw [hv]; exact Nat.mul_pos (by omega) (Nat.two_pow_pos s)
  rw [two_digits hy]
  have e : (u * 4294967296 + l / 4294967296) * 4294967296 + l % 4294967296 = (hi * 18446744073709551616 + lo) * 2 ^ s := by
    rw [(words_shift hs hlo hhi).2, ← hu, ← hl]
    omega
  rw [e, hv, shift_div]

/-! ### A quotient bit by bit -/
/-- One bit more: what the quotient and the rest become. -/
theorem bit_step {left den m b value rest : Nat} (hl : left < den) (hr : rest < den) (hb : b ≤ 1) (hm : left * m = value * den + rest) :
    ∃ value' rest', rest' < den ∧ left * (2 * m + b) = value' * den + rest' ∧
      value' = 2 * value + (if den ≤ 2 * rest then 1 else 0) + (if b = 1 ∧ den ≤ (if den ≤ 2 * rest then 2 * rest - den else 2 * rest) + left then 1 else 0) ∧
      rest' = (if b = 1 then (if den ≤ (if den ≤ 2 * rest then 2 * rest - den else 2 * rest) + left then (if den ≤ 2 * rest then 2 * rest - den else 2 * rest) + left - den else (if den ≤ 2 * rest then 2 * rest - den else 2 * rest) + left) else (if den ≤ 2 * rest then 2 * rest - den else 2 * rest)) := by
  refine ⟨_, _, ?_, ?_, rfl, rfl⟩
  · split <;> split <;> (try split) <;> omega
  · have e : left * (2 * m + b) = 2 * (value * den + rest) + left * b := by rw [Nat.mul_add, ← hm, Nat.mul_left_comm]
    rw [e]
    have h2 : ∀ k : Nat, (2 * value + k) * den = 2 * (value * den) + k * den := fun k => by rw [Nat.add_mul, Nat.mul_assoc]
    rcases (by omega : b = 0 ∨ b = 1) with rfl | rfl
    · by_cases c : den ≤ 2 * rest
      · simp [c]; rw [h2]; omega
      · simp [c]; rw [Nat.mul_assoc]; omega
    · by_cases c : den ≤ 2 * rest
      · by_cases c2 : den ≤ 2 * rest - den + left
        · simp [c, c2]; rw [Nat.add_assoc, h2]; omega
        · simp [c, c2]; rw [h2]; omega
      · by_cases c2 : den ≤ 2 * rest + left
        · simp [c, c2]; rw [h2]; omega
        · simp [c, c2]; rw [Nat.mul_assoc]; omega
/-- The whole quotient. -/
theorem part_eq {d num den : Nat} (h : 0 < den) : d / den * num + d % den * num / den = d * num / den := by
  have e := Nat.div_add_mod d den
  generalize d / den = w at *
  generalize d % den = l at *
  rw [← e, Nat.add_mul, Nat.mul_assoc, Nat.add_comm (den * (w * num)), Nat.add_mul_div_left _ _ h, Nat.add_comm]
theorem part_le {d num den : Nat} (h : num ≤ den) (h0 : 0 < den) : d * num / den ≤ d := by
  rw [Nat.div_le_iff_le_mul_add_pred h0]
  have := Nat.mul_le_mul_left d h
  rw [Nat.mul_comm den]
  omega
end Go.Toll
namespace Go.Toll
open Go Go.Abs
/-! ### How many bits a number has -/
def lenTab : List UInt8 := [0] ++ [1] ++ List.replicate 2 2 ++ List.replicate 4 3 ++ List.replicate 8 4 ++ List.replicate 16 5 ++ List.replicate 32 6 ++ List.replicate 64 7 ++ List.replicate 128 8
def tabN (x : Nat) : Nat := (lenTab[x]?.getD 0).toNat
def lenB (x : Nat) : Nat := if 256 ≤ x then 8 + tabN (x / 256) else tabN x
def lenC (x : Nat) : Nat := if 65536 ≤ x then 16 + lenB (x / 65536) else lenB x
def lenN (x : Nat) : Nat := if 4294967296 ≤ x then 32 + lenC (x / 4294967296) else lenC x
/-- n is the number of x's bits. -/
def Bl (x n : Nat) : Prop := x < 2 ^ n ∧ (n = 0 ∨ 2 ^ (n - 1) ≤ x)
theorem tab_bl : ∀ k : Fin 256, (k.val < 2 ^ tabN k.val ∧ (tabN k.val = 0 ∨ 2 ^ (tabN k.val - 1) ≤ k.val)) ∧ tabN k.val ≤ 8 := by decide +kernel
theorem Bl.more {x n k : Nat} (h : Bl (x / 2 ^ k) n) (hx : 2 ^ k ≤ x) : Bl x (k + n) := by
  obtain ⟨h1, h2⟩ := h
  have hp : 0 < 2 ^ k := Nat.two_pow_pos k
  have h3 : 1 ≤ x / 2 ^ k := (Nat.one_le_div_iff hp).2 hx
  have hn : n ≠ 0 := by
    rintro rfl
    simp at h1
    omega
  have h2 := h2.resolve_left hn
  refine ⟨?_, .inr ?_⟩
  · rw [Nat.div_lt_iff_lt_mul hp, ← Nat.pow_add, Nat.add_comm] at h1; exact h1
  · rw [Nat.le_div_iff_mul_le hp, ← Nat.pow_add] at h2
    rw [show k + n - 1 = n - 1 + k by omega]; exact h2
theorem tabN_bl {x : Nat} (h : x < 256) : Bl x (tabN x) ∧ tabN x ≤ 8 := tab_bl ⟨x, h⟩
theorem lenB_bl {x : Nat} (h : x < 65536) : Bl x (lenB x) ∧ lenB x ≤ 16 := by
  unfold lenB
  split
  · rename_i c
    have := tabN_bl (x := x / 256) (by omega)
    exact ⟨Bl.more (k := 8) this.1 c, by omega⟩
  · have := tabN_bl (x := x) (by omega)
    exact ⟨this.1, by omega⟩
theorem lenC_bl {x : Nat} (h : x < 4294967296) : Bl x (lenC x) ∧ lenC x ≤ 32 := by
  unfold lenC
  split
  · rename_i c
    have := lenB_bl (x := x / 65536) (by omega)
    exact ⟨Bl.more (k := 16) this.1 c, by omega⟩
  · have := lenB_bl (x := x) (by omega)
    exact ⟨this.1, by omega⟩
theorem lenN_bl {x : Nat} (h : x < 18446744073709551616) : Bl x (lenN x) ∧ lenN x ≤ 64 := by
  unfold lenN
  split
  · rename_i c
    have := lenC_bl (x := x / 4294967296) (by omega)
    exact ⟨Bl.more (k := 32) this.1 c, by omega⟩
  · have := lenC_bl (x := x) (by omega)
    exact ⟨this.1, by omega⟩
/-- Shifted until its highest bit is set. -/
theorem norm_shift {y : Nat} (h0 : 0 < y) (h : y < 18446744073709551616) : 9223372036854775808 ≤ y * 2 ^ (64 - lenN y) ∧ y * 2 ^ (64 - lenN y) < 18446744073709551616 ∧ (y < 9223372036854775808 → 1 ≤ 64 - lenN y) ∧ lenN y ≤ 64 ∧ 1 ≤ lenN y := by
  obtain ⟨⟨h1, h2⟩, h3⟩ := lenN_bl h
  have hn : lenN y ≠ 0 := by intro e; rw [e] at h1; simp at h1; omega
  have h2 := h2.resolve_left hn
  generalize lenN y = n at *
  have e63 : (9223372036854775808 : Nat) = 2 ^ (n - 1) * 2 ^ (64 - n) := by rw [← Nat.pow_add, show n - 1 + (64 - n) = 63 by omega]
  have e64 : (18446744073709551616 : Nat) = 2 ^ n * 2 ^ (64 - n) := by rw [← Nat.pow_add, show n + (64 - n) = 64 by omega, two64]
  refine ⟨by rw [e63]; exact Nat.mul_le_mul_right _ h2, by rw [e64]; exact Nat.mul_lt_mul_of_pos_right h1 (Nat.two_pow_pos _), fun hy => ?_, h3, by omega⟩
  rcases Nat.lt_or_ge n 64 with c | c
  · omega
  · obtain rfl : n = 64 := by omega
    have : (2 : Nat) ^ 63 = 9223372036854775808 := by decide +kernel
    have h2 : 2 ^ 63 ≤ y := h2
    omega
end Go.Toll
