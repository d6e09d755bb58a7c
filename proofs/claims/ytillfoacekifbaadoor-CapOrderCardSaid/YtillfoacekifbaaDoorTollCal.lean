/-
  The calendar: years and months of a day, from the first of 2001, and with leaps of 400 years.
-/
import Derived.Test.YtillfoacekifbaaDoorTollBase
set_option linter.unusedVariables false
set_option linter.unusedSimpArgs false
namespace Go.Toll
open Go Go.Abs

def leapB (y : Nat) : Bool := (y % 4 == 0 && y % 100 != 0) || y % 400 == 0
def ylen (y : Nat) : Nat := if leapB y then 366 else 365
theorem ylen_pos (y : Nat) : 365 ≤ ylen y ∧ ylen y ≤ 366 := by rw [ylen]; split <;> omega
/-- The year of a day that is counted from the first of a year, and the day of that year. -/
def yearGo (y rest : Nat) : Nat × Nat := if rest < ylen y then (y, rest) else yearGo (y + 1) (rest - ylen y)
termination_by rest
decreasing_by have := (ylen_pos y).1; omega
def years (y : Nat) : Nat → Nat
  | 0 => 0
  | n + 1 => ylen y + years (y + 1) n

theorem yearGo_skip (r : Nat) : ∀ n y, yearGo y (r + years y n) = yearGo (y + n) r
  | 0, y => rfl
  | n + 1, y => by
    rw [yearGo, years, if_neg (by omega), show r + (ylen y + years (y + 1) n) - ylen y = r + years (y + 1) n by omega, yearGo_skip r n (y + 1), show y + 1 + n = y + (n + 1) by omega]
theorem leapB_400 (y : Nat) : leapB (y + 400) = leapB y := by
  have h1 : (y + 400) % 4 = y % 4 := by omega
  have h2 : (y + 400) % 100 = y % 100 := by omega
  have h3 : (y + 400) % 400 = y % 400 := by omega
  rw [leapB, leapB, h1, h2, h3]
theorem years_400 : ∀ n y, years (y + 400) n = years y n
  | 0, y => rfl
  | n + 1, y => by
    rw [years, years, show y + 400 + 1 = y + 1 + 400 by omega, years_400 n (y + 1), ylen, ylen, leapB_400]
theorem years_cycle : ∀ q, years (2001 + 400 * q) 400 = 146097
  | 0 => by decide +kernel
  | q + 1 => by rw [show 2001 + 400 * (q + 1) = 2001 + 400 * q + 400 by omega, years_400, years_cycle q]
theorem yearGo_cycle (r : Nat) : ∀ q, yearGo 2001 (r + 146097 * q) = yearGo (2001 + 400 * q) r
  | 0 => rfl
  | q + 1 => by
    rw [show r + 146097 * (q + 1) = (r + 146097) + 146097 * q by omega, yearGo_cycle (r + 146097) q]
    have h := yearGo_skip r 400 (2001 + 400 * q)
    rw [years_cycle q] at h
    rw [h, show 2001 + 400 * q + 400 = 2001 + 400 * (q + 1) by omega]
/-- The program's way gives the reference's year. -/
theorem yearGo_div (d : Nat) : yearGo (2001 + d / 146097 * 400) (d % 146097) = yearGo 2001 d := by
  have h := yearGo_cycle (d % 146097) (d / 146097)
  rw [Nat.mod_add_div] at h
  rw [h, Nat.mul_comm]
theorem yearGo_lt : ∀ (rest y : Nat), (yearGo y rest).2 < ylen (yearGo y rest).1 := by
  intro rest
  induction rest using Nat.strongRecOn with
  | ind rest ih =>
    intro y
    rw [yearGo]
    split
    · assumption
    · exact ih _ (by have := (ylen_pos y).1; omega) _

def mlens (y : Nat) : List Nat := [31, if leapB y then 29 else 28, 31, 30, 31, 30, 31, 31, 30, 31, 30, 31]
def monthGo : List Nat → Nat → Nat → Nat × Nat
  | [], m, r => (m, r)
  | n :: l, m, r => if r < n then (m, r) else monthGo l (m + 1) (r - n)
theorem mlens_sum (y : Nat) : (mlens y).sum = ylen y := by
  rw [mlens, ylen]; split <;> rfl
theorem mlens_len (y : Nat) : (mlens y).length = 12 := rfl
theorem monthGo_le : ∀ (l : List Nat) (m r : Nat), r < l.sum → m ≤ (monthGo l m r).1 ∧ (monthGo l m r).1 < m + l.length
  | [], m, r, h => by simp at h
  | n :: l, m, r, h => by
    rw [monthGo]
    split
    · simp
    · have := monthGo_le l (m + 1) (r - n) (by rw [List.sum_cons] at h; omega)
      rw [List.length_cons]; omega

/-- Year, month, day of the month; three times 0: none. -/
def dateN (d : Nat) : Nat × Nat × Nat := ((yearGo 2001 d).1, (monthGo (mlens (yearGo 2001 d).1) 1 (yearGo 2001 d).2).1, (monthGo (mlens (yearGo 2001 d).1) 1 (yearGo 2001 d).2).2 + 1)
def dateI (d : Int) : Int × Int × Int := if isDayB d then ((dateN d.toNat).1, (dateN d.toNat).2.1, (dateN d.toNat).2.2) else (0, 0, 0)
theorem yearGo_ge : ∀ (rest y : Nat), y ≤ (yearGo y rest).1 ∧ (yearGo y rest).1 * 365 + (yearGo y rest).2 ≤ y * 365 + rest := by
  intro rest
  induction rest using Nat.strongRecOn with
  | ind rest ih =>
    intro y
    rw [yearGo]
    split
    · exact ⟨Nat.le_refl _, Nat.le_refl _⟩
    · have h := (ylen_pos y).1
      have := ih (rest - ylen y) (by omega) (y + 1)
      omega
theorem dateN_month (d : Nat) : 1 ≤ (dateN d).2.1 ∧ (dateN d).2.1 ≤ 12 := by
  have h := monthGo_le (mlens (yearGo 2001 d).1) 1 (yearGo 2001 d).2 (by rw [mlens_sum]; exact yearGo_lt d 2001)
  rw [mlens_len] at h
  exact ⟨h.1, by have := h.2; simp only [dateN]; omega⟩
theorem dateN_year (d : Nat) : 2001 ≤ (dateN d).1 := (yearGo_ge d 2001).1

/-! ### Periods -/
def perI (days t : Int) : Int :=
  if dayI t < 0 then -1 else if days = 1 then dayI t else if days = 0 then
    if isDayB (dayI t) then 12 * ((dateI (dayI t)).1 - 2001) + (dateI (dayI t)).2.1 - 1 else -1
  else -1
end Go.Toll
