/-
  Comparisons of numbers and of texts, as the program makes them.
-/
import Derived.Test.YtmdenljmfeejfaaAbsSort
import Derived.Test.YtmdenljmfeejfaaAbsList
import Derived.Test.YtmdenljmfeejfaaTollRate
set_option linter.unusedVariables false
set_option linter.unusedSimpArgs false
namespace Go.Toll
open Go Go.Abs

def cmpS (a b : Bytes) : Int := if Op.bytesLess a b then -1 else if a = b then 0 else 1
theorem cmpS_eq (a b : Bytes) : cmpS a b = Lib.compareBytes a b := by
  have h1 := cmpB_less a b
  have h2 := cmpB_eq a b
  have h3 := cmpB_vals a b
  rw [cmpS, ← h1]
  by_cases hl : Lib.compareBytes a b < 0
  · rw [if_pos (by simpa using hl)]; omega
  · rw [if_neg (by simpa using hl)]
    by_cases he : a = b
    · rw [if_pos he]; exact (h2.2 he).symm
    · rw [if_neg he]
      have : Lib.compareBytes a b ≠ 0 := fun h => he (h2.1 h)
      omega
theorem ord3_cmpS : Ord3 cmpS := by
  have : cmpS = Lib.compareBytes := by funext a b; exact cmpS_eq a b
  rw [this]; exact ord3_bytes
theorem cmpI_zero {a b : Int} : cmpI a b = 0 ↔ a = b := by
  unfold cmpI
  split
  · omega
  · split <;> omega
theorem cmpI_neg {a b : Int} : cmpI a b < 0 ↔ a < b := by
  unfold cmpI
  split
  · omega
  · split <;> omega
theorem cmpS_zero {a b : Bytes} : cmpS a b = 0 ↔ a = b := by rw [cmpS_eq]; exact cmpB_eq a b
theorem cmpS_neg {a b : Bytes} : cmpS a b < 0 ↔ Op.bytesLess a b = true := by
  rw [cmpS_eq, ← cmpB_less]; simp
end Go.Toll
