/-
  Tables of costs. No program in sight.
-/
import Derived.Test.YtmnmbkcdjpidgaaTollMerge
set_option linter.unusedVariables false
set_option linter.unusedSimpArgs false
namespace Go.Toll
open Go Go.Abs

def zN : List AV := [.int .i64 0]
theorem zN_len : zN.length = 1 := rfl
theorem zN_tail : zN.tail = [] := rfl
def encGs (T : List (List TSeen)) : AV := .ro (T.map fun g => [.ro (g.map encSeen)])
/-- The better one of a cost and the best of those before (below zero: none). -/
def stepI (best c : Int) : Int := if 0 ≤ c ∧ (best < 0 ∨ c < best) then c else best
def rowF (best : Int) (s : TSeen) : List TSeen → Int
  | [] => best
  | t :: q => rowF (stepI best (pairI s t)) s q
def crossF (best : Int) : List TSeen → List TSeen → Int
  | [], _ => best
  | s :: a, b => crossF (rowF best s b) a b
def crossI (a b : List TSeen) : Int := crossF (-1) a b
def encI (n : Int) : List AV := [.int .i64 n]
@[simp] theorem encI_eq (n : Int) : encI n = [.int .i64 n] := rfl
def spoilB (s : TSeen) : Bool := !isTimeB s.time || decide (40 < s.plate.length)
def greatB (l : List TSeen) : Bool := decide (30 < l.length) || l.any spoilB
end Go.Toll
