/-
  Costs of readings: what is farther away in time costs no less. No program in sight.
-/
import Derived.Test.YtmnmbkcdjpidgaaTollSeen
set_option linter.unusedVariables false
set_option linter.unusedSimpArgs false
namespace Go.Toll
open Go Go.Abs

/-- A time that is moved away from another one. -/
def awayI (t u n : Int) : Int := if t ≤ u then u + n else u - n
theorem dist_away (t u n : Int) (hn : 0 ≤ n) : distI t u ≤ distI t (awayI t u n) := by
  unfold distI awayI; split <;> omega
theorem pair_far (a b : TSeen) (n : Int) (hn : 0 ≤ n) (h : 0 ≤ pairI a { b with time := awayI a.time b.time n }) :
    0 ≤ pairI a b ∧ pairI a b ≤ pairI a { b with time := awayI a.time b.time n } := by
  have hd := dist_away a.time b.time n hn
  have h1 := lackI_range a.score
  have h2 := lackI_range b.score
  have h3 := distI_nonneg a.time b.time
  unfold pairI at *
  simp only [] at h ⊢
  split at h
  · omega
  · rename_i hc
    have hc' : ¬(a.kind ≠ 1 ∨ b.kind ≠ 2 ∨ a.point ≠ b.point ∨ 20 < distI a.time b.time) := by
      rintro (q | q | q | q)
      · exact hc (.inl q)
      · exact hc (.inr (.inl q))
      · exact hc (.inr (.inr (.inl q)))
      · exact hc (.inr (.inr (.inr (by omega))))
    rw [if_neg hc', if_neg hc]
    split <;> omega
theorem axles_far (p : Bytes) (t lane : Int) (s : TSeen) (n : Int) (hn : 0 ≤ n) (h : 0 ≤ axlesI p t lane { s with time := awayI t s.time n }) :
    0 ≤ axlesI p t lane s ∧ axlesI p t lane s ≤ axlesI p t lane { s with time := awayI t s.time n } := by
  have hd := dist_away t s.time n hn
  have h3 := distI_nonneg t s.time
  unfold axlesI at *
  simp only [] at h ⊢
  split at h
  · omega
  · rename_i hc
    have hc' : ¬(s.kind ≠ 3 ∨ p ≠ s.point ∨ 10 < distI t s.time) := by
      rintro (q | q | q)
      · exact hc (.inl q)
      · exact hc (.inr (.inl q))
      · exact hc (.inr (.inr (by omega)))
    rw [if_neg hc', if_neg hc]
    split <;> omega
end Go.Toll
