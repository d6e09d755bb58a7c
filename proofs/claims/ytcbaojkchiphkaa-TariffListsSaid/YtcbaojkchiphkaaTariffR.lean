/-
  Contracts: the price of a tariff.
-/
import Derived.Test.YtcbaojkchiphkaaTariff
set_option linter.unusedVariables false
set_option linter.unusedSimpArgs false
set_option maxRecDepth 100000
namespace Go.Proofs.Ytcbaojkchiphkaa
open Go Go.Abs Go.Toll
variable {gl : Globs} {h : AHeap}

theorem tariff_Rate (x : Tariff) (a b : Bytes) (c t : Int) (hx : x.rates.length ≤ 1000) (hb : x.bands.length ≤ 1000) : ACalls Try.prog gl 18 [.agg (encTariff x), .str a, .str b, .int .i64 c, .int .i64 t] h fun v h' => v = .tup [.int .i64 (rateI (bandOf x t) x a b c).1, .int .i64 (rateI (bandOf x t) x a b c).2] ∧ h' = h := by
  refine ACalls.data (by simp) (ACalls.body Try.f18 _ mixed Try.func18 rfl rfl (by simp [Try.ntmps18]) ?_)
  simp
  refine callS.pure _ (fun _ => tariff_Band x t hb) ?_
  simp
  refine AWP.up mixed 2 (fun j fr h' => fr 5 = .ptr h.length 0 0 ∧ fr 12 = .ptr (h.length + 1) 0 0 ∧ fr 22 = .int .i64 j ∧ ∃ band n g, h' = h ++ .cells 4 [encTariff x] :: .cells 5 [[.str a, .str b, .int .i64 c, .str band, .int .i64 n]] :: g ∧
    (j = 0 ∧ band = bandOf x t ∨ j = 1 ∧ band = [] ∧ (centsOf x a b c (bandOf x t)).2 = false ∨ j = 2 ∧ rateI (bandOf x t) x a b c = (0, 22))) 0 (by omega) ⟨by simp, by simp, by simp, bandOf x t, 0, [], by simp, by simp⟩ ?_
  rintro j fr h' hj ⟨e5, e12, e22, band, n, g, rfl, hc⟩
  by_cases h2 : j = 2
  · subst h2
    have hc : rateI (bandOf x t) x a b c = (0, 22) := by simpa using hc
    simp [e5, e12, e22, hc]
  have hj2 : (j : Int) < 2 := by omega
  simp [e5, e12, e22, hj2]
  refine AWP.up mixed x.rates.length (fun i fr h' => fr 5 = .ptr h.length 0 0 ∧ fr 12 = .ptr (h.length + 1) 0 0 ∧ fr 22 = .int .i64 j ∧ fr 25 = .ro (x.rates.map encRate) ∧ fr 26 = .int .i64 x.rates.length ∧ fr 27 = .int .i64 i ∧
    centsOf x a b c band = centsIn a b c band (x.rates.drop i) ∧ ∃ n g, h' = h ++ .cells 4 [encTariff x] :: .cells 5 [[.str a, .str b, .int .i64 c, .str band, .int .i64 n]] :: g) 0 (by omega)
    ⟨by simp [e5], by simp [e12], by simp [e22], by simp, by simp, by simp, by simp [centsOf], n, g, by simp⟩ ?_
  rintro i fr h' hi ⟨e5, e12, e22, e25, e26, e27, hf, n, g, rfl⟩
  rcases Nat.lt_or_ge i x.rates.length with hlt | hge
  · obtain ⟨y, hg, hg'⟩ := get_lt hlt
    rw [drop_get hg] at hf
    have ew := wrap_succ' (i := i) (by omega)
    simp [e5, e12, e22, e25, e26, e27, hlt, hg, hg', ew]
    refine ⟨fun h1 h2' h3 h4 => ?_, fun hn => ⟨i + 1, by omega, by omega, by simp, ?_⟩⟩
    · have hc2 : centsOf x a b c band = (y.cents, true) := by simp [hf, centsIn, isRate, h1, h2', h3, h4]
      rcases hc with ⟨_, rfl⟩ | ⟨_, rfl, hn⟩ | ⟨h, _⟩
      · simp [rateI, hc2]
      · simp [rateI, hc2, hn]
      · exact absurd h h2
    · rw [hf, centsIn, if_neg (by simpa [isRate] using hn)]
  · rw [List.drop_eq_nil_of_le hge] at hf
    have ew := wrap_succ' (i := j) (by omega)
    simp [centsIn, e5, e12, e22, e25, e26, e27, hf, Nat.not_lt.2 hge, ew]
    have hn2 : (centsOf x a b c band).2 = false := by simp [hf, centsIn]
    refine ⟨j + 1, by omega, by omega, by simp, ?_⟩
    rcases hc with ⟨rfl, rfl⟩ | ⟨rfl, rfl, hn⟩ | ⟨h, _⟩
    · exact .inr (.inl ⟨rfl, hn2⟩)
    · exact .inr (.inr ⟨rfl, by simp [rateI, hn, hn2]⟩)
    · exact absurd h h2

end Go.Proofs.Ytcbaojkchiphkaa
