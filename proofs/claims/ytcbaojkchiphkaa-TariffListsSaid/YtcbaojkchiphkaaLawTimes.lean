/-
  Contracts: the laws of times and weeks.
-/
import Derived.Test.YtcbaojkchiphkaaAlive
import Derived.Test.YtcbaojkchiphkaaTollBand
set_option linter.unusedVariables false
set_option linter.unusedSimpArgs false
set_option maxRecDepth 100000
namespace Go.Proofs.Ytcbaojkchiphkaa
open Go Go.Abs Go.Toll
variable {gl : Globs} {h : AHeap}

theorem few_len {l : List Tariff} (h : fewB l = true) : l.length ≤ 12 ∧ ∀ y ∈ l, y.bands.length ≤ 40 ∧ y.rates.length ≤ 60 := by
  simp [fewB, shortB] at h
  exact ⟨by omega, fun y hy => by have := h.2 y hy; omega⟩
theorem short_len {x : Tariff} (h : shortB x = true) : x.bands.length ≤ 40 ∧ x.rates.length ≤ 60 := by
  simp [shortB] at h
  omega
theorem atT_len {l : List Tariff} (h : ∀ y ∈ l, y.bands.length ≤ 40 ∧ y.rates.length ≤ 60) (t : Int) : (atT l t).1.bands.length ≤ 40 ∧ (atT l t).1.rates.length ≤ 60 := by
  induction l with
  | nil => simp [atT]
  | cons y l ih =>
    rw [atT]
    split
    · exact h y (by simp)
    · exact ih fun z hz => h z (by simp [hz])

theorem law_Times (l : List Tariff) (x : Tariff) (t : Int) : ACalls Try.prog gl 3 [.ro (l.map encTariff), .agg (encTariff x), .int .i64 t] h fun v h' => v = .bool true := by
  refine ACalls.mono (ACalls.data (.bool true) (ACalls.body Try.f3 _ mixed Try.func3 rfl rfl (by simp [Try.ntmps3]) ?_)) fun _ _ h => h.1
  simp
  refine callS.pure _ (fun _ => law_few l) ?_
  simp
  refine callS.pure _ (fun _ => law_short x) ?_
  simp
  intro hf hs
  have h1 := few_len hf
  have h2 := short_len hs
  have h3 := atT_len h1.2 t
  refine callS.pure _ (fun _ => tariff_At _ l (Rd.ro (by simp)) (by omega) (fun y hy => by have := h1.2 y hy; omega) t) ?_
  simp
  refine callS.pure _ (fun _ => ref22_At _ l (Rd.ro (by simp)) (by omega) t) ?_
  simp
  refine ⟨by decide, ?_⟩
  refine callS.pure _ (fun _ => ref22_Same (atT l t).1 (atT l t).1 (by omega)) ?_
  simp [tarEqB_self]
  refine callS.pure _ (fun _ => tariff_Band x t (by omega)) ?_
  simp
  refine callS.pure _ (fun _ => ref22_Band x t (by omega)) ?_
  simp [bandOf_eq]
  refine callS.pure _ (fun _ => law_alive) ?_
  simp
theorem law_Weeks (x : Tariff) (t : Int) (n : Nat) (hn : n < 256) : ACalls Try.prog gl 5 [.agg (encTariff x), .int .i64 t, .int .u8 n] h fun v h' => v = .bool true := by
  refine ACalls.mono (ACalls.data (.bool true) (ACalls.body Try.f5 _ mixed Try.func5 rfl rfl (by simp [Try.ntmps5]) ?_)) fun _ _ h => h.1
  simp
  refine callS.pure _ (fun _ => law_short x) ?_
  simp
  intro hs ht0 ht1 hl
  have h2 := short_len hs
  have e1 : IntKind.i64.wrap (n : Int) = n := wrap64_of (by omega) (by omega)
  have e2 : IntKind.i64.wrap ((n : Int) * 7) = n * 7 := wrap64_of (by omega) (by omega)
  have e3 : IntKind.i64.wrap ((n : Int) * 7 * 86400) = n * 7 * 86400 := wrap64_of (by omega) (by omega)
  have e4 : IntKind.i64.wrap (t + (n : Int) * 7 * 86400) = t + n * 604800 := by rw [wrap64_of (by omega) (by omega)]; omega
  simp only [e1, e2, e3, e4] at hl ⊢
  refine ⟨by decide, ?_⟩
  refine callS.pure _ (fun _ => tariff_Band x t (by omega)) ?_
  simp
  refine callS.pure _ (fun _ => tariff_Band x _ (by omega)) ?_
  simp [bandOf_week x t n ht0 ht1 hl]
  refine callS.pure _ (fun _ => law_alive) ?_
  simp
end Go.Proofs.Ytcbaojkchiphkaa
