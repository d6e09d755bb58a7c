/-
  Contract: the law of the prices.
-/
import Derived.Test.YtcbaojkchiphkaaRatesR
set_option linter.unusedVariables false
set_option linter.unusedSimpArgs false
set_option maxRecDepth 100000
namespace Go.Proofs.Ytcbaojkchiphkaa
open Go Go.Abs Go.Toll
variable {gl : Globs} {h : AHeap}

set_option maxHeartbeats 1000000 in
theorem law_Rates (x : Tariff) (a b : Bytes) (c t : Int) : ACalls Try.prog gl 4 [.agg (encTariff x), .agg [.str a, .str b, .int .i64 c, .int .i64 t]] h fun v h' => v = .bool true := by
  refine ACalls.mono (ACalls.data (.bool true) (ACalls.body Try.f4 _ mixed Try.func4 rfl rfl (by simp [Try.ntmps4]) ?_)) fun _ _ h => h.1
  simp
  refine callS.pure _ (fun _ => law_short x) ?_
  simp
  intro hs
  have h2 := short_len hs
  refine callS.pure _ (fun _ => tariff_Rate x a b c t (by omega) (by omega)) ?_
  simp
  refine callS.pure _ (fun _ => ref22_Rate x a b c t (by omega) (by omega)) ?_
  simp [bandOf_eq]
  refine ⟨by decide, ?_⟩
  refine callS.pure _ (fun _ => tariff_Rates x c (by omega)) ?_
  simp
  refine callS.pure _ (fun _ => ref22_Rates x c (by omega)) ?_
  simp [ratesB_eq]
  refine callS.pure _ (fun _ => ref22_SameRates _ _ ?_) ?_
  · have := List.length_filter_le (fun r : Rate => decide (r.cls = c)) x.rates
    rw [ratesS, sortR_length]; omega
  simp
  refine callS.pure _ (fun _ => law_alive) ?_
  simp
end Go.Proofs.Ytcbaojkchiphkaa
