/-
  Contracts: tariffs, times and bands.
-/
import Derived.Test.YtcbaojkchiphkaaClock
set_option linter.unusedVariables false
set_option linter.unusedSimpArgs false
set_option maxRecDepth 100000
namespace Go.Proofs.Ytcbaojkchiphkaa
open Go Go.Abs Go.Toll
variable {gl : Globs} {h : AHeap}

theorem tariff_Band (x : Tariff) (t : Int) (hb : x.bands.length ≤ 1000) : ACalls Try.prog gl 15 [.agg (encTariff x), .int .i64 t] h fun v h' => v = .str (bandOf x t) ∧ h' = h := by
  refine ACalls.data (.str _) (ACalls.body Try.f15 _ mixed Try.func15 rfl rfl (by simp [Try.ntmps15]) ?_)
  simp
  refine AWP.up mixed x.bands.length (fun i fr h' => fr 1 = .int .i64 t ∧ fr 8 = .ro (x.bands.map encBand) ∧ fr 9 = .int .i64 x.bands.length ∧ fr 10 = .int .i64 i ∧
    bandOf x t = (((x.bands.drop i).find? fun b => inWB b.win t).map (·.name)).getD [] ∧ ∃ g, h' = h ++ g) 0 (by omega) ⟨by simp, by simp, by simp, by simp, by simp [bandOf], _, rfl⟩ ?_
  rintro i fr h' hi ⟨e1, e8, e9, e10, hf, g, rfl⟩
  rcases Nat.lt_or_ge i x.bands.length with hlt | hge
  · obtain ⟨b, hg, hg'⟩ := get_lt hlt
    rw [drop_get hg] at hf
    have ew := wrap_succ' (i := i) (by omega)
    simp [e1, e8, e9, e10, hlt, hg, hg']
    refine callS.pure _ (fun _ => clock_In b.win t) ?_
    simp [e1, e8, e9, e10, ew]
    refine ⟨fun ht => ?_, fun ht => ?_⟩
    · simp [hf, ht]
    · refine ⟨i + 1, by omega, by omega, by simp, ?_⟩
      simp [hf, ht]
  · rw [List.drop_eq_nil_of_le hge] at hf
    simp [e1, e8, e9, e10, Nat.not_lt.2 hge, hf]
theorem ref22_Band (x : Tariff) (t : Int) (hb : x.bands.length ≤ 1000) : ACalls Try.prog gl 16 [.agg (encTariff x), .int .i64 t] h fun v h' => v = .str (refBandOf x t) ∧ h' = h := by
  refine ACalls.data (.str _) (ACalls.body Try.f16 _ mixed Try.func16 rfl rfl (by simp [Try.ntmps16]) ?_)
  simp
  refine AWP.up mixed x.bands.length (fun i fr h' => fr 1 = .int .i64 t ∧ fr 2 = .ptr h.length 0 0 ∧ fr 5 = .int .i64 i ∧
    refBandOf x t = (((x.bands.drop i).find? fun b => refInB b.win t).map (·.name)).getD [] ∧ ∃ g, h' = h ++ .cells 4 [encTariff x] :: g) 0 (by omega) ⟨by simp, by simp, by simp, by simp [refBandOf], [], by simp⟩ ?_
  rintro i fr h' hi ⟨e1, e2, e5, hf, g, rfl⟩
  rcases Nat.lt_or_ge i x.bands.length with hlt | hge
  · obtain ⟨b, hg, hg'⟩ := get_lt hlt
    rw [drop_get hg] at hf
    have ew := wrap_succ' (i := i) (by omega)
    simp [e1, e2, e5, hlt, hg, hg']
    refine callS.pure _ (fun _ => ref04_In b.win t) ?_
    simp [e1, e2, e5, hlt, hg, hg', ew]
    refine ⟨fun ht => ?_, fun ht => ?_⟩
    · simp [hf, ht]
    · refine ⟨i + 1, by omega, by omega, by simp, ?_⟩
      simp [hf, ht]
  · rw [List.drop_eq_nil_of_le hge] at hf
    simp [e1, e2, e5, Nat.not_lt.2 hge, hf]
theorem law_short (x : Tariff) : ACalls Try.prog gl 11 [.agg (encTariff x)] h fun v h' => v = .bool (shortB x) ∧ h' = h := by
  refine ACalls.data (.bool _) (ACalls.body Try.f11 _ mixed Try.func11 rfl rfl (by simp [Try.ntmps11]) ?_)
  simp [shortB]
theorem law_few (l : List Tariff) : ACalls Try.prog gl 10 [.ro (l.map encTariff)] h fun v h' => v = .bool (fewB l) ∧ h' = h := by
  refine ACalls.data (.bool _) (ACalls.body Try.f10 _ mixed Try.func10 rfl rfl (by simp [Try.ntmps10]) ?_)
  simp
  refine ⟨fun hgt => ?_, fun hle => ?_⟩
  · simp [fewB]; omega
  refine AWP.up mixed l.length (fun i fr h' => fr 0 = .ro (l.map encTariff) ∧ fr 3 = .int .i64 i ∧ (fewB l = (l.drop i).all shortB) ∧ ∃ g, h' = h ++ g) 0 (by omega) ⟨by simp, by simp, by simp [fewB, hle], [], by simp⟩ ?_
  rintro i fr h' hi ⟨e0, e3, hf, g, rfl⟩
  rcases Nat.lt_or_ge i l.length with hlt | hge
  · obtain ⟨x, hg, hg'⟩ := get_lt hlt
    rw [drop_get hg] at hf
    have ew := wrap_succ' (i := i) (by omega)
    simp [e0, e3, hlt, hg, hg', ew]
    refine callS.pure _ (fun _ => law_short x) ?_
    simp [e0, e3, ew, hf]
    refine ⟨fun h1 h2 => by simp_all, fun h1 => ⟨i + 1, by omega, by omega, by simp, by simp [h1]⟩⟩
  · simp [e0, e3, hf, Nat.not_lt.2 hge]
    rw [List.drop_eq_nil_of_le hge]; simp
theorem ref22_SameRates (a b : List Rate) (ha : a.length ≤ 1000) : ACalls Try.prog gl 20 [.ro (a.map encRate), .ro (b.map encRate)] h fun v h' => v = .bool (decide (a = b)) ∧ h' = h := by
  refine ACalls.data (.bool _) (ACalls.body Try.f20 _ mixed Try.func20 rfl rfl (by simp [Try.ntmps20]) ?_)
  simp
  refine ⟨fun hne => fun e => hne (by rw [e]), fun hl => ?_⟩
  refine AWP.up mixed a.length (fun i fr h' => fr 0 = .ro (a.map encRate) ∧ fr 1 = .ro (b.map encRate) ∧ fr 5 = .int .i64 i ∧ (a = b ↔ a.drop i = b.drop i) ∧ ∃ g, h' = h ++ g) 0 (by omega) ⟨by simp, by simp, by simp, by simp, [], by simp⟩ ?_
  rintro i fr h' hi ⟨e0, e1, e5, hf, g, rfl⟩
  rcases Nat.lt_or_ge i a.length with hlt | hge
  · obtain ⟨x, hg, hg'⟩ := get_lt hlt
    obtain ⟨y, hy, hy'⟩ := get_lt (l := b) (i := i) (by omega)
    rw [drop_get hg, drop_get hy] at hf
    have ew := wrap_succ' (i := i) (by omega)
    simp [e0, e1, e5, hlt, hg, hg', hy, hy', ew, ← hl]
    refine ⟨by decide, by omega, fun hne e => ?_, fun h1 h2 h3 h4 h5 => ⟨i + 1, by omega, by omega, by simp, ?_⟩⟩
    · obtain ⟨rfl, _⟩ := List.cons.inj (hf.1 e)
      simp at hne
    · rw [hf]; cases x; cases y; simp_all
  · rw [List.drop_eq_nil_of_le hge, List.drop_eq_nil_of_le (by omega)] at hf
    simp [e0, e1, e5, hf, Nat.not_lt.2 hge]
theorem ref22_Same (a b : Tariff) (ha : a.bands.length ≤ 1000 ∧ a.rates.length ≤ 1000) : ACalls Try.prog gl 14 [.agg (encTariff a), .agg (encTariff b)] h fun v h' => v = .bool (tarEqB a b) ∧ h' = h := by
  refine ACalls.data (.bool _) (ACalls.body Try.f14 _ mixed Try.func14 rfl rfl (by simp [Try.ntmps14]) ?_)
  simp
  refine ⟨fun hne => ?_, fun h1 h2 hl => ?_⟩
  · simp only [tarEqB, decide_eq_false_iff_not]
    rintro ⟨e1, e2, e3⟩
    simp [e1, e2] at hne
  refine AWP.up mixed a.bands.length (fun i fr h' => fr 2 = .ptr h.length 0 0 ∧ fr 3 = .ptr (h.length + 1) 0 0 ∧ fr 5 = .int .i64 i ∧ (a.bands = b.bands ↔ a.bands.drop i = b.bands.drop i) ∧ ∃ g, h' = h ++ .cells 4 [encTariff a] :: .cells 4 [encTariff b] :: g) 0 (by omega) ⟨by simp, by simp, by simp, by simp, [], by simp⟩ ?_
  rintro i fr h' hi ⟨e2, e3, e5, hf, g, rfl⟩
  rcases Nat.lt_or_ge i a.bands.length with hlt | hge
  · obtain ⟨x, hg, hg'⟩ := get_lt hlt
    obtain ⟨y, hy, hy'⟩ := get_lt (l := b.bands) (i := i) (by omega)
    rw [drop_get hg, drop_get hy] at hf
    have ew := wrap_succ' (i := i) (by omega)
    simp [e2, e3, e5, hlt, hg, hg', hy, hy', ew, ← hl]
    refine ⟨by decide, by omega, fun hne => ?_, fun h1 h2 h3 h4 => ⟨i + 1, by omega, by omega, by simp, ?_⟩⟩
    · simp only [tarEqB, decide_eq_false_iff_not]
      rintro ⟨_, e, _⟩
      obtain ⟨rfl, _⟩ := List.cons.inj (hf.1 e)
      simp at hne
    · obtain ⟨_, ⟨_, _, _⟩⟩ := x; obtain ⟨_, ⟨_, _, _⟩⟩ := y; simp_all
  · rw [List.drop_eq_nil_of_le hge, List.drop_eq_nil_of_le (by omega)] at hf
    simp [e2, e3, e5, hf, Nat.not_lt.2 hge]
    refine callS.pure _ (fun _ => ref22_SameRates a.rates b.rates ha.2) ?_
    simp [tarEqB, hf.2 rfl, show a.valid = b.valid by cases hx : a.valid; cases hy : b.valid; simp_all]
theorem ref22_of (x : Tariff) (a b : Bytes) (c : Int) (d : Bytes) (hx : x.rates.length ≤ 1000) : ACalls Try.prog gl 35 [.agg (encTariff x), .str a, .str b, .int .i64 c, .str d] h fun v h' => v = .tup [.int .i64 (centsOf x a b c d).1, .bool (centsOf x a b c d).2] ∧ h' = h := by
  refine ACalls.data (by simp) (ACalls.body Try.f35 _ mixed Try.func35 rfl rfl (by simp [Try.ntmps35]) ?_)
  simp
  refine AWP.up mixed x.rates.length (fun i fr h' => fr 1 = .str a ∧ fr 2 = .str b ∧ fr 3 = .int .i64 c ∧ fr 4 = .str d ∧ fr 5 = .ptr h.length 0 0 ∧ fr 12 = .int .i64 i ∧
    centsOf x a b c d = centsIn a b c d (x.rates.drop i) ∧
    ∃ g, h' = h ++ .cells 4 [encTariff x] :: g) 0 (by omega) ⟨by simp, by simp, by simp, by simp, by simp, by simp, by simp [centsOf], [], by simp⟩ ?_
  rintro i fr h' hi ⟨e1, e2, e3, e4, e5, e12, hf, g, rfl⟩
  rcases Nat.lt_or_ge i x.rates.length with hlt | hge
  · obtain ⟨y, hg, hg'⟩ := get_lt hlt
    rw [drop_get hg] at hf
    have ew := wrap_succ' (i := i) (by omega)
    simp [e1, e2, e3, e4, e5, e12, hlt, hg, hg', ew]
    refine ⟨fun h1 h2 h3 h4 => ?_, fun hn => ⟨i + 1, by omega, by omega, by simp, ?_⟩⟩
    · simp [hf, centsIn, isRate, h1, h2, h3, h4]
    · rw [hf, centsIn, if_neg (by simpa [isRate] using hn)]
  · rw [List.drop_eq_nil_of_le hge] at hf
    simp [centsIn, e1, e2, e3, e4, e5, e12, hf, Nat.not_lt.2 hge]
theorem ref22_Rate (x : Tariff) (a b : Bytes) (c t : Int) (hx : x.rates.length ≤ 1000) (hb : x.bands.length ≤ 1000) : ACalls Try.prog gl 19 [.agg (encTariff x), .str a, .str b, .int .i64 c, .int .i64 t] h fun v h' => v = .tup [.int .i64 (rateI (refBandOf x t) x a b c).1, .int .i64 (rateI (refBandOf x t) x a b c).2] ∧ h' = h := by
  refine ACalls.data (by simp) (ACalls.body Try.f19 _ mixed Try.func19 rfl rfl (by simp [Try.ntmps19]) ?_)
  simp
  refine ⟨by decide, ?_⟩
  refine callS.pure _ (fun _ => ref22_Band x t hb) ?_
  simp
  refine callS.pure _ (fun _ => ref22_of x a b c _ hx) ?_
  simp
  refine ⟨fun h1 => by simp [rateI, h1], fun h1 => ?_⟩
  refine callS.pure _ (fun _ => ref22_of x a b c [] hx) ?_
  simp
  refine ⟨fun h2 => by simp [rateI, h1, h2], fun h2 => by simp [rateI, h1, h2]⟩
end Go.Proofs.Ytcbaojkchiphkaa
