/-
  Contracts: the tariff of a time.
-/
import Derived.Test.YtcbaojkchiphkaaSpan
import Derived.Test.YtcbaojkchiphkaaTariff
set_option linter.unusedVariables false
set_option linter.unusedSimpArgs false
set_option maxRecDepth 100000
namespace Go.Proofs.Ytcbaojkchiphkaa
open Go Go.Abs Go.Toll
variable {gl : Globs} {h : AHeap}

theorem Clone_Band (l : List Band) (hl : l.length ≤ 1000) : ACalls Try.prog gl 29 [.ro (l.map encBand)] h fun v h' => v = .ro (l.map encBand) ∧ h' = h := by
  refine ACalls.fresh (ACalls.body Try.f29 _ mixed Try.func29 rfl rfl (by simp [Try.ntmps29]) ?_)
  simp
  refine ⟨⟨by omega, Frz.ownD (m := 4) (es := l.map encBand) (by simp) (by omega) (by simp) (by rw [List.drop_zero, List.take_of_length_le (by simp)]) (by simp)⟩, ?_⟩
  rintro rfl
  exact .nil
theorem Clone_Rate (l : List Rate) (hl : l.length ≤ 1000) : ACalls Try.prog gl 30 [.ro (l.map encRate)] h fun v h' => v = .ro (l.map encRate) ∧ h' = h := by
  refine ACalls.fresh (ACalls.body Try.f30 _ mixed Try.func30 rfl rfl (by simp [Try.ntmps30]) ?_)
  simp
  refine ⟨⟨by omega, Frz.ownD (m := 5) (es := l.map encRate) (by simp) (by omega) (by simp) (by rw [List.drop_zero, List.take_of_length_le (by simp)]) (by simp)⟩, ?_⟩
  rintro rfl
  exact .nil
theorem ref22_At (x : AV) (l : List Tariff) (hx : Rd 4 h x (l.map encTariff)) (hl : l.length ≤ 1000) (t : Int) : ACalls Try.prog gl 13 [x, .int .i64 t] h fun v h' => v = .tup [.agg (encTariff (atT l t).1), .int .i64 (atT l t).2] ∧ h' = h := by
  refine ACalls.fresh (ACalls.body Try.f13 _ mixed Try.func13 rfl rfl (by simp [Try.ntmps13]) ?_)
  simp [hx.core, hx.gd]
  refine AWP.up mixed l.length (fun i fr h' => fr 0 = x ∧ fr 1 = .int .i64 t ∧ fr 4 = .ptr h.length 0 0 ∧ fr 6 = .int .i64 i ∧ atT l t = atT (l.drop i) t ∧ ∃ g, h' = h ++ .cells 4 [[.int .i64 0, .int .i64 0, .nil, .nil]] :: g) 0 (by omega) ⟨by simp, by simp, by simp, by simp, by simp, [], rfl⟩ ?_
  rintro i fr h' hi ⟨e0, e1, e4, e6, hf, g, rfl⟩
  have hx := hx.append (.cells 4 [[.int .i64 0, .int .i64 0, .nil, .nil]] :: g)
  rcases Nat.lt_or_ge i l.length with hlt | hge
  · obtain ⟨y, hg, hg'⟩ := get_lt hlt
    rw [drop_get hg, atT] at hf
    have ew := wrap_succ' (i := i) (by omega)
    have h0 : (0 : Int) ≤ i := by omega
    have h1 : (i : Int) < (l.map encTariff).length := by simp; omega
    have hm : (l.map encTariff)[(i : Int).toNat]? = some (encTariff y) := by simp [hg]
    simp [e0, e1, e4, e6, hlt, hx.core, hx.gd, hx.lenOk, hx.alen, hx.iaddrOk, h0, h1, hx.icore, hx.igd, hx.loadV h0 h1 hm, hx.loadOk h0 h1 hm, hx.floadV h0 h1 hm, hx.floadOk h0 h1 hm, hx.faddrOk h0 h1, hx.fcore h0 h1, hx.fgd h0 h1]
    refine callS.pure _ (fun _ => ref05_Has _ [y.valid] (Rd.own (b := h.length + (g.length + 1)) (es := [encIv y.valid]) (by simp) (by simp)) (by simp) t) ?_
    have hx := hx.append [.cells 2 [encIv y.valid]]
    simp at hx
    simp [e0, e1, e4, e6, hlt, hx.core, hx.gd, hx.lenOk, hx.alen, hx.iaddrOk, h0, h1, hx.icore, hx.igd, hx.loadV h0 h1 hm, hx.loadOk h0 h1 hm, hx.floadV h0 h1 hm, hx.floadOk h0 h1 hm, hx.faddrOk h0 h1, hx.fcore h0 h1, hx.fgd h0 h1, hasL, ew]
    refine ⟨fun ht => ?_, fun ht => ⟨i + 1, by omega, by omega, by simp, by simp [hf, ht]⟩⟩
    simp [hf, ht]
    exact .data _ (by simp)
  · rw [List.drop_eq_nil_of_le hge] at hf
    simp [e0, e1, e4, e6, hf, atT, hx.core, hx.gd, hx.lenOk, hx.alen, Nat.not_lt.2 hge]
    exact .tup' (.cons (.agg' (.cons (.data _ (by simp)) (.cons (.data _ (by simp)) (.cons .nil (.cons .nil .nil))))) (.cons (.data _ (by simp)) .nil))
theorem tariff_At (x : AV) (l : List Tariff) (hx : Rd 4 h x (l.map encTariff)) (hl : l.length ≤ 1000) (hs : ∀ y ∈ l, y.bands.length ≤ 1000 ∧ y.rates.length ≤ 1000) (t : Int) : ACalls Try.prog gl 12 [x, .int .i64 t] h fun v h' => v = .tup [.agg (encTariff (atT l t).1), .int .i64 (atT l t).2] ∧ h' = h := by
  refine ACalls.fresh (ACalls.body Try.f12 _ mixed Try.func12 rfl rfl (by simp [Try.ntmps12]) ?_)
  have hx0 := hx.append [.cells 4 [[.int .i64 0, .int .i64 0, .nil, .nil]]]
  simp [hx0.core, hx0.gd, hx0.lenOk, hx0.alen]
  refine AWP.up mixed l.length (fun i fr h' => fr 0 = x ∧ fr 1 = .int .i64 t ∧ fr 4 = .ptr h.length 0 0 ∧ fr 8 = x ∧ fr 9 = .int .i64 l.length ∧ fr 10 = .int .i64 i ∧ atT l t = atT (l.drop i) t ∧ ∃ g, h' = h ++ .cells 4 [[.int .i64 0, .int .i64 0, .nil, .nil]] :: g) 0 (by omega) ⟨by simp, by simp, by simp, by simp, by simp, by simp, by simp, [], rfl⟩ ?_
  rintro i fr h' hi ⟨e0, e1, e4, e8, e9, e10, hf, g, rfl⟩
  have hx := hx.append (.cells 4 [[.int .i64 0, .int .i64 0, .nil, .nil]] :: g)
  rcases Nat.lt_or_ge i l.length with hlt | hge
  · obtain ⟨y, hg, hg'⟩ := get_lt hlt
    have hy := hs y (hg' ▸ List.getElem_mem hlt)
    rw [drop_get hg, atT] at hf
    have ew := wrap_succ' (i := i) (by omega)
    have h0 : (0 : Int) ≤ i := by omega
    have h1 : (i : Int) < (l.map encTariff).length := by simp; omega
    have hm : (l.map encTariff)[(i : Int).toNat]? = some (encTariff y) := by simp [hg]
    simp [e0, e1, e4, e8, e9, e10, hlt, hx.core, hx.gd, hx.lenOk, hx.alen, hx.iaddrOk, h0, h1, hx.icore, hx.igd, hx.loadV h0 h1 hm, hx.loadOk h0 h1 hm]
    refine callS.pure _ (fun _ => span_Has _ [y.valid] (Rd.own (b := h.length + (g.length + 1 + 1)) (es := [encIv y.valid]) (by simp) (by simp)) (by simp) t) ?_
    simp [e0, e1, e4, e8, e9, e10, hasL, ew]
    refine ⟨fun ht => ⟨by decide, ?_⟩, fun ht => ⟨i + 1, by omega, by omega, by simp, by simp [hf, ht]⟩⟩
    refine callS.pure _ (fun _ => Clone_Band _ hy.1) ?_
    simp
    refine callS.pure _ (fun _ => Clone_Rate _ hy.2) ?_
    simp [e4, hf, ht]
    exact .data _ (by simp)
  · rw [List.drop_eq_nil_of_le hge] at hf
    simp [e0, e1, e4, e8, e9, e10, hf, atT, Nat.not_lt.2 hge]
    exact .tup' (.cons (.agg' (.cons (.data _ (by simp)) (.cons (.data _ (by simp)) (.cons .nil (.cons .nil .nil))))) (.cons (.data _ (by simp)) .nil))
end Go.Proofs.Ytcbaojkchiphkaa
