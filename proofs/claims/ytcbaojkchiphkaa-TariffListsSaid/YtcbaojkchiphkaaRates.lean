/-
  Contracts: the prices of a class; the example.
-/
import Derived.Test.YtcbaojkchiphkaaSort
import Derived.Test.YtcbaojkchiphkaaTariffR
import Derived.Test.YtcbaojkchiphkaaAt
import Derived.Test.YtcbaojkchiphkaaTollRate
set_option linter.unusedVariables false
set_option linter.unusedSimpArgs false
set_option maxRecDepth 100000
namespace Go.Proofs.Ytcbaojkchiphkaa
open Go Go.Abs Go.Toll
variable {gl : Globs} {h : AHeap}

theorem law_example : ACalls Try.prog gl 34 [] h fun v h' => v = .agg (encTariff exampleT) ∧ h' = h := by
  refine ACalls.fresh (ACalls.body Try.f34 _ mixed Try.func34 rfl rfl (by simp [Try.ntmps34]) ?_)
  simp
  refine .agg' (.cons (.data _ (by simp [exampleT])) (.cons (.data _ (by simp [exampleT])) (.cons (Frz.ownD (m := 4) (es := exampleT.bands.map encBand) (by simp [exampleT]) (by omega) (by simp [exampleT]) (by simp [exampleT]) (by simp [exampleT])) (.cons (Frz.ownD (m := 5) (es := exampleT.rates.map encRate) (by simp [exampleT]) (by omega) (by simp [exampleT]) (by simp [exampleT]) (by simp [exampleT])) .nil))))
theorem tariff_Rates20 (x : Tariff) (cl : Int) (hl : x.rates.length < 20) : ACalls Try.prog gl 21 [.agg (encTariff x), .int .i64 cl] h fun v h' => v = .ro ((ratesS x cl).map encRate) ∧ h' = h := by
  refine ACalls.fresh (ACalls.body Try.f21 _ mixed Try.func21 rfl rfl (by simp [Try.ntmps21]) ?_)
  simp
  refine AWP.up mixed x.rates.length (fun i fr h' => fr 1 = .int .i64 cl ∧ fr 9 = .ro (x.rates.map encRate) ∧ fr 10 = .int .i64 x.rates.length ∧ fr 11 = .int .i64 i ∧ ∃ g, h' = h ++ .cells 4 [encTariff x] :: g ∧ ∃ l, l = (x.rates.take i).filter (fun r => decide (r.cls = cl)) ∧
    ((fr 5 = .nil ∧ l = []) ∨ ∃ m, fr 5 = .own (h.length + (m + 1)) 0 l.length ∧ g[m]? = some (.cells 5 (l.map encRate)))) 0 (by omega) ⟨by simp, by simp, by simp, by simp, [], by simp, [], by simp, .inl ⟨by simp, rfl⟩⟩ ?_
  rintro i fr h' hi ⟨e1, e9, e10, e11, g, rfl, l, hlr, hs⟩
  rcases Nat.lt_or_ge i x.rates.length with hlt | hge
  · obtain ⟨y, hg, hg'⟩ := get_lt hlt
    have ew := wrap_succ' (i := i) (by omega)
    rcases hs with ⟨e5, rfl⟩ | ⟨m, e5, hm⟩
    · have hcl : (x.rates.take (i + 1)).filter (fun r => decide (r.cls = cl)) = [y].filter (fun r => decide (r.cls = cl)) := by rw [List.take_add_one, hg, List.filter_append, ← hlr]; rfl
      simp [e1, e5, e9, e10, e11, hlt, hg, hg', ew]
      refine ⟨fun hc => ⟨i + 1, by omega, by omega, by simp, g.length + 2, ⟨rfl, by rw [hcl]; simp [hc]⟩, by rw [hcl]; simp [hc]⟩, fun hc => ⟨i + 1, by omega, by omega, by simp, ?_⟩⟩
      have : (x.rates.take (i + 1)).filter (fun r => decide (r.cls = cl)) = [] := by rw [hcl]; simp [hc]
      simpa using List.filter_eq_nil_iff.1 this
    · obtain ⟨hm1, hm2⟩ := List.getElem?_eq_some_iff.1 hm
      have hb0 : ¬ h.length + (m + 1) < h.length := by omega
      have tl : (l.map encRate).take l.length = l.map encRate := List.take_of_length_le (by simp)
      have hcl : (x.rates.take (i + 1)).filter (fun r => decide (r.cls = cl)) = l ++ [y].filter (fun r => decide (r.cls = cl)) := by rw [List.take_add_one, hg, List.filter_append, hlr]; rfl
      simp [e1, e5, e9, e10, e11, hlt, hg, hg', ew, hm1, hm2, hb0, tl]
      have hll : l.length < 20 := by
        have := List.length_filter_le (fun r : Rate => decide (r.cls = cl)) (x.rates.take i)
        rw [← hlr, List.length_take] at this
        omega
      refine ⟨fun hc => ⟨by omega, i + 1, by omega, by omega, by simp, g.length + 2, ⟨rfl, by rw [hcl]; simp [hc]⟩, by rw [hcl]; simp [hc]⟩, fun hc => ⟨i + 1, by omega, by omega, by simp, m, ⟨rfl, by rw [hcl]; simp [hc]⟩, by rw [hcl]; simp [hc, hm1, hm2]⟩⟩
  · rw [List.take_of_length_le hge] at hlr
    rcases hs with ⟨e5, rfl⟩ | ⟨m, e5, hm⟩
    · simp [e1, e5, e9, e10, e11, Nat.not_lt.2 hge]
      refine callS.pure _ (fun _ => SortStable_nil_Rate _ []) ?_
      simp [e5, ratesS, ← hlr, sortR]
      exact .nil
    · obtain ⟨hm1, hm2⟩ := List.getElem?_eq_some_iff.1 hm
      simp [e1, e5, e9, e10, e11, Nat.not_lt.2 hge]
      have hll : l.length < 20 := by
        have := List.length_filter_le (fun r : Rate => decide (r.cls = cl)) x.rates
        rw [← hlr] at this
        omega
      generalize hH : h ++ AObj.cells 4 [[AV.int .i64 x.valid.lo, AV.int .i64 x.valid.hi, AV.ro (x.bands.map encBand), AV.ro (x.rates.map encRate)]] :: g = H
      have hHb : H[h.length + (m + 1)]? = some (.cells 5 (l.map encRate)) := by rw [← hH, List.getElem?_append_right (by omega)]; simp [hm]
      obtain ⟨hHl, hHg⟩ := List.getElem?_eq_some_iff.1 hHb
      have hset : H.set (h.length + (m + 1)) (.cells 5 (l.map encRate)) = H := by rw [← hHg]; exact List.set_getElem_self ..
      have hs := SortStable20_Rate (gl := gl) (h := H) (h.length + (m + 1)) (l.map encRate) hHl (by simp) (by simp; omega) 37 [] (fun a b => rateCmp (decRate a) (decRate b)) (by
        intro a ha b hb o
        obtain ⟨a, _, rfl⟩ := List.mem_map.1 ha
        obtain ⟨b, _, rfl⟩ := List.mem_map.1 hb
        exact tariff_Rates1 a b)
      rw [hset, sortR_map (lt := fun a b => decide (rateCmp a b < 0)) (fun _ _ => rfl), List.length_map] at hs
      refine callS.any hs ?_
      rintro v h' ⟨rfl, rfl⟩
      simp [e5, ← hH]
      rw [show ratesS x cl = sortR (fun a b => decide (rateCmp a b < 0)) l by rw [ratesS, ← hlr]]
      refine Frz.ownD (m := 5) (es := (sortR (fun a b => decide (rateCmp a b < 0)) l).map encRate) ?_ (by omega) (by simp [sortR_length]) (by rw [List.drop_zero, List.take_of_length_le (by simp [sortR_length])]) (by simp)
      rw [List.getElem?_append_right (by omega)]
      simp [hm1]
end Go.Proofs.Ytcbaojkchiphkaa
