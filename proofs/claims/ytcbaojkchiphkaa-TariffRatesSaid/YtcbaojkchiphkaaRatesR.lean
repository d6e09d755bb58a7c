/-
  Contracts: the sorted prices of a class, of any number.
-/
import Derived.Test.YtcbaojkchiphkaaLawTimes
import Derived.Test.YtcbaojkchiphkaaStableRate
import Derived.Test.YtcbaojkchiphkaaAbsOrd
set_option linter.unusedVariables false
set_option linter.unusedSimpArgs false
set_option maxRecDepth 100000
namespace Go.Proofs.Ytcbaojkchiphkaa
open Go Go.Abs Go.Toll
variable {gl : Globs} {h : AHeap}

def ratesB (x : Tariff) (cl : Int) : List Rate := sortR beforeB (x.rates.filter fun r => decide (r.cls = cl))
theorem ratesB_eq (x : Tariff) (cl : Int) : ratesB x cl = ratesS x cl := by
  unfold ratesB ratesS
  congr 1
  funext a b
  exact before_rate a b

set_option maxHeartbeats 2000000 in
theorem ref22_Rates (x : Tariff) (cl : Int) (hl : x.rates.length ≤ 1000) : ACalls Try.prog gl 22 [.agg (encTariff x), .int .i64 cl] h fun v h' => v = .ro ((ratesB x cl).map encRate) ∧ h' = h := by
  refine ACalls.fresh (ACalls.body Try.f22 _ mixed Try.func22 rfl rfl (by simp [Try.ntmps22]) ?_)
  simp
  refine AWP.up mixed x.rates.length (fun i fr h' => fr 1 = .int .i64 cl ∧ fr 2 = .ptr h.length 0 0 ∧ fr 6 = .int .i64 i ∧ ∃ g, h' = h ++ .cells 4 [encTariff x] :: g ∧ ∃ l, l = sortR beforeB ((x.rates.take i).filter (fun r => decide (r.cls = cl))) ∧
    ((fr 5 = .nil ∧ l = []) ∨ ∃ m, fr 5 = .own (h.length + (m + 1)) 0 l.length ∧ g[m]? = some (.cells 5 (l.map encRate)))) 0 (by omega) ⟨by simp, by simp, by simp, [], by simp, [], by simp [sortR], .inl ⟨by simp, rfl⟩⟩ ?_
  rintro i fr h' hi ⟨e1, e2, e6, g, rfl, l, hlr, hs⟩
  rcases Nat.lt_or_ge i x.rates.length with hlt | hge
  · obtain ⟨y, hg, hg'⟩ := get_lt hlt
    have ew := wrap_succ' (i := i) (by omega)
    have hcl : (x.rates.take (i + 1)).filter (fun r => decide (r.cls = cl)) = (x.rates.take i).filter (fun r => decide (r.cls = cl)) ++ [y].filter (fun r => decide (r.cls = cl)) := by rw [List.take_add_one, hg, List.filter_append]; rfl
    by_cases hc : y.cls = cl
    · have hnx : sortR beforeB ((x.rates.take (i + 1)).filter (fun r => decide (r.cls = cl))) = insR beforeB y l := by
        rw [hcl, hlr]; simp [hc, sortR]
      rcases hs with ⟨e5, rfl⟩ | ⟨m, e5, hm⟩
      · simp [e1, e2, e5, e6, hlt, hg, hg', hc]
        refine AWP.down mixed (fun k fr h' => k = 0 ∧ fr 1 = .int .i64 cl ∧ fr 2 = .ptr h.length 0 0 ∧ fr 5 = .nil ∧ fr 6 = .int .i64 i ∧ fr 7 = .int .i64 0 ∧ h' = h ++ .cells 4 [encTariff x] :: g) 0 ⟨rfl, by simp [e1], by simp [e2], by simp [e5], by simp [e6], by simp, rfl⟩ ?_
        rintro k fr h' ⟨rfl, e1, e2, e5, e6, e7, rfl⟩
        simp [e1, e2, e5, e6, e7]
        refine ⟨by decide, callS.pure (.bool false) (fun hg => by cases hg) ?_⟩
        simp [e1, e2, e5, e6, e7, hlt, hg, hg', ew]
        exact ⟨i + 1, by omega, by omega, by omega, g.length + 2, ⟨rfl, by rw [hnx]; rfl⟩, by rw [hnx]; simp [insR, insK]⟩
      · obtain ⟨hm1, hm2⟩ := List.getElem?_eq_some_iff.1 hm
        have hb0 : ¬ h.length + (m + 1) < h.length := by omega
        have hll : l.length ≤ 1000 := by
          have := List.length_filter_le (fun r : Rate => decide (r.cls = cl)) (x.rates.take i)
          rw [hlr, sortR_length]
          rw [List.length_take] at this
          omega
        simp [e1, e2, e5, e6, hlt, hg, hg', hc]
        refine AWP.down mixed (fun k fr h' => k ≤ l.length ∧ insK beforeB y l l.length = insK beforeB y l k ∧ fr 1 = .int .i64 cl ∧ fr 2 = .ptr h.length 0 0 ∧ fr 5 = .own (h.length + (m + 1)) 0 l.length ∧ fr 6 = .int .i64 i ∧ fr 7 = .int .i64 k ∧ h' = h ++ .cells 4 [encTariff x] :: g) l.length ⟨by omega, rfl, by simp [e1], by simp [e2], by simp [e5], by simp [e6], by simp, rfl⟩ ?_
        rintro k fr h' ⟨hkl, hK, e1, e2, e5, e6, e7, rfl⟩
        rcases Nat.eq_zero_or_pos k with rfl | hpos
        · simp [e1, e2, e5, e6, e7]
          refine ⟨by decide, callS.pure (.bool false) (fun hg => by cases hg) ?_⟩
          have tl : (l.map encRate).take l.length = l.map encRate := List.take_of_length_le (by simp)
          have hK0 : insR beforeB y l = y :: l := by rw [insR, hK]; simp [insK]
          simp [e1, e2, e5, e6, e7, hlt, hg, hg', ew, hm1, hm2, hb0, tl]
          exact ⟨by omega, i + 1, by omega, by omega, by omega, g.length + 2, ⟨rfl, by rw [hnx, hK0]; simp; omega⟩, by rw [hnx, hK0]; simp⟩
        · obtain ⟨k, rfl⟩ : ∃ k', k = k' + 1 := ⟨k - 1, by omega⟩
          obtain ⟨z, hz, hz'⟩ := get_lt (l := l) (i := k) (by omega)
          have e7' : fr 7 = .int .i64 ((k : Int) + 1) := by rw [e7]; simp
          have w1 : IntKind.i64.wrap (k : Int) = k := wrap64_of (by omega) (by omega)
          have h01 : (0 : Int) < (k : Int) + 1 := by omega
          have tl : (l.map encRate).take l.length = l.map encRate := List.take_of_length_le (by simp)
          simp [e1, e2, e5, e6, e7', h01, w1, hlt, hg, hg', hz, hm1, hm2, hb0]
          refine ⟨by decide, by omega, ?_⟩
          refine callS.pure _ (fun _ => ref22_before y z) ?_
          have hKs : insK beforeB y l (k + 1) = if beforeB y z = true then insK beforeB y l k else k + 1 := by rw [insK, hz]
          have hl0 : ¬ l = [] := by intro e; rw [e] at hkl; simp at hkl
          have hmin : min (k + 1) l.length = k + 1 := by omega
          obtain ⟨A, hA⟩ : ∃ A, l.take (k + 1) = A := ⟨_, rfl⟩
          obtain ⟨B, hB⟩ : ∃ B, l.drop (k + 1) = B := ⟨_, rfl⟩
          have hAl : A.length = k + 1 := by rw [← hA]; simp; omega
          have hBl : B.length = l.length - (k + 1) := by rw [← hB]; simp
          have tA : (l.map encRate).take (k + 1) = A.map encRate := by rw [← hA, List.map_take]
          have tA2 : (A.map encRate).take (k + 1) = A.map encRate := List.take_of_length_le (by simp; omega)
          have tA3 : ∀ e, (A.map encRate ++ [e]).take (k + 1 + 1) = A.map encRate ++ [e] := fun e => List.take_of_length_le (by simp; omega)
          have tB : ((l.map encRate).drop (k + 1)).take (l.length - (k + 1)) = B.map encRate := by rw [← hB, List.map_drop, List.take_of_length_le (by simp)]
          have hb1 : (0 : Int) ≤ (k : Int) + 1 ∧ (k : Int) + 1 ≤ l.length := by omega
          simp [e1, e2, e5, e6, e7', w1, hlt, hg, hg', hm1, hm2, hb0, ew, hl0, hmin, tA, tA2, tA3, tB, hb1]
          refine ⟨fun hby => ⟨k, by omega, by omega, by rw [hK, hKs, if_pos hby], rfl⟩, fun hby => ?_⟩
          have hAne : ¬ A = [] := by intro e; rw [e] at hAl; simp at hAl
          have tA4 : List.take A.length (A.map encRate) = A.map encRate := List.take_of_length_le (by simp)
          have tA5 : ∀ e, List.take (A.length + 1) (A.map encRate ++ [e]) = A.map encRate ++ [e] := fun e => List.take_of_length_le (by simp)
          have hK1 : insK beforeB y l l.length = k + 1 := by rw [hK, hKs, if_neg (by simp [hby])]
          have hins : insR beforeB y l = A ++ y :: B := by rw [insR, hK1, hA, hB]
          simp only [tA4, tA5]
          refine ⟨⟨by omega, by omega, by omega⟩, fun e => absurd e hAne, fun _ => ⟨⟨by simp, by omega, by omega⟩, ⟨by omega, ?_, by omega, by omega⟩, i + 1, by omega, by omega, by omega, g.length + 3, ⟨rfl, by rw [hnx, hins]; simp; omega⟩, by rw [hnx, hins]; simp⟩⟩
          intro e he
          simp at he
          rcases he with ⟨r, _, rfl⟩ | rfl <;> rfl
    · have hnx : sortR beforeB ((x.rates.take (i + 1)).filter (fun r => decide (r.cls = cl))) = l := by
        rw [hcl, hlr]; simp [hc]
      simp [e1, e2, e6, hlt, hg, hg', ew, hc]
      exact ⟨i + 1, by omega, by omega, by omega, by rw [hnx]; exact hs⟩
  · rw [List.take_of_length_le hge] at hlr
    rcases hs with ⟨e5, rfl⟩ | ⟨m, e5, hm⟩
    · simp [e1, e2, e5, e6, Nat.not_lt.2 hge]
      rw [ratesB, ← hlr]
      exact .nil
    · obtain ⟨hm1, hm2⟩ := List.getElem?_eq_some_iff.1 hm
      simp [e1, e2, e5, e6, Nat.not_lt.2 hge]
      rw [ratesB, ← hlr]
      refine Frz.ownD (m := 5) (es := l.map encRate) ?_ (by omega) (by simp) (by rw [List.drop_zero, List.take_of_length_le (by simp)]) (by simp)
      simp [hm1, hm2]
theorem ord3_dec : Ord3 fun x y => rateCmp (decRate x) (decRate y) := ord3_rate.comap decRate
theorem tariff_Rates (x : Tariff) (cl : Int) (hl : x.rates.length ≤ 1000) : ACalls Try.prog gl 21 [.agg (encTariff x), .int .i64 cl] h fun v h' => v = .ro ((ratesS x cl).map encRate) ∧ h' = h := by
  refine ACalls.fresh (ACalls.body Try.f21 _ mixed Try.func21 rfl rfl (by simp [Try.ntmps21]) ?_)
  simp
  refine AWP.up mixed x.rates.length (fun i fr h' => fr 1 = .int .i64 cl ∧ fr 9 = .ro (x.rates.map encRate) ∧ fr 10 = .int .i64 x.rates.length ∧ fr 11 = .int .i64 i ∧ ∃ g, h' = h ++ .cells 4 [encTariff x] :: g ∧ ∃ l, l = (x.rates.take i).filter (fun r => decide (r.cls = cl)) ∧
    ((fr 5 = .nil ∧ l = []) ∨ ∃ m, fr 5 = .own (h.length + (m + 1)) 0 l.length ∧ g[m]? = some (.cells 5 (l.map encRate)))) 0 (by omega) ⟨by simp, by simp, by simp, by simp, [], by simp, [], by simp, .inl ⟨by simp, rfl⟩⟩ ?_
  rintro i fr h' hi ⟨e1, e9, e10, e11, g, rfl, l, hlr, hs⟩
  rcases Nat.lt_or_ge i x.rates.length with hlt | hge
  · obtain ⟨y, hg, hg'⟩ := get_lt hlt
    have ew := wrap_succ' (i := i) (by omega)
    rcases hs with ⟨e5, rfl⟩ | ⟨m, e5, hm⟩
    · have hcl : (x.rates.take (i + 1)).filter (fun r => decide (r.cls = cl)) = [y].filter (fun r => decide (r.cls = cl)) := by rw [List.take_add_one, hg, List.filter_append, ← hlr]; rfl
      simp [e1, e5, e9, e10, e11, hlt, hg, hg', ew]
      refine ⟨fun hc => ⟨i + 1, by omega, by omega, by simp, g.length + 2, ⟨rfl, by rw [hcl]; simp [hc]⟩, by rw [hcl]; simp [hc]⟩, fun hc => ⟨i + 1, by omega, by omega, by simp, ?_⟩⟩
      have : (x.rates.take (i + 1)).filter (fun r => decide (r.cls = cl)) = [] := by rw [hcl]; simp [hc]
      simpa using List.filter_eq_nil_iff.1 this
    · obtain ⟨hm1, hm2⟩ := List.getElem?_eq_some_iff.1 hm
      have hb0 : ¬ h.length + (m + 1) < h.length := by omega
      have tl : (l.map encRate).take l.length = l.map encRate := List.take_of_length_le (by simp)
      have hcl : (x.rates.take (i + 1)).filter (fun r => decide (r.cls = cl)) = l ++ [y].filter (fun r => decide (r.cls = cl)) := by rw [List.take_add_one, hg, List.filter_append, hlr]; rfl
      simp [e1, e5, e9, e10, e11, hlt, hg, hg', ew, hm1, hm2, hb0, tl]
      have hll : l.length ≤ 1000 := by
        have := List.length_filter_le (fun r : Rate => decide (r.cls = cl)) (x.rates.take i)
        rw [← hlr, List.length_take] at this
        omega
      refine ⟨fun hc => ⟨by omega, i + 1, by omega, by omega, by simp, g.length + 2, ⟨rfl, by rw [hcl]; simp [hc]⟩, by rw [hcl]; simp [hc]⟩, fun hc => ⟨i + 1, by omega, by omega, by simp, m, ⟨rfl, by rw [hcl]; simp [hc]⟩, by rw [hcl]; simp [hc, hm1, hm2]⟩⟩
  · rw [List.take_of_length_le hge] at hlr
    rcases hs with ⟨e5, rfl⟩ | ⟨m, e5, hm⟩
    · simp [e1, e5, e9, e10, e11, Nat.not_lt.2 hge]
      refine callS.pure _ (fun _ => SortStable_nil_Rate _ []) ?_
      simp [e5, ratesS, ← hlr, sortR]
      exact .nil
    · obtain ⟨hm1, hm2⟩ := List.getElem?_eq_some_iff.1 hm
      simp [e1, e5, e9, e10, e11, Nat.not_lt.2 hge]
      have hll : l.length ≤ 1000 := by
        have := List.length_filter_le (fun r : Rate => decide (r.cls = cl)) x.rates
        rw [← hlr] at this
        omega
      generalize hH : h ++ AObj.cells 4 [[AV.int .i64 x.valid.lo, AV.int .i64 x.valid.hi, AV.ro (x.bands.map encBand), AV.ro (x.rates.map encRate)]] :: g = H
      have hHb : H[h.length + (m + 1)]? = some (.cells 5 (l.map encRate)) := by rw [← hH, List.getElem?_append_right (by omega)]; simp [hm]
      obtain ⟨hHl, hHg⟩ := List.getElem?_eq_some_iff.1 hHb
      have hset : H.set (h.length + (m + 1)) (.cells 5 (l.map encRate)) = H := by rw [← hHg]; exact List.set_getElem_self ..
      have hs := SortStable_Rate (gl := gl) (h := H) (h.length + (m + 1)) (l.map encRate) l.length (by simp) (by omega) hHl (by simp) 37 [] (fun a b => rateCmp (decRate a) (decRate b)) ord3_dec.swo (by
        intro a ha b hb o
        obtain ⟨a, _, rfl⟩ := List.mem_map.1 ha
        obtain ⟨b, _, rfl⟩ := List.mem_map.1 hb
        exact tariff_Rates1 a b)
      rw [hset, sortR_map (lt := fun a b => decide (rateCmp a b < 0)) (fun _ _ => rfl)] at hs
      refine callS.any hs ?_
      rintro v h' ⟨rfl, rfl⟩
      simp [e5, ← hH]
      rw [show ratesS x cl = sortR (fun a b => decide (rateCmp a b < 0)) l by rw [ratesS, ← hlr]]
      refine Frz.ownD (m := 5) (es := (sortR (fun a b => decide (rateCmp a b < 0)) l).map encRate) ?_ (by omega) (by simp [sortR_length]) (by rw [List.drop_zero, List.take_of_length_le (by simp [sortR_length])]) (by simp)
      rw [List.getElem?_append_right (by omega)]
      simp [hm1]
end Go.Proofs.Ytcbaojkchiphkaa
