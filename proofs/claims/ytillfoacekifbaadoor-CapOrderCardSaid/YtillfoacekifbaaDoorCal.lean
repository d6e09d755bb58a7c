/-
  Contracts: days and dates.
-/
import Derived.Test.YtillfoacekifbaaDoorClock
import Derived.Test.YtillfoacekifbaaDoorTollCal
set_option linter.unusedVariables false
set_option linter.unusedSimpArgs false
set_option maxRecDepth 100000
namespace Go.Proofs.YtillfoacekifbaaDoor
open Go Go.Abs Go.Toll
variable {gl : Globs} {h : AHeap}

/-- The cells of clock.months. -/
def monthCells : List AV := [.int .i64 31, .int .i64 28, .int .i64 31, .int .i64 30, .int .i64 31, .int .i64 30, .int .i64 31, .int .i64 31, .int .i64 30, .int .i64 31, .int .i64 30, .int .i64 31]

theorem clock_isDay (d : Int) : ACalls Tryd.prog gl 41 [.int .i64 d] h fun x h' => x = .bool (isDayB d) ∧ h' = h := by
  refine ACalls.body Tryd.f41 _ mixed Tryd.func41 rfl rfl (by simp [Tryd.ntmps41]) ?_
  simp [isDayB]
theorem ref04_IsDay (d : Int) : ACalls Tryd.prog gl 45 [.int .i64 d] h fun x h' => x = .bool (isDayB d) ∧ h' = h := by
  refine ACalls.body Tryd.f45 _ mixed Tryd.func45 rfl rfl (by simp [Tryd.ntmps45]) ?_
  simp [isDayB]
theorem clock_Day (t : Int) : ACalls Tryd.prog gl 28 [.int .i64 t] h fun x h' => x = .int .i64 (dayI t) ∧ h' = h := by
  refine ACalls.body Tryd.f28 _ mixed Tryd.func28 rfl rfl (by simp [Tryd.ntmps28]) ?_
  simp
  refine callS.pure _ (fun _ => clock_isTime _) ?_
  cases ht : isTimeB t with
  | false => simp [dayI, ht]
  | true =>
    have e := wrap_day (isTime_range ht)
    simp [dayI, ht, e]
theorem ref04_Day (t : Int) : ACalls Tryd.prog gl 30 [.int .i64 t] h fun x h' => x = .int .i64 (dayI t) ∧ h' = h := by
  refine ACalls.body Tryd.f30 _ mixed Tryd.func30 rfl rfl (by simp [Tryd.ntmps30]) ?_
  simp
  refine callS.pure _ (fun _ => ref04_IsTime _) ?_
  cases ht : isTimeB t with
  | false => simp [dayI, ht]
  | true =>
    have e := wrap_day (isTime_range ht)
    simp [dayI, ht, e]
theorem clock_leap (y : Nat) : ACalls Tryd.prog gl 42 [.int .i64 y] h fun x h' => x = .bool (leapB y) ∧ h' = h := by
  refine ACalls.data (.bool _) (ACalls.body Tryd.f42 _ mixed Tryd.func42 rfl rfl (by simp [Tryd.ntmps42]) ?_)
  simp
  refine ⟨fun h => (Decidable.em _).elim (fun a => .inr (h a)) .inl, ?_⟩
  rw [show (y : Int).tmod 4 = ((y % 4 : Nat) : Int) from (Int.ofNat_tmod y 4).symm, show (y : Int).tmod 100 = ((y % 100 : Nat) : Int) from (Int.ofNat_tmod y 100).symm, show (y : Int).tmod 400 = ((y % 400 : Nat) : Int) from (Int.ofNat_tmod y 400).symm, leapB]
  rw [Bool.eq_iff_iff]
  simp
  omega
theorem clock_length (hgl : gl 0 = some monthCells) (y m : Nat) (hm : 1 ≤ m ∧ m ≤ 12) : ACalls Tryd.prog gl 43 [.int .i64 y, .int .i64 m] h fun x h' => x = .int .i64 ((mlens y)[m - 1]?.getD 0 : Nat) ∧ h' = h := by
  refine ACalls.data (.int _ _) (ACalls.body Tryd.f43 _ mixed Tryd.func43 rfl rfl (by simp [Tryd.ntmps43]) ?_)
  have hw : ∀ k : Int, 0 ≤ k → k ≤ 11 → IntKind.i64.wrap k = k := fun k h1 h2 => wrap64_of (by omega) (by omega)
  simp
  refine callS.pure _ (fun _ => clock_leap y) ?_
  rcases (by omega : m = 1 ∨ m = 2 ∨ m = 3 ∨ m = 4 ∨ m = 5 ∨ m = 6 ∨ m = 7 ∨ m = 8 ∨ m = 9 ∨ m = 10 ∨ m = 11 ∨ m = 12) with rfl | rfl | rfl | rfl | rfl | rfl | rfl | rfl | rfl | rfl | rfl | rfl
  case inr.inl => cases hl : leapB y <;> simp [mlens, hgl, monthCells, hl, hw]
  all_goals simp [mlens, hgl, monthCells, hw]
theorem ref04_leap (y : Nat) : ACalls Tryd.prog gl 52 [.int .i64 y] h fun x h' => x = .bool (leapB y) ∧ h' = h := by
  refine ACalls.data (.bool _) (ACalls.body Tryd.f52 _ mixed Tryd.func52 rfl rfl (by simp [Tryd.ntmps52]) ?_)
  simp
  refine ⟨fun h => (Decidable.em _).elim (fun a => .inr (h a)) .inl, ?_⟩
  rw [show (y : Int).tmod 4 = ((y % 4 : Nat) : Int) from (Int.ofNat_tmod y 4).symm, show (y : Int).tmod 100 = ((y % 100 : Nat) : Int) from (Int.ofNat_tmod y 100).symm, show (y : Int).tmod 400 = ((y % 400 : Nat) : Int) from (Int.ofNat_tmod y 400).symm, leapB]
  rw [Bool.eq_iff_iff]
  simp
  omega
theorem ref04_length (y m : Nat) (hm : 1 ≤ m ∧ m ≤ 12) : ACalls Tryd.prog gl 47 [.int .i64 y, .int .i64 m] h fun x h' => x = .int .i64 ((mlens y)[m - 1]?.getD 0 : Nat) ∧ h' = h := by
  refine ACalls.data (.int _ _) (ACalls.body Tryd.f47 _ mixed Tryd.func47 rfl rfl (by simp [Tryd.ntmps47]) ?_)
  rcases (by omega : m = 1 ∨ m = 2 ∨ m = 3 ∨ m = 4 ∨ m = 5 ∨ m = 6 ∨ m = 7 ∨ m = 8 ∨ m = 9 ∨ m = 10 ∨ m = 11 ∨ m = 12) with rfl | rfl | rfl | rfl | rfl | rfl | rfl | rfl | rfl | rfl | rfl | rfl
  case inr.inl =>
    simp
    refine callS.pure _ (fun _ => ref04_leap y) ?_
    cases h : leapB y <;> simp [mlens, h]
  all_goals simp [mlens]
theorem ref04_year (y : Nat) : ACalls Tryd.prog gl 46 [.int .i64 y] h fun x h' => x = .int .i64 (ylen y) ∧ h' = h := by
  refine ACalls.data (.int _ _) (ACalls.body Tryd.f46 _ mixed Tryd.func46 rfl rfl (by simp [Tryd.ntmps46]) ?_)
  simp
  refine callS.pure _ (fun _ => ref04_leap y) ?_
  cases h : leapB y <;> simp [ylen, h]
theorem mlens_drop {y m : Nat} (hm : 1 ≤ m ∧ m ≤ 12) : (mlens y).drop (m - 1) = ((mlens y)[m - 1]?.getD 0) :: (mlens y).drop m := by
  have hl : m - 1 < (mlens y).length := by rw [mlens_len]; omega
  rw [List.drop_eq_getElem_cons hl, List.getElem?_eq_getElem hl, show m - 1 + 1 = m by omega]; rfl
set_option maxHeartbeats 1000000 in
theorem clock_Date (hgl : gl 0 = some monthCells) (d : Int) : ACalls Tryd.prog gl 29 [.int .i64 d] h fun x h' => x = .tup [.int .i64 (dateI d).1, .int .i64 (dateI d).2.1, .int .i64 (dateI d).2.2] ∧ h' = h := by
  refine ACalls.data (by simp) (ACalls.body Tryd.f29 _ mixed Tryd.func29 rfl rfl (by simp [Tryd.ntmps29]) ?_)
  simp
  refine callS.pure _ (fun _ => clock_isDay d) ?_
  cases hd : isDayB d with
  | false => simp [dateI, hd]
  | true =>
    obtain ⟨n, rfl, hn⟩ : ∃ n : Nat, d = n ∧ n < 795364 := by
      simp [isDayB] at hd
      exact ⟨d.toNat, by omega, by omega⟩
    have w0 : IntKind.i64.wrap ((n : Int) / 146097) = (n : Int) / 146097 := wrap64_of (by omega) (by omega)
    have w1 : IntKind.i64.wrap ((n : Int) / 146097 * 400) = (n : Int) / 146097 * 400 := wrap64_of (by omega) (by omega)
    have w2 : IntKind.i64.wrap (2001 + (n : Int) / 146097 * 400) = ((2001 + n / 146097 * 400 : Nat) : Int) := by rw [wrap64_of (by omega) (by omega)]; omega
    have w3 : (n : Int).tmod 146097 = ((n % 146097 : Nat) : Int) := (Int.ofNat_tmod n 146097).symm
    have hy0 := yearGo_div n
    have hb0 : (2001 + n / 146097 * 400) * 365 + n % 146097 ≤ 2000000 := by omega
    have c1 : 2001 + (n : Int) / 146097 * 400 = ((2001 + n / 146097 * 400 : Nat) : Int) := by omega
    have c2 : (n : Int) % 146097 = ((n % 146097 : Nat) : Int) := by omega
    simp [w0, w1, w2, w3]
    generalize 2001 + n / 146097 * 400 = y0 at *
    generalize n % 146097 = r0 at *
    refine AWP.down mixed (fun r fr h' => ∃ y : Nat, fr 5 = .int .i64 y ∧ fr 6 = .int .i64 r ∧ yearGo 2001 n = yearGo y r ∧ y * 365 + r ≤ 2000000 ∧ h' = h) r0 ⟨y0, by simp [c1], by simp [c2], hy0.symm, hb0, rfl⟩ ?_
    rintro r fr h' ⟨y, e5, e6, hy, hb, rfl⟩
    have ew := wrap_succ' (i := y) (by omega)
    rcases (by cases h : leapB y <;> simp [ylen, h] : (leapB y = true ∧ ylen y = 366) ∨ (leapB y = false ∧ ylen y = 365)) with ⟨hl, hY⟩ | ⟨hl, hY⟩
    all_goals
      simp [e5, e6]
      refine callS.pure _ (fun _ => clock_leap y) ?_
      rw [hl]
      simp [e5, e6, ew]
      refine ⟨fun hr => ?_, fun hr => ⟨r - ylen y, by omega, y + 1, by omega, by rw [wrap64_of (by omega) (by omega)]; omega, by rw [hy, yearGo, if_neg (by omega)], by omega⟩⟩
      have hyr : yearGo 2001 n = (y, r) := by rw [hy, yearGo, if_pos (by omega)]
      have hsum : r < (mlens y).sum := by rw [mlens_sum]; omega
      refine AWP.down mixed (fun k fr h'' => ∃ m q : Nat, k = 12 - m ∧ 1 ≤ m ∧ m ≤ 12 ∧ fr 5 = .int .i64 y ∧ fr 6 = .int .i64 q ∧ fr 8 = .int .i64 m ∧ monthGo (mlens y) 1 r = monthGo ((mlens y).drop (m - 1)) m q ∧ q < ((mlens y).drop (m - 1)).sum ∧ q ≤ 366 ∧ h'' = h') 11
        ⟨1, r, by omega, by omega, by omega, by simp [e5], by simp [e6], by simp, rfl, hsum, by omega, rfl⟩ ?_
      clear e5 e6
      rintro k fr h'' ⟨m, q, rfl, m1, m2, f5, f6, f8, hm, hq, hq3, rfl⟩
      rw [mlens_drop ⟨m1, m2⟩] at hm hq
      have hcall := clock_length (gl := gl) (h := h'') hgl y m ⟨m1, m2⟩
      generalize (mlens y)[m - 1]?.getD 0 = L at *
      have em := wrap_succ' (i := m) (by omega)
      simp [f5, f6, f8]
      refine callS.pure _ (fun _ => hcall) ?_
      simp [f5, f6, f8, em]
      refine ⟨fun hL => ?_, fun hL => ?_⟩
      · refine callS.pure _ (fun _ => hcall) ?_
        rw [List.sum_cons] at hq
        have hm12 : m < 12 := by
          rcases Nat.lt_or_ge m 12 with hlt | hge
          · exact hlt
          · rw [List.drop_eq_nil_of_le (by rw [mlens_len]; exact hge)] at hq
            simp at hq; omega
        have wq : IntKind.i64.wrap ((q : Int) - L) = ((q - L : Nat) : Int) := by rw [wrap64_of (by omega) (by omega)]; omega
        simp [f5, f6, f8, em, wq]
        refine ⟨12 - (m + 1), by omega, m + 1, rfl, by omega, by omega, q - L, rfl, by omega, ?_, ?_, by omega⟩
        · rw [hm, monthGo, if_neg (by omega), Nat.add_sub_cancel]
        · rw [Nat.add_sub_cancel]; omega
      · have hmo : monthGo (mlens y) 1 r = (m, q) := by rw [hm, monthGo, if_pos hL]
        have hD : dateI (n : Int) = ((y : Int), (m : Int), ((q + 1 : Nat) : Int)) := by rw [dateI, if_pos hd]; simp [dateN, hyr, hmo]
        rw [hD]
        exact ⟨rfl, rfl, wrap_succ' (by omega)⟩
set_option maxHeartbeats 1000000 in
theorem ref04_Date (d : Int) : ACalls Tryd.prog gl 31 [.int .i64 d] h fun x h' => x = .tup [.int .i64 (dateI d).1, .int .i64 (dateI d).2.1, .int .i64 (dateI d).2.2] ∧ h' = h := by
  refine ACalls.data (by simp) (ACalls.body Tryd.f31 _ mixed Tryd.func31 rfl rfl (by simp [Tryd.ntmps31]) ?_)
  simp
  refine callS.pure _ (fun _ => ref04_IsDay d) ?_
  cases hd : isDayB d with
  | false => simp [dateI, hd]
  | true =>
    obtain ⟨n, rfl, hn⟩ : ∃ n : Nat, d = n ∧ n < 795364 := by
      simp [isDayB] at hd
      exact ⟨d.toNat, by omega, by omega⟩
    simp
    refine AWP.down mixed (fun r fr h' => ∃ y : Nat, fr 6 = .int .i64 y ∧ fr 5 = .int .i64 r ∧ yearGo 2001 n = yearGo y r ∧ y * 365 + r ≤ 2000000 ∧ h' = h) n ⟨2001, by simp, by simp, rfl, by omega, rfl⟩ ?_
    rintro r fr h' ⟨y, e6, e5, hy, hb, rfl⟩
    have ew := wrap_succ' (i := y) (by omega)
    have hY := ylen_pos y
    simp [e5, e6]
    refine callS.pure _ (fun _ => ref04_year y) ?_
    simp [e5, e6, ew]
    refine ⟨fun hr => ?_, fun hr => ?_⟩
    · refine callS.pure _ (fun _ => ref04_year y) ?_
      have wq : IntKind.i64.wrap ((r : Int) - ylen y) = ((r - ylen y : Nat) : Int) := by rw [wrap64_of (by omega) (by omega)]; omega
      simp [e5, e6, ew, wq]
      exact ⟨r - ylen y, by omega, y + 1, by omega, rfl, by rw [hy, yearGo, if_neg (by omega)], by omega⟩
    · have hyr : yearGo 2001 n = (y, r) := by rw [hy, yearGo, if_pos (by omega)]
      have hsum : r < (mlens y).sum := by rw [mlens_sum]; omega
      refine AWP.down mixed (fun k fr h'' => ∃ m q : Nat, k = 12 - m ∧ 1 ≤ m ∧ m ≤ 12 ∧ fr 6 = .int .i64 y ∧ fr 5 = .int .i64 q ∧ fr 7 = .int .i64 m ∧ monthGo (mlens y) 1 r = monthGo ((mlens y).drop (m - 1)) m q ∧ q < ((mlens y).drop (m - 1)).sum ∧ q ≤ 366 ∧ h'' = h') 11
        ⟨1, r, by omega, by omega, by omega, by simp [e6], by simp [e5], by simp, rfl, hsum, by omega, rfl⟩ ?_
      clear e5 e6
      rintro k fr h'' ⟨m, q, rfl, m1, m2, f6, f5, f8, hm, hq, hq3, rfl⟩
      rw [mlens_drop ⟨m1, m2⟩] at hm hq
      have hcall := ref04_length (gl := gl) (h := h'') y m ⟨m1, m2⟩
      generalize (mlens y)[m - 1]?.getD 0 = L at *
      have em := wrap_succ' (i := m) (by omega)
      simp [f5, f6, f8]
      refine callS.pure _ (fun _ => hcall) ?_
      simp [f5, f6, f8, em]
      refine ⟨fun hL => ?_, fun hL => ?_⟩
      · refine callS.pure _ (fun _ => hcall) ?_
        rw [List.sum_cons] at hq
        have hm12 : m < 12 := by
          rcases Nat.lt_or_ge m 12 with hlt | hge
          · exact hlt
          · rw [List.drop_eq_nil_of_le (by rw [mlens_len]; exact hge)] at hq
            simp at hq; omega
        have wq : IntKind.i64.wrap ((q : Int) - L) = ((q - L : Nat) : Int) := by rw [wrap64_of (by omega) (by omega)]; omega
        simp [f5, f6, f8, em, wq]
        refine ⟨12 - (m + 1), by omega, m + 1, rfl, by omega, by omega, q - L, rfl, by omega, ?_, ?_, by omega⟩
        · rw [hm, monthGo, if_neg (by omega), Nat.add_sub_cancel]
        · rw [Nat.add_sub_cancel]; omega
      · have hmo : monthGo (mlens y) 1 r = (m, q) := by rw [hm, monthGo, if_pos hL]
        have hD : dateI (n : Int) = ((y : Int), (m : Int), ((q + 1 : Nat) : Int)) := by rw [dateI, if_pos hd]; simp [dateN, hyr, hmo]
        rw [hD]
        exact ⟨rfl, rfl, wrap_succ' (by omega)⟩
end Go.Proofs.YtillfoacekifbaaDoor
