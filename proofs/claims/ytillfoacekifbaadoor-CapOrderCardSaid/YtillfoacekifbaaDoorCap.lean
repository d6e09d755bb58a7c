/-
  Contracts: caps, their periods, what is left.
-/
import Derived.Test.YtillfoacekifbaaDoorCal
import Derived.Test.YtillfoacekifbaaDoorName
import Derived.Test.YtillfoacekifbaaDoorTollCap
set_option linter.unusedVariables false
set_option linter.unusedSimpArgs false
set_option maxRecDepth 100000
namespace Go.Proofs.YtillfoacekifbaaDoor
open Go Go.Abs Go.Toll
variable {gl : Globs} {h : AHeap}

theorem cap_Check (c : TCap) : ACalls Tryd.prog gl 9 [.agg (encCap c)] h fun v h' => v = .int .i64 (capErr c) ∧ h' = h := by
  refine ACalls.data (by simp) (ACalls.body Tryd.f9 _ mixed Tryd.func9 rfl rfl (by simp [Tryd.ntmps9]) ?_)
  simp
  refine callS.pure _ (fun _ => text_Name c.name) ?_
  simp
  refine callS.pure _ (fun _ => text_Name c.sys) ?_
  simp
  refine ⟨fun a => ⟨a, fun b => ⟨a, b⟩⟩, fun a => by rw [capErr, if_pos a], fun a b => ?_⟩
  have n1 : ¬ (nameB c.name = false ∨ (c.sys ≠ [] ∧ nameB c.sys = false)) := by
    rintro (h | ⟨h1, h2⟩)
    · simp [a] at h
    · have := b h1; simp [this] at h2
  refine ⟨fun d1 d2 => by rw [capErr, if_neg n1, if_pos ⟨d1, d2⟩], fun d => ?_⟩
  have n2 : ¬ (c.days ≠ 0 ∧ c.days ≠ 1) := fun hh => hh.2 (d hh.1)
  refine ⟨fun m => by rw [capErr, if_neg n1, if_neg n2, if_pos (by rw [Bool.eq_false_iff]; intro hh; simp [amountB] at hh; omega)], fun m1 m2 => by rw [capErr, if_neg n1, if_neg n2, if_neg (by simp [amountB, m1, m2])]⟩
theorem ref25_amount (n : Int) : ACalls Tryd.prog gl 27 [.int .i64 n] h fun v h' => v = .bool (amountB n) ∧ h' = h := by
  refine ACalls.body Tryd.f27 _ mixed Tryd.func27 rfl rfl (by simp [Tryd.ntmps27]) ?_
  simp [amountB]
theorem ref25_Check (c : TCap) : ACalls Tryd.prog gl 10 [.agg (encCap c)] h fun v h' => v = .int .i64 (capErr c) ∧ h' = h := by
  refine ACalls.data (.int _ _) (ACalls.body Tryd.f10 _ mixed Tryd.func10 rfl rfl (by simp [Tryd.ntmps10]) ?_)
  simp
  refine callS.pure _ (fun _ => ref01_Name c.name) ?_
  simp
  refine callS.pure _ (fun _ => ref01_Name c.sys) ?_
  simp
  refine ⟨fun a => ⟨a, fun b => ⟨a, b⟩⟩, fun a => by rw [capErr, if_pos a], fun a b => ?_⟩
  have n1 : ¬ (nameB c.name = false ∨ (c.sys ≠ [] ∧ nameB c.sys = false)) := by
    rintro (h | ⟨h1, h2⟩)
    · simp [a] at h
    · have := b h1; simp [this] at h2
  refine ⟨fun d1 d2 => by rw [capErr, if_neg n1, if_pos ⟨d1, d2⟩], fun d => ?_⟩
  have n2 : ¬ (c.days ≠ 0 ∧ c.days ≠ 1) := fun hh => hh.2 (d hh.1)
  refine callS.pure _ (fun _ => ref25_amount c.cents) ?_
  simp
  refine ⟨fun m => by rw [capErr, if_neg n1, if_neg n2, if_pos m], fun m => by rw [capErr, if_neg n1, if_neg n2, if_neg (by simp [m])]⟩
theorem cap_Matches (c : TCap) (x : TChg) : ACalls Tryd.prog gl 11 [.agg (encCap c), .agg (encChg x)] h fun v h' => v = .bool (matchB c x) ∧ h' = h := by
  refine ACalls.data (by simp) (ACalls.body Tryd.f11 _ mixed Tryd.func11 rfl rfl (by simp [Tryd.ntmps11]) ?_)
  simp
  rw [Bool.eq_iff_iff]; simp [matchB]
theorem ref25_Matches (c : TCap) (x : TChg) : ACalls Tryd.prog gl 12 [.agg (encCap c), .agg (encChg x)] h fun v h' => v = .bool (matchB c x) ∧ h' = h := by
  refine ACalls.data (.bool _) (ACalls.body Tryd.f12 _ mixed Tryd.func12 rfl rfl (by simp [Tryd.ntmps12]) ?_)
  simp
  rw [Bool.eq_iff_iff]; simp [matchB]
theorem per_wrap {n : Nat} (hn : n < 795364) : IntKind.i64.wrap ((dateN n).1 - 2001 : Int) = (dateN n).1 - 2001 ∧ IntKind.i64.wrap (12 * ((dateN n).1 - 2001 : Int)) = 12 * ((dateN n).1 - 2001 : Int) ∧
    IntKind.i64.wrap (12 * ((dateN n).1 - 2001 : Int) + (dateN n).2.1) = 12 * ((dateN n).1 - 2001 : Int) + (dateN n).2.1 ∧ IntKind.i64.wrap (12 * ((dateN n).1 - 2001 : Int) + (dateN n).2.1 - 1) = 12 * ((dateN n).1 - 2001 : Int) + (dateN n).2.1 - 1 := by
  have h1 := dateN_month n
  have h2 := yearGo_ge n 2001
  have h3 : (dateN n).1 = (yearGo 2001 n).1 := rfl
  refine ⟨wrap64_of ?_ ?_, wrap64_of ?_ ?_, wrap64_of ?_ ?_, wrap64_of ?_ ?_⟩ <;> omega
theorem cap_Period (hgl : gl 0 = some monthCells) (c : TCap) (t : Int) : ACalls Tryd.prog gl 13 [.agg (encCap c), .int .i64 t] h fun v h' => v = .int .i64 (perI c.days t) ∧ h' = h := by
  refine ACalls.data (by simp) (ACalls.body Tryd.f13 _ mixed Tryd.func13 rfl rfl (by simp [Tryd.ntmps13]) ?_)
  simp
  refine callS.pure _ (fun _ => clock_Day t) ?_
  simp
  refine ⟨fun a => by simp [perI, a], fun a => ⟨fun b => by simp [perI, b, Int.not_lt.2 a], fun b => ⟨fun d => ?_, fun d => by simp [perI, b, d, Int.not_lt.2 a]⟩⟩⟩
  refine callS.pure _ (fun _ => clock_Date hgl (dayI t)) ?_
  simp
  cases hd : isDayB (dayI t) with
  | false => simp [dateI, hd, perI, b, d, Int.not_lt.2 a]
  | true =>
    obtain ⟨n, hn, hlt⟩ : ∃ n : Nat, dayI t = n ∧ n < 795364 := by
      simp [isDayB] at hd
      exact ⟨(dayI t).toNat, by omega, by omega⟩
    have hm := dateN_month n
    obtain ⟨w1, w2, w3, w4⟩ := per_wrap hlt
    rw [hn] at hd
    have hD : dateI (n : Int) = (((dateN n).1 : Int), ((dateN n).2.1 : Int), ((dateN n).2.2 : Int)) := by rw [dateI, if_pos hd]; rfl
    have hP : perI c.days t = 12 * ((dateN n).1 - 2001 : Int) + (dateN n).2.1 - 1 := by
      rw [perI, hn, if_neg (by omega), if_neg b, if_pos d, if_pos hd, hD]
    rw [hn, hD, hP]
    exact ⟨fun _ => by simp only; rw [w1, w2, w3, w4], fun hh => by simp at hh; omega⟩
theorem dayI_neg {t : Int} (h : dayI t < 0) : dayI t = -1 := by
  rw [dayI] at h ⊢
  split
  · rename_i ht
    rw [if_pos ht] at h
    have := isTime_range ht
    have h2 : 0 ≤ t.tdiv 86400 := Int.tdiv_nonneg this.1 (by omega)
    omega
  · rfl
theorem ref25_Period (c : TCap) (t : Int) : ACalls Tryd.prog gl 14 [.agg (encCap c), .int .i64 t] h fun v h' => v = .int .i64 (perI c.days t) ∧ h' = h := by
  refine ACalls.data (.int _ _) (ACalls.body Tryd.f14 _ mixed Tryd.func14 rfl rfl (by simp [Tryd.ntmps14]) ?_)
  simp
  refine ⟨fun b => ?_, fun b => ?_⟩
  · refine callS.pure _ (fun _ => ref04_Day t) ?_
    simp
    by_cases hneg : dayI t < 0
    · rw [perI, if_pos hneg]; exact dayI_neg hneg
    · rw [perI, if_neg hneg, if_pos b]
  refine callS.pure _ (fun _ => ref04_Day t) ?_
  simp
  refine callS.pure _ (fun _ => ref04_Date (dayI t)) ?_
  simp
  by_cases d : c.days = 0
  · cases hd : isDayB (dayI t) with
    | false =>
      have hP : perI c.days t = -1 := by
        by_cases hneg : dayI t < 0
        · rw [perI, if_pos hneg]
        · rw [perI, if_neg hneg, if_neg b, if_pos d, if_neg (by simp [hd])]
      simp [dateI, hd, d, hP, ← hP]
    | true =>
      obtain ⟨n, hn, hlt⟩ : ∃ n : Nat, dayI t = n ∧ n < 795364 := by
        simp [isDayB] at hd
        exact ⟨(dayI t).toNat, by omega, by omega⟩
      have hm := dateN_month n
      have hy := dateN_year n
      obtain ⟨w1, w2, w3, w4⟩ := per_wrap hlt
      rw [hn] at hd
      have hD : dateI (n : Int) = (((dateN n).1 : Int), ((dateN n).2.1 : Int), ((dateN n).2.2 : Int)) := by rw [dateI, if_pos hd]; rfl
      have hP : perI c.days t = 12 * ((dateN n).1 - 2001 : Int) + (dateN n).2.1 - 1 := by
        rw [perI, hn, if_neg (by omega), if_neg b, if_pos d, if_pos hd, hD]
      rw [hn, hD, hP]
      refine ⟨fun hh => ?_, fun _ _ => by simp only; rw [w1, w2, w3, w4]⟩
      rcases hh with hh | hh
      · exact absurd d hh
      · simp at hh; omega
  · have hP : perI c.days t = -1 := by
      by_cases hneg : dayI t < 0
      · rw [perI, if_pos hneg]
      · rw [perI, if_neg hneg, if_neg b, if_neg d]
    simp [d, hP]
set_option maxHeartbeats 1000000 in
theorem cap_Left (hgl : gl 0 = some monthCells) (c : TCap) (l : List TChg) (t : Int) (hl : l.length ≤ 2000) (hc : okC c.cents) (hx : ∀ x ∈ l, okC x.cents) :
    ACalls Tryd.prog gl 17 [.agg (encCap c), .ro (l.map encChg), .int .i64 t] h fun v h' => v = .int .i64 (leftI c l t) ∧ h' = h := by
  refine ACalls.data (by simp) (ACalls.body Tryd.f17 _ mixed Tryd.func17 rfl rfl (by simp [Tryd.ntmps17]) ?_)
  simp
  refine callS.pure _ (fun _ => cap_Period hgl c t) ?_
  simp
  refine ⟨fun a => by rw [leftI, if_pos a], fun a => ?_⟩
  have hL : leftI c l t = leftP c (perI c.days t) l c.cents := by rw [leftI, if_neg (by omega), leftP_eq c _ l _ (fun x h => (hx x h).1) hc.1]
  rw [hL]
  generalize perI c.days t = p at *
  refine AWP.up mixed l.length (fun i fr h' => fr 3 = .ptr h.length 0 0 ∧ fr 7 = .int .i64 p ∧ fr 18 = .ro (l.map encChg) ∧ fr 19 = .int .i64 l.length ∧ fr 20 = .int .i64 i ∧
    (∃ a, fr 8 = .int .i64 a ∧ okC a ∧ leftP c p l c.cents = leftP c p (l.drop i) a) ∧ ∃ g, h' = h ++ .cells 4 [encCap c] :: g) 0 (by omega) ⟨by simp, by simp, by simp, by simp, by simp, ⟨_, by simp, hc, by simp⟩, [], by simp⟩ ?_
  rintro i fr h' hi ⟨e3, e7, e18, e19, e20, ⟨a, e8, ha, hf⟩, g, rfl⟩
  rcases Nat.lt_or_ge i l.length with hlt | hge
  · obtain ⟨x, hg, hg'⟩ := get_lt hlt
    have hxx := hx x (List.mem_of_getElem? hg)
    rw [drop_get hg, leftP] at hf
    have ew := wrap_succ' (i := i) (by omega)
    simp [e3, e7, e18, e19, e20, e8, hlt, hg, hg', ew]
    refine callS.pure _ (fun _ => cap_Matches c x) ?_
    simp [e3, e7, e18, e19, e20, e8, ew]
    refine callS.pure _ (fun _ => cap_Period hgl c x.time) ?_
    simp [e3, e7, e18, e19, e20, e8, ew]
    have hok : okC (a - min x.cents (max a 0)) := by unfold okC at *; omega
    have hw : IntKind.i64.wrap (a - min x.cents (max a 0)) = a - min x.cents (max a 0) := wrap64_of (by unfold okC at *; omega) (by unfold okC at *; omega)
    refine ⟨fun m q => ⟨i + 1, by omega, by omega, by omega, by rw [hw]; exact hok, ?_⟩, fun m => ⟨i + 1, by omega, by omega, by omega, ha, ?_⟩⟩
    · rw [hw, hf, if_pos (by simp [countsB, m, q])]
    · rw [hf, if_neg (by intro hh; simp [countsB] at hh; exact m hh.1 hh.2)]
  · rw [List.drop_eq_nil_of_le hge, leftP] at hf
    simp [e3, e7, e18, e19, e20, e8, Nat.not_lt.2 hge, hf]
    have := ha.1
    omega
set_option maxHeartbeats 1000000 in
theorem ref25_Left (c : TCap) (l : List TChg) (t : Int) (hl : l.length ≤ 2000) (hc : okC c.cents) (hx : ∀ x ∈ l, okC x.cents) :
    ACalls Tryd.prog gl 18 [.agg (encCap c), .ro (l.map encChg), .int .i64 t] h fun v h' => v = .int .i64 (leftI c l t) ∧ h' = h := by
  refine ACalls.data (.int _ _) (ACalls.body Tryd.f18 _ mixed Tryd.func18 rfl rfl (by simp [Tryd.ntmps18]) ?_)
  simp
  refine callS.pure _ (fun _ => ref25_Period c t) ?_
  simp
  refine ⟨fun a => by rw [leftI, if_pos a], fun a => ?_⟩
  have hL : leftI c l t = max (leftR c (perI c.days t) l c.cents) 0 := by rw [leftI, if_neg (by omega)]
  rw [hL]
  generalize perI c.days t = p at *
  refine AWP.up mixed l.length (fun i fr h' => fr 1 = .ro (l.map encChg) ∧ fr 3 = .ptr h.length 0 0 ∧ fr 7 = .int .i64 p ∧ fr 9 = .int .i64 i ∧
    (∃ a, fr 8 = .int .i64 a ∧ a ≤ 1125899906842624 ∧ -((i : Int) * 1125899906842624) ≤ a ∧ leftR c p l c.cents = leftR c p (l.drop i) a) ∧ ∃ g, h' = h ++ .cells 4 [encCap c] :: g) 0 (by omega) ⟨by simp, by simp, by simp, by simp, ⟨_, by simp, hc.2, by have := hc.1; omega, by simp⟩, [], by simp⟩ ?_
  rintro i fr h' hi ⟨e1, e3, e7, e9, ⟨a, e8, ha, ha2, hf⟩, g, rfl⟩
  rcases Nat.lt_or_ge i l.length with hlt | hge
  · obtain ⟨x, hg, hg'⟩ := get_lt hlt
    have hxx := hx x (List.mem_of_getElem? hg)
    rw [drop_get hg, leftR] at hf
    have ew := wrap_succ' (i := i) (by omega)
    simp [e1, e3, e7, e8, e9, hlt, hg, hg', ew]
    refine ⟨by decide, ?_⟩
    refine callS.pure _ (fun _ => ref25_Matches c x) ?_
    simp [e1, e3, e7, e8, e9, hlt, hg, hg', ew]
    refine callS.pure _ (fun _ => ref25_Period c x.time) ?_
    simp [e1, e3, e7, e8, e9, hlt, hg, hg', ew]
    have hw : IntKind.i64.wrap (a - x.cents) = a - x.cents := wrap64_of (by unfold okC at *; omega) (by unfold okC at *; omega)
    refine ⟨fun m q => ⟨i + 1, by omega, by omega, by omega, by rw [hw]; unfold okC at *; omega, by rw [hw]; unfold okC at *; omega, ?_⟩, fun m => ⟨i + 1, by omega, by omega, by omega, ha, by omega, ?_⟩⟩
    · rw [hw, hf, if_pos (by simp [countsB, m, q])]
    · rw [hf, if_neg (by intro hh; simp [countsB] at hh; exact m hh.1 hh.2)]
  · rw [List.drop_eq_nil_of_le hge, leftR] at hf
    simp [e1, e3, e7, e8, e9, Nat.not_lt.2 hge, hf]
end Go.Proofs.YtillfoacekifbaaDoor
