/-
  Contracts: clock, span and their references.
-/
import Derived.Test.YtcbaojkchiphkaaTab
import Derived.Test.YtcbaojkchiphkaaTollBase
set_option linter.unusedVariables false
set_option linter.unusedSimpArgs false
set_option maxRecDepth 100000
namespace Go.Proofs.Ytcbaojkchiphkaa
open Go Go.Abs Go.Toll
variable {gl : Globs} {h : AHeap}

theorem clock_isTime (t : Int) : ACalls Try.prog gl 50 [.int .i64 t] h fun x h' => x = .bool (isTimeB t) ∧ h' = h := by
  refine ACalls.body Try.f50 _ mixed Try.func50 rfl rfl (by simp [Try.ntmps50]) ?_
  simp [isTimeB]
theorem ref04_IsTime (t : Int) : ACalls Try.prog gl 54 [.int .i64 t] h fun x h' => x = .bool (isTimeB t) ∧ h' = h := by
  refine ACalls.body Try.f54 _ mixed Try.func54 rfl rfl (by simp [Try.ntmps54]) ?_
  simp [isTimeB]
theorem clock_valid (w : Win) : ACalls Try.prog gl 51 [.agg (encWin w)] h fun x h' => x = .bool (validWB w) ∧ h' = h := by
  refine ACalls.data (.bool _) (ACalls.body Try.f51 _ mixed Try.func51 rfl rfl (by simp [Try.ntmps51]) ?_)
  simp [validWB]
theorem ref04_ValidWindow (w : Win) : ACalls Try.prog gl 46 [.agg (encWin w)] h fun x h' => x = .bool (validWB w) ∧ h' = h := by
  refine ACalls.data (.bool _) (ACalls.body Try.f46 _ mixed Try.func46 rfl rfl (by simp [Try.ntmps46]) ?_)
  simp [validWB]
theorem span_Valid (i : Iv) : ACalls Try.prog gl 41 [.agg (encIv i)] h fun x h' => x = .bool (validIB i) ∧ h' = h := by
  refine ACalls.data (.bool _) (ACalls.body Try.f41 _ mixed Try.func41 rfl rfl (by simp [Try.ntmps41]) ?_)
  simp [validIB]
theorem ref05_Valid (i : Iv) : ACalls Try.prog gl 44 [.agg (encIv i)] h fun x h' => x = .bool (validIB i) ∧ h' = h := by
  refine ACalls.data (.bool _) (ACalls.body Try.f44 _ mixed Try.func44 rfl rfl (by simp [Try.ntmps44]) ?_)
  simp [validIB]
theorem clock_on (w : Win) (d : Int) (hd : 0 ≤ d) : ACalls Try.prog gl 52 [.agg (encWin w), .int .i64 d] h fun x h' => x = .bool (onB w d) ∧ h' = h := by
  refine ACalls.data (.bool _) (ACalls.body Try.f52 _ mixed Try.func52 rfl rfl (by simp [Try.ntmps52]) ?_)
  simp [onB]
  exact Int.tmod_nonneg _ hd
theorem clock_Minute (t : Int) : ACalls Try.prog gl 53 [.int .i64 t] h fun x h' => x = .int .i64 (minuteI t) ∧ h' = h := by
  refine ACalls.body Try.f53 _ mixed Try.func53 rfl rfl (by simp [Try.ntmps53]) ?_
  simp
  refine callS.pure _ (fun _ => clock_isTime _) ?_
  cases ht : isTimeB t with
  | false => simp [minuteI, ht]
  | true =>
    have := isTime_range ht
    have e := wrap_minute (t := t) this.1
    simp [minuteI, ht, e]
theorem ref04_Minute (t : Int) : ACalls Try.prog gl 56 [.int .i64 t] h fun x h' => x = .int .i64 (minuteI t) ∧ h' = h := by
  refine ACalls.body Try.f56 _ mixed Try.func56 rfl rfl (by simp [Try.ntmps56]) ?_
  simp
  refine callS.pure _ (fun _ => ref04_IsTime _) ?_
  cases ht : isTimeB t with
  | false => simp [minuteI, ht]
  | true =>
    have := isTime_range ht
    have e := wrap_minute (t := t) this.1
    simp [minuteI, ht, e]
theorem clock_In (w : Win) (t : Int) : ACalls Try.prog gl 32 [.agg (encWin w), .int .i64 t] h fun x h' => x = .bool (inWB w t) ∧ h' = h := by
  refine ACalls.data (.bool _) (ACalls.body Try.f32 _ mixed Try.func32 rfl rfl (by simp [Try.ntmps32]) ?_)
  simp
  refine callS.pure _ (fun _ => clock_isTime _) ?_
  simp
  refine callS.pure _ (fun _ => clock_valid w) ?_
  simp
  refine callS.pure (.bool (onB w (t.tdiv 86400))) (fun hg => ?_) ?_
  · have ht : isTimeB t = true := by simp at hg; exact hg.1
    have := isTime_range ht
    simp [wrap_day this]
    exact clock_on w _ (tdiv_le this.1 (by omega)).1
  simp
  refine ⟨fun hf => ?_, fun h1 h2 h3 => callS.pure _ (fun _ => clock_Minute _) ?_⟩
  · simp [inWB]
    exact fun h1 h2 h3 => by simp_all
  · simp [inWB, h1, h2, h3]
theorem ref04_set (days k : Int) (hd : 0 ≤ days) (hd2 : days ≤ 9223372036854775807) (hk : 0 ≤ k ∧ k ≤ 100) : ACalls Try.prog gl 55 [.int .i64 days, .int .i64 k] h fun x h' => x = .bool (setB days k.toNat) ∧ h' = h := by
  refine ACalls.body Try.f55 _ mixed Try.func55 rfl rfl (by simp [Try.ntmps55]) ?_
  simp
  refine AWP.up mixed k.toNat (fun i fr h' => ∃ d, fr 0 = .int .i64 d ∧ 0 ≤ d ∧ d ≤ days ∧ setB d (k.toNat - i) = setB days k.toNat ∧ fr 1 = .int .i64 k ∧ fr 5 = .int .i64 i ∧ h' = h) 0 (by omega) ⟨days, by simp [hd]⟩ ?_
  rintro i fr h' hi ⟨d, e0, hd0, hd1, hs, e1, e5, rfl⟩
  simp [e0, e1, e5]
  refine ⟨fun hlt => ?_, fun hge => ?_⟩
  · have h2 := tdiv_le (b := 2) hd0 (by omega)
    have e2 := wrap64_of (n := d.tdiv 2) (by omega) (by omega)
    have e3 := wrap64_of (n := (i : Int) + 1) (by omega) (by omega)
    simp [e2, e3]
    refine ⟨i + 1, by omega, by omega, h2.1, by omega, ?_, by simp⟩
    rw [show k.toNat - i = (k.toNat - (i + 1)) + 1 by omega] at hs
    exact hs
  · rw [show k.toNat - i = 0 by omega] at hs
    simp [← hs, setB]
theorem ref04_In (w : Win) (t : Int) : ACalls Try.prog gl 33 [.agg (encWin w), .int .i64 t] h fun x h' => x = .bool (refInB w t) ∧ h' = h := by
  refine ACalls.data (.bool _) (ACalls.body Try.f33 _ mixed Try.func33 rfl rfl (by simp [Try.ntmps33]) ?_)
  simp
  refine callS.pure _ (fun _ => ref04_ValidWindow w) ?_
  simp
  refine callS.pure _ (fun _ => ref04_IsTime t) ?_
  simp
  refine ⟨fun hf => ?_, fun h1 h2 => ?_⟩
  · simp [refInB]
    intro h1 h2; simp_all
  · have ht := isTime_range h2
    have hw := h1
    simp [validWB] at hw
    have e1 := wrap_day ht
    have e3 := tdiv_le (b := 86400) ht.1 (by omega)
    have e4 := tmod_lt (b := 7) e3.1 (by omega)
    simp [e1]
    refine ⟨by decide, ?_⟩
    refine callS.pure _ (fun _ => ref04_set w.days ((t.tdiv 86400).tmod 7) (by omega) (by omega) (by omega)) ?_
    simp
    refine callS.pure _ (fun _ => ref04_Minute t) ?_
    simp
    refine callS.pure _ (fun _ => ref04_Minute t) ?_
    simp [refInB, h1, h2]
end Go.Proofs.Ytcbaojkchiphkaa
