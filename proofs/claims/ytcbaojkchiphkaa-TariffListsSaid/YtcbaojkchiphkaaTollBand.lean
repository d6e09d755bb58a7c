/-
  The band of a time: the program's and the reference's are one.
-/
import Derived.Test.YtcbaojkchiphkaaTollBase
set_option linter.unusedVariables false
set_option linter.unusedSimpArgs false
namespace Go.Toll
open Go Go.Abs

theorem bits_all : ∀ n : Fin 128, ∀ k : Fin 7, (bits .and .i64 ((n.val : Int).fdiv (2 ^ min k.val 64)) 1 == 1) = setB (n.val : Int) k.val := by decide +kernel
theorem onB_eq {w : Win} {d : Int} (h1 : 1 ≤ w.days) (h2 : w.days ≤ 127) (hd : 0 ≤ d) : onB w d = setB w.days (d.tmod 7).toNat := by
  have h3 := tmod_lt (b := 7) hd (by omega)
  obtain ⟨k, hk⟩ := Int.eq_ofNat_of_zero_le h3.1
  obtain ⟨n, hn⟩ := Int.eq_ofNat_of_zero_le (show 0 ≤ w.days by omega)
  have := bits_all ⟨n, by omega⟩ ⟨k, by omega⟩
  simp only [onB, hk, hn, Int.toNat_natCast]
  exact this
theorem inWB_eq (w : Win) (t : Int) : inWB w t = refInB w t := by
  unfold inWB refInB
  cases ht : isTimeB t with
  | false => simp
  | true =>
    cases hv : validWB w with
    | false => simp
    | true =>
      have h1 := isTime_range ht
      have hw : (1 ≤ w.days ∧ w.days ≤ 127) := by simp [validWB] at hv; omega
      rw [onB_eq hw.1 hw.2 (tdiv_le h1.1 (by omega)).1]
theorem bandOf_eq (x : Tariff) (t : Int) : bandOf x t = refBandOf x t := by
  unfold bandOf refBandOf
  congr 2
  congr 1
  funext b
  exact inWB_eq b.win t

theorem inWB_week (w : Win) (t : Int) (n : Nat) (h0 : 0 ≤ t) (h1 : t < 68719449600) (h2 : t + n * 604800 < 68719449600) : inWB w (t + n * 604800) = inWB w t := by
  have e0 : isTimeB t = true := by simp [isTimeB]; omega
  have e1 : isTimeB (t + n * 604800) = true := by simp [isTimeB]; omega
  have e2 : (t + n * 604800).tmod 86400 = t.tmod 86400 := by
    rw [Int.tmod_eq_emod_of_nonneg h0, Int.tmod_eq_emod_of_nonneg (by omega)]; omega
  have e3 : ((t + n * 604800).tdiv 86400).tmod 7 = (t.tdiv 86400).tmod 7 := by
    have := (tdiv_le (b := 86400) h0 (by omega)).1
    have := (tdiv_le (b := 86400) (a := t + n * 604800) (by omega) (by omega)).1
    rw [Int.tmod_eq_emod_of_nonneg (by omega), Int.tmod_eq_emod_of_nonneg (by omega), Int.tdiv_eq_ediv_of_nonneg h0, Int.tdiv_eq_ediv_of_nonneg (by omega)]; omega
  simp only [inWB, minuteI, onB, e0, e1, e2, e3]
theorem bandOf_week (x : Tariff) (t : Int) (n : Nat) (h0 : 0 ≤ t) (h1 : t < 68719449600) (h2 : t + n * 604800 < 68719449600) : bandOf x (t + n * 604800) = bandOf x t := by
  unfold bandOf
  congr 2
  congr 1
  funext b
  exact inWB_week b.win t n h0 h1 h2
/-! ### Prices -/
theorem centsIn_true {a b : Bytes} {c : Int} {d : Bytes} : ∀ {l : List Rate}, (centsIn a b c d l).2 = true → ∃ y ∈ l, isRate a b c d y = true ∧ y.cents = (centsIn a b c d l).1
  | [], h => by simp [centsIn] at h
  | y :: l, h => by
    rw [centsIn] at h ⊢
    by_cases hy : isRate a b c d y = true
    · rw [if_pos hy]; exact ⟨y, by simp, hy, rfl⟩
    · rw [if_neg hy] at h ⊢
      obtain ⟨z, h1, h2, h3⟩ := centsIn_true h
      exact ⟨z, by simp [h1], h2, h3⟩
theorem centsIn_false {a b : Bytes} {c : Int} {d : Bytes} : ∀ {l : List Rate}, (centsIn a b c d l).2 = false → centsIn a b c d l = (0, false) ∧ ∀ y ∈ l, isRate a b c d y = false
  | [], h => by simp [centsIn]
  | y :: l, h => by
    rw [centsIn] at h ⊢
    by_cases hy : isRate a b c d y = true
    · rw [if_pos hy] at h; simp at h
    · rw [if_neg hy] at h ⊢
      obtain ⟨h1, h2⟩ := centsIn_false h
      exact ⟨h1, by simpa [hy] using h2⟩
theorem centsIn_of {a b : Bytes} {c : Int} {d : Bytes} {l : List Rate} (h : ∀ y ∈ l, isRate a b c d y = false) : centsIn a b c d l = (0, false) := by
  refine (centsIn_false (l := l) ?_).1
  cases hc : (centsIn a b c d l).2 with
  | false => rfl
  | true =>
    obtain ⟨y, h1, h2, _⟩ := centsIn_true hc
    rw [h y h1] at h2; cases h2
theorem centsIn_filter {a b : Bytes} {c : Int} {d : Bytes} (p : Rate → Bool) (hp : ∀ y, isRate a b c d y = true → p y = true) : ∀ l : List Rate, centsIn a b c d (l.filter p) = centsIn a b c d l
  | [] => rfl
  | y :: l => by
    rw [List.filter_cons]
    by_cases hy : isRate a b c d y = true
    · rw [if_pos (hp y hy), centsIn, centsIn, if_pos hy, if_pos hy]
    · rw [centsIn, if_neg hy]
      split
      · rw [centsIn, if_neg hy]; exact centsIn_filter p hp l
      · exact centsIn_filter p hp l

/-- Does a rate of these fit? -/
def fitsB (band a b : Bytes) (c : Int) (y : Rate) : Bool := decide (y.src = a) && decide (y.dst = b) && decide (y.cls = c) && (decide (y.band = []) || decide (y.band = band))
theorem fits_iff (band a b : Bytes) (c : Int) (y : Rate) : fitsB band a b c y = (isRate a b c band y || isRate a b c [] y) := by
  rw [Bool.eq_iff_iff]
  simp only [fitsB, isRate, Bool.or_eq_true, Bool.and_eq_true, decide_eq_true_eq]
  constructor
  · rintro ⟨⟨⟨h1, h2⟩, h3⟩, h4 | h4⟩
    · exact .inr ⟨⟨⟨h1, h2⟩, h3⟩, h4⟩
    · exact .inl ⟨⟨⟨h1, h2⟩, h3⟩, h4⟩
  · rintro (⟨⟨⟨h1, h2⟩, h3⟩, h4⟩ | ⟨⟨⟨h1, h2⟩, h3⟩, h4⟩)
    · exact ⟨⟨⟨h1, h2⟩, h3⟩, .inr h4⟩
    · exact ⟨⟨⟨h1, h2⟩, h3⟩, .inl h4⟩
def lessT (x : Tariff) : Tariff := ⟨x.valid, x.bands, x.rates.filter fun y => !decide (y.band = [])⟩
/-- The price is 0 with an error, where no rate fits, or that of a rate that fits. -/
theorem rate_fits (band : Bytes) (x : Tariff) (a b : Bytes) (c : Int) :
    (rateI band x a b c = (0, 22) ∧ ∀ y ∈ x.rates, fitsB band a b c y = false) ∨ ((rateI band x a b c).2 = 0 ∧ ∃ y ∈ x.rates, fitsB band a b c y = true ∧ y.cents = (rateI band x a b c).1) := by
  unfold rateI centsOf
  by_cases h1 : (centsIn a b c band x.rates).2 = true
  · rw [if_pos h1]
    obtain ⟨y, p, q, r⟩ := centsIn_true h1
    exact .inr ⟨rfl, y, p, by rw [fits_iff, q]; rfl, r⟩
  · rw [if_neg h1]
    by_cases h2 : (centsIn a b c [] x.rates).2 = true
    · rw [if_pos h2]
      obtain ⟨y, p, q, r⟩ := centsIn_true h2
      exact .inr ⟨rfl, y, p, by rw [fits_iff, q]; simp, r⟩
    · rw [if_neg h2]
      refine .inl ⟨rfl, fun y hy => ?_⟩
      rw [fits_iff, (centsIn_false (by simpa using h1)).2 y hy, (centsIn_false (by simpa using h2)).2 y hy]; rfl
theorem rate_less (band : Bytes) (x : Tariff) (a b : Bytes) (c : Int) :
    rateI band (lessT x) a b c = if x.rates.any (fun y => !decide (y.band = []) && fitsB band a b c y) then rateI band x a b c else (0, 22) := by
  have e0 : centsIn a b c [] (lessT x).rates = (0, false) := by
    refine centsIn_of fun y hy => ?_
    simp only [lessT, List.mem_filter] at hy
    simp only [isRate]
    simp at hy
    simp [hy.2]
  split
  · rename_i h
    obtain ⟨y, hy, hf⟩ := List.any_eq_true.1 h
    simp only [Bool.and_eq_true, Bool.not_eq_true', decide_eq_false_iff_not] at hf
    obtain ⟨hne, hf⟩ := hf
    have hf' : isRate a b c band y = true := by
      rw [fits_iff, Bool.or_eq_true] at hf
      rcases hf with h | h
      · exact h
      · simp [isRate] at h; exact absurd h.2 hne
    have hb : band ≠ [] := by
      simp [isRate] at hf'
      rw [← hf'.2]; exact hne
    have e1 : centsIn a b c band (lessT x).rates = centsIn a b c band x.rates := by
      refine centsIn_filter _ (fun z hz => ?_) _
      simp [isRate] at hz
      simp [hz.2, hb]
    have e2 : (centsIn a b c band x.rates).2 = true := by
      cases hc : (centsIn a b c band x.rates).2 with
      | true => rfl
      | false =>
        have := (centsIn_false hc).2 y hy
        rw [hf'] at this; cases this
    simp [rateI, centsOf, e1, e2]
  · rename_i h
    have hn : ∀ y ∈ x.rates, y.band ≠ [] → fitsB band a b c y = false := by
      intro y hy hne
      simp only [List.any_eq_true, not_exists, not_and] at h
      have := h y hy
      simpa [hne] using this
    have e1 : centsIn a b c band (lessT x).rates = (0, false) := by
      refine centsIn_of fun y hy => ?_
      simp only [lessT, List.mem_filter] at hy
      simp at hy
      have := hn y hy.1 hy.2
      rw [fits_iff, Bool.or_eq_false_iff] at this
      exact this.1
    simp [rateI, centsOf, e0, e1]

theorem tarEqB_self (x : Tariff) : tarEqB x x = true := by simp [tarEqB]
end Go.Toll
