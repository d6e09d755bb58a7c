/-
  Contract: the law of the fallback.
-/
import Derived.Test.YtcbaojkchiphkaaLawTimes
import Derived.Test.YtcbaojkchiphkaaAbsBorrow
set_option linter.unusedVariables false
set_option linter.unusedSimpArgs false
set_option maxRecDepth 100000
namespace Go.Proofs.Ytcbaojkchiphkaa
open Go Go.Abs Go.Toll
variable {gl : Globs} [GOk gl] {h : AHeap}

def specialB (band a b : Bytes) (c : Int) (l : List Rate) : Bool := l.any fun y => !decide (y.band = []) && fitsB band a b c y
def foundB (band a b : Bytes) (c : Int) (n e : Int) (l : List Rate) : Bool := e == 22 || l.any fun y => fitsB band a b c y && (y.cents == n)

theorem found_succ {band a b : Bytes} {c n e : Int} {l : List Rate} {i : Nat} {y : Rate} (hy : l[i]? = some y) :
    (foundB band a b c n e (l.take i) || y.src == a && y.dst == b && y.cls == c && (List.isEmpty y.band || y.band == band) && y.cents == n) = foundB band a b c n e (l.take (i + 1)) := by
  rw [List.take_add_one, hy]
  rw [Bool.eq_iff_iff]
  simp [foundB, fitsB, or_assoc, and_assoc]
theorem special_succ {band a b : Bytes} {c : Int} {l : List Rate} {i : Nat} {y : Rate} (hy : l[i]? = some y) (hb : ¬ y.band = []) :
    (specialB band a b c (l.take i) || y.src == a && y.dst == b && y.cls == c && (List.isEmpty y.band || y.band == band)) = specialB band a b c (l.take (i + 1)) := by
  rw [List.take_add_one, hy]
  rw [Bool.eq_iff_iff]
  simp [specialB, fitsB, hb, and_assoc]
theorem special_same {band a b : Bytes} {c : Int} {l : List Rate} {i : Nat} {y : Rate} (hy : l[i]? = some y) (hb : y.band = []) :
    specialB band a b c (l.take i) = specialB band a b c (l.take (i + 1)) := by
  rw [List.take_add_one, hy]
  simp [specialB, hb]
theorem less_succ {l : List Rate} {i : Nat} {y : Rate} (hy : l[i]? = some y) :
    (l.take (i + 1)).filter (fun y => !decide (y.band = [])) = (l.take i).filter (fun y => !decide (y.band = [])) ++ if y.band = [] then [] else [y] := by
  rw [List.take_add_one, hy, List.filter_append]
  by_cases hb : y.band = [] <;> simp [hb]

set_option maxHeartbeats 1600000 in
theorem law_Fallback (x : Tariff) (a b : Bytes) (c t : Int) : ACalls Try.prog gl 6 [.agg (encTariff x), .agg [.str a, .str b, .int .i64 c, .int .i64 t]] h fun v h' => v = .bool true := by
  refine ACalls.mono (ACalls.data (.bool true) (ACalls.body Try.f6 _ mixed Try.func6 rfl rfl (by simp [Try.ntmps6]) ?_)) fun _ _ h => h.1
  simp
  refine callS.pure _ (fun _ => law_short x) ?_
  simp
  intro hs
  have h2 := short_len hs
  refine callS.pure _ (fun _ => tariff_Rate x a b c t (by omega) (by omega)) ?_
  simp
  refine callS.pure _ (fun _ => tariff_Band x t (by omega)) ?_
  simp
  generalize hband : bandOf x t = band
  have hr := rate_fits band x a b c
  have hrl := rate_less band x a b c
  generalize hn : (rateI band x a b c).1 = n
  generalize he : (rateI band x a b c).2 = e
  refine AWP.up mixed x.rates.length (fun i fr h' => fr 2 = .ptr h.length 0 0 ∧ fr 3 = .ptr (h.length + 1) 0 0 ∧ fr 5 = .int .i64 n ∧ fr 6 = .int .i64 e ∧
    fr 7 = .bool (foundB band a b c n e (x.rates.take i)) ∧ fr 8 = .str band ∧ fr 9 = .ptr (h.length + 2) 0 0 ∧ fr 10 = .bool (specialB band a b c (x.rates.take i)) ∧ fr 11 = .int .i64 i ∧
    ∃ rs g, h' = h ++ .cells 4 [encTariff x] :: .cells 4 [[.str a, .str b, .int .i64 c, .int .i64 t]] :: .cells 4 [[.int .i64 x.valid.lo, .int .i64 x.valid.hi, .ro (x.bands.map encBand), rs]] :: g ∧
    ∃ l, l = (x.rates.take i).filter (fun y => !decide (y.band = [])) ∧ ((rs = .nil ∧ l = []) ∨ ∃ m, rs = .own (h.length + (m + 1 + 1 + 1)) 0 l.length ∧ g[m]? = some (.cells 5 (l.map encRate)))) 0 (by omega) ⟨by simp, by simp, by simp, by simp, by simp [foundB], by simp, by simp, by simp [specialB], by simp, .nil, [], by simp, [], by simp, .inl ⟨rfl, rfl⟩⟩ ?_
  rintro i fr h' hi ⟨e2, e3, e5, e6, e7, e8, e9, e10, e11, rs, g, rfl, l, hl, hg⟩
  rcases Nat.lt_or_ge i x.rates.length with hlt | hge
  · obtain ⟨y, hy, hy'⟩ := get_lt hlt
    have ew := wrap_succ' (i := i) (by omega)
    have hno : y.src = a → y.dst = b → y.cls = c → y.band = [] ∨ y.band = band → ¬e = 22 := by
      intro p1 p2 p3 p4 he22
      rcases hr with ⟨_, hr⟩ | ⟨hr, _⟩
      · have := hr y (hy' ▸ List.getElem_mem hlt)
        simp [fitsB, p1, p2, p3] at this
        rcases p4 with p4 | p4
        · exact this.1 p4
        · exact this.2 p4
      · rw [hr] at he; omega
    rcases hg with ⟨rfl, rfl⟩ | ⟨m, rfl, hm⟩
    · simp [e2, e3, e5, e6, e7, e8, e9, e10, e11, hlt, hy, hy', ew]
      refine ⟨fun p1 p2 p3 => ⟨⟨⟨p1, p2⟩, p3⟩, fun p4 => ⟨⟨⟨p1, p2⟩, p3⟩, p4⟩⟩, fun q => ⟨q, fun p1 p2 p3 p4 => ⟨q, ⟨⟨p1, p2⟩, p3⟩, p4⟩⟩, hno, fun _ => ⟨fun hb => ?_, fun hb => ?_⟩⟩
      · refine ⟨i + 1, by omega, by omega, found_succ hy, special_succ hy hb, by omega, _, _, ⟨rfl, rfl⟩, .inr ⟨g.length + 2, ?_⟩⟩
        rw [less_succ hy, ← hl]
        simp [hb]
      · refine ⟨i + 1, by omega, by omega, found_succ hy, special_same hy hb, by omega, _, _, ⟨rfl, rfl⟩, .inl ⟨rfl, ?_⟩⟩
        have := less_succ hy
        rw [← hl] at this
        simp [hb] at this
        exact this
    · obtain ⟨hm1, hm2⟩ := List.getElem?_eq_some_iff.1 hm
      have hb0 : ¬ h.length + (m + 1 + 1 + 1) < h.length := by omega
      have tl : (l.map encRate).take l.length = l.map encRate := List.take_of_length_le (by simp)
      simp [e2, e3, e5, e6, e7, e8, e9, e10, e11, hlt, hy, hy', ew, hm1, hm2, hb0, tl]
      refine ⟨fun p1 p2 p3 => ⟨⟨⟨p1, p2⟩, p3⟩, fun p4 => ⟨⟨⟨p1, p2⟩, p3⟩, p4⟩⟩, fun q => ⟨q, fun p1 p2 p3 p4 => ⟨q, ⟨⟨p1, p2⟩, p3⟩, p4⟩⟩, hno, fun _ => ⟨fun hb => ?_, fun hb => ?_⟩⟩
      · have hll : l.length ≤ 60 := by
          have := List.length_filter_le (fun y : Rate => !decide (y.band = [])) (x.rates.take i)
          rw [← hl, List.length_take] at this
          omega
        refine ⟨by omega, i + 1, by omega, by omega, found_succ hy, special_succ hy hb, by omega, _, _, ⟨rfl, rfl⟩, .inr ⟨g.length + 2, ?_⟩⟩
        rw [less_succ hy, ← hl]
        simp [hb]
      · refine ⟨i + 1, by omega, by omega, found_succ hy, special_same hy hb, by omega, _, _, ⟨rfl, rfl⟩, .inr ⟨m, ?_⟩⟩
        rw [less_succ hy, ← hl]
        simp [hb, hm1, hm2]
  · have hlt' : (lessT x).rates.length ≤ 60 := by
      have := List.length_filter_le (fun y : Rate => !decide (y.band = [])) x.rates
      simp only [lessT]; omega
    have hcall := tariff_Rate (gl := gl) (h := []) (lessT x) a b c t (by omega) (show x.bands.length ≤ 1000 by omega)
    rw [show bandOf (lessT x) t = band from hband, hrl] at hcall
    rw [List.take_of_length_le hge] at hl e7 e10
    have hl : l = (lessT x).rates := hl
    have hF : foundB band a b c n e x.rates = true := by
      rcases hr with ⟨h1, _⟩ | ⟨h1, y, h3, h4, h5⟩
      · rw [h1] at he; simp [foundB, ← he]
      · simp only [foundB, Bool.or_eq_true, List.any_eq_true, Bool.and_eq_true, beq_iff_eq]
        exact .inr ⟨y, h3, h4, by rw [h5, hn]⟩
    obtain ⟨m2, f2, hcall, hS⟩ : ∃ m2 f2, (ACalls Try.prog gl 18 [.agg (encTariff (lessT x)), .str a, .str b, .int .i64 c, .int .i64 t] [] fun v h' => v = .tup [.int .i64 m2, .int .i64 f2] ∧ h' = []) ∧
        (specialB band a b c x.rates = true ∧ m2 = n ∧ f2 = 0 ∧ e = 0 ∨ specialB band a b c x.rates = false ∧ m2 = 0 ∧ f2 = 22) := by
      refine ⟨_, _, hcall, ?_⟩
      cases hS : specialB band a b c x.rates with
      | true =>
        have hS' := hS
        unfold specialB at hS'
        rw [if_pos hS']
        obtain ⟨y, hy, hf⟩ := List.any_eq_true.1 hS'
        simp only [Bool.and_eq_true] at hf
        rcases hr with ⟨_, h1⟩ | ⟨h1, _⟩
        · rw [h1 y hy] at hf; simp at hf
        · exact .inl ⟨rfl, hn, h1, by omega⟩
      | false =>
        have hS' := hS
        unfold specialB at hS'
        rw [if_neg (by rw [hS']; simp)]
        exact .inr ⟨rfl, rfl, rfl⟩
    rw [hF] at e7
    rcases hg with ⟨rfl, rfl⟩ | ⟨m, rfl, hm⟩
    · simp [e2, e3, e5, e6, e7, e8, e9, e10, e11, Nat.not_lt.2 hge]
      refine callS.pure _ (fun _ => ACalls.borrow (args' := [.agg (encTariff (lessT x)), .str a, .str b, .int .i64 c, .int .i64 t]) (by simp) (.cons (.agg' (.cons (.data _ (by simp)) (.cons (.data _ (by simp)) (.cons (.data _ (by simp)) (.cons (by rw [← hl]; exact .nil) .nil))))) (.cons (.data _ (by simp)) (.cons (.data _ (by simp)) (.cons (.data _ (by simp)) (.cons (.data _ (by simp)) .nil))))) hcall) ?_
      rcases hS with ⟨hS, rfl, rfl, rfl⟩ | ⟨hS, rfl, rfl⟩ <;> rw [hS] at e10 <;> simp [e2, e3, e5, e6, e7, e8, e9, e10, e11] <;> exact callS.pure _ (fun _ => law_alive) (by simp)
    · obtain ⟨hm1, hm2⟩ := List.getElem?_eq_some_iff.1 hm
      have hb0 : ¬ h.length + (m + 1 + 1 + 1) < h.length := by omega
      simp [e2, e3, e5, e6, e7, e8, e9, e10, e11, Nat.not_lt.2 hge]
      refine callS.pure _ (fun _ => ACalls.borrow (args' := [.agg (encTariff (lessT x)), .str a, .str b, .int .i64 c, .int .i64 t]) (by simp) (.cons (.agg' (.cons (.data _ (by simp)) (.cons (.data _ (by simp)) (.cons (.data _ (by simp)) (.cons ?_ .nil))))) (.cons (.data _ (by simp)) (.cons (.data _ (by simp)) (.cons (.data _ (by simp)) (.cons (.data _ (by simp)) .nil))))) hcall) ?_
      · rw [← hl]
        exact Frz.ownD (m := 5) (es := l.map encRate) (by simp [hm1, hm2]) (by omega) (by simp) (by rw [List.drop_zero, List.take_of_length_le (by simp)]) (by simp)
      rcases hS with ⟨hS, rfl, rfl, rfl⟩ | ⟨hS, rfl, rfl⟩ <;> rw [hS] at e10 <;> simp [e2, e3, e5, e6, e7, e8, e9, e10, e11] <;> exact callS.pure _ (fun _ => law_alive) (by simp)
end Go.Proofs.Ytcbaojkchiphkaa
