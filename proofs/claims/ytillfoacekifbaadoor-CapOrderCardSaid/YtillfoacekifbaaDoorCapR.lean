/-
  Contracts: what Apply checks; lists of numbers; the law's helpers.
-/
import Derived.Test.YtillfoacekifbaaDoorCap
set_option linter.unusedVariables false
set_option linter.unusedSimpArgs false
set_option maxRecDepth 100000
namespace Go.Proofs.YtillfoacekifbaaDoor
open Go Go.Abs Go.Toll
variable {gl : Globs} {h : AHeap}

set_option maxHeartbeats 1000000 in
theorem ref25_check (l : List TCap) (ch : List TChg) (hl : l.length ≤ 2000) (hch : ch.length ≤ 2000) :
    ACalls Tryd.prog gl 38 [.ro (l.map encCap), .ro (ch.map encChg)] h fun v h' => v = .int .i64 (applyErr l ch) ∧ h' = h := by
  refine ACalls.data (.int _ _) (ACalls.body Tryd.f38 _ mixed Tryd.func38 rfl rfl (by simp [Tryd.ntmps38]) ?_)
  simp
  refine ⟨fun a => by rw [applyErr, if_pos (by omega)], fun a1 a2 => ?_⟩
  have ht : applyErr l ch = if firstI capErr l ≠ 0 then firstI capErr l else firstI chgErr ch := by rw [applyErr, if_neg (by omega)]
  refine AWP.up mixed l.length (fun i fr h' => fr 0 = .ro (l.map encCap) ∧ fr 1 = .ro (ch.map encChg) ∧ fr 5 = .int .i64 i ∧ firstI capErr l = firstI capErr (l.drop i) ∧ ∃ g, h' = h ++ g) 0 (by omega) ⟨by simp, by simp, by simp, by simp, [], by simp⟩ ?_
  rintro i fr h' hi ⟨e0, e1, e5, hf, g, rfl⟩
  rcases Nat.lt_or_ge i l.length with hlt | hge
  · obtain ⟨c, hg, hg'⟩ := get_lt hlt
    rw [drop_get hg, firstI] at hf
    have ew := wrap_succ' (i := i) (by omega)
    simp [e0, e1, e5, hlt, hg, hg', ew]
    refine callS.pure _ (fun _ => ref25_Check c) ?_
    simp [e0, e1, e5, ew]
    refine ⟨fun q => ?_, fun q => ⟨i + 1, by omega, by omega, by omega, ?_⟩⟩
    · rw [if_pos q] at hf; rw [ht, hf, if_pos q]
    · rw [if_neg (by simp [q])] at hf; exact hf
  · rw [List.drop_eq_nil_of_le hge, firstI] at hf
    rw [hf] at ht
    have ht : applyErr l ch = firstI chgErr ch := by simpa using ht
    simp [e0, e1, e5, Nat.not_lt.2 hge]
    refine AWP.up mixed ch.length (fun i fr h' => fr 1 = .ro (ch.map encChg) ∧ fr 7 = .int .i64 i ∧ firstI chgErr ch = firstI chgErr (ch.drop i) ∧ ∃ g, h' = h ++ g) 0 (by omega) ⟨by simp [e1], by simp, by simp, g, by simp⟩ ?_
    clear e0 e1 e5 hf hi hge
    rintro i fr h' hi ⟨e1, e7, hf, g, rfl⟩
    rcases Nat.lt_or_ge i ch.length with hlt | hge
    · obtain ⟨x, hg, hg'⟩ := get_lt hlt
      rw [drop_get hg, firstI] at hf
      have ew := wrap_succ' (i := i) (by omega)
      simp [e1, e7, hlt, hg, hg', ew]
      refine callS.pure _ (fun _ => ref25_amount x.cents) ?_
      simp [e1, e7, hlt, hg, hg', ew]
      refine ⟨fun q => ?_, fun q => ?_⟩
      · have hE : chgErr x = 13 := by rw [chgErr, if_pos q]
        rw [hE] at hf; rw [ht, hf]; simp
      refine callS.pure _ (fun _ => ref04_IsTime x.time) ?_
      simp [e1, e7, hlt, hg, hg', ew]
      refine callS.pure _ (fun _ => ref04_Day x.time) ?_
      simp [e1, e7, hlt, hg, hg', ew]
      refine callS.pure _ (fun _ => ref04_IsDay (dayI x.time)) ?_
      simp [e1, e7, hlt, hg, hg', ew]
      refine ⟨fun r => ?_, fun r1 r2 => ⟨i + 1, by omega, by omega, by omega, ?_⟩⟩
      · have hE : chgErr x = 12 := by rw [chgErr, if_neg (by simp [q]), if_pos r]
        rw [hE] at hf; rw [ht, hf]; simp
      · have hE : chgErr x = 0 := by rw [chgErr, if_neg (by simp [q]), if_neg (by simp [r1, r2])]
        rw [hE] at hf; simpa using hf
    · rw [List.drop_eq_nil_of_le hge, firstI] at hf
      simp [e1, e7, Nat.not_lt.2 hge, ht, hf]
theorem law_fits (l : List TChg) : ACalls Tryd.prog gl 16 [.ro (l.map encChg)] h fun v h' => v = .bool (fitsC l) ∧ h' = h := by
  refine ACalls.data (.bool _) (ACalls.body Tryd.f16 _ mixed Tryd.func16 rfl rfl (by simp [Tryd.ntmps16]) ?_)
  simp
  refine ⟨fun hgt => by simp [fitsC]; omega, fun hle => ?_⟩
  have hF : fitsC l = l.all fun x => amountB x.cents := by rw [fitsC, decide_eq_true (by omega), Bool.true_and]
  rw [hF]
  refine AWP.up mixed l.length (fun i fr h' => fr 0 = .ro (l.map encChg) ∧ fr 3 = .int .i64 i ∧ ((l.all fun x => amountB x.cents) = (l.drop i).all fun x => amountB x.cents) ∧ ∃ g, h' = h ++ g) 0 (by omega) ⟨by simp, by simp, by simp, [], by simp⟩ ?_
  rintro i fr h' hi ⟨e0, e3, hf, g, rfl⟩
  rcases Nat.lt_or_ge i l.length with hlt | hge
  · obtain ⟨x, hg, hg'⟩ := get_lt hlt
    rw [drop_get hg, List.all_cons] at hf
    have ew := wrap_succ' (i := i) (by omega)
    simp [e0, e3, hlt, hg, hg', ew]
    refine ⟨fun r => ⟨x, List.mem_of_getElem? hg, by rw [Bool.eq_false_iff]; intro hh; simp [amountB] at hh; omega⟩, fun r1 r2 => ⟨i + 1, by omega, by omega, by omega, ?_⟩⟩
    rw [hf, show amountB x.cents = true by simp [amountB, r1, r2], Bool.true_and]
  · rw [List.drop_eq_nil_of_le hge, List.all_nil] at hf
    simp [e0, e3, hf, Nat.not_lt.2 hge]
theorem ref25_SameInts (a b : List Int) (ha : a.length ≤ 2000) : ACalls Tryd.prog gl 21 [.ro (a.map encN), .ro (b.map encN)] h fun v h' => v = .bool (decide (a = b)) ∧ h' = h := by
  refine ACalls.data (.bool _) (ACalls.body Tryd.f21 _ mixed Tryd.func21 rfl rfl (by simp [Tryd.ntmps21]) ?_)
  simp
  refine ⟨fun hne => fun e => hne (by rw [e]), fun hl => ?_⟩
  refine AWP.up mixed a.length (fun i fr h' => fr 0 = .ro (a.map encN) ∧ fr 1 = .ro (b.map encN) ∧ fr 5 = .int .i64 i ∧ (a = b ↔ a.drop i = b.drop i) ∧ ∃ g, h' = h ++ g) 0 (by omega) ⟨by simp, by simp, by simp, by simp, [], by simp⟩ ?_
  rintro i fr h' hi ⟨e0, e1, e5, hf, g, rfl⟩
  rcases Nat.lt_or_ge i a.length with hlt | hge
  · obtain ⟨x, hg, hg'⟩ := get_lt hlt
    obtain ⟨y, hy, hy'⟩ := get_lt (l := b) (i := i) (by omega)
    rw [drop_get hg, drop_get hy] at hf
    have ew := wrap_succ' (i := i) (by omega)
    simp [e0, e1, e5, hlt, hg, hg', hy, hy', ew, ← hl]
    refine ⟨by decide, by omega, fun hne e => hne (List.cons.inj (hf.1 e)).1, fun he => ⟨i + 1, by omega, by omega, by omega, ?_⟩⟩
    subst he
    rw [hf]
    exact ⟨fun e => (List.cons.inj e).2, fun e => by rw [e]⟩
  · rw [List.drop_eq_nil_of_le hge, List.drop_eq_nil_of_le (by omega)] at hf
    simp [e0, e1, e5, hf, Nat.not_lt.2 hge]
theorem ref25_first (l : List TChg) (i k : Nat) (x y : TChg) (hx : l[i]? = some x) (hy : l[k]? = some y) : ACalls Tryd.prog gl 51 [.ro (l.map encChg), .int .i64 i, .int .i64 k] h fun v h' => v = .bool (firstB x y i k) ∧ h' = h := by
  refine ACalls.data (.bool _) (ACalls.body Tryd.f51 _ mixed Tryd.func51 rfl rfl (by simp [Tryd.ntmps51]) ?_)
  obtain ⟨h1, h2⟩ := List.getElem?_eq_some_iff.1 hx
  obtain ⟨h3, h4⟩ := List.getElem?_eq_some_iff.1 hy
  simp [hx, hy, h1, h2, h3, h4]
  exact ⟨by decide, fun a => ⟨by decide, by rw [firstB, if_pos a]⟩, fun a => ⟨by decide, fun b => ⟨by decide, by rw [firstB, if_neg (by simp [a]), if_pos b]⟩, fun b => by rw [firstB, if_neg (by simp [a]), if_neg (by simp [b])]⟩⟩
end Go.Proofs.YtillfoacekifbaaDoor
