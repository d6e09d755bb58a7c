/-
  Contracts: fields, amounts, the first error of an entry.
-/
import Derived.Test.YtmdenljmfeejfaaTab
import Derived.Test.YtmdenljmfeejfaaTollLedger
set_option linter.unusedVariables false
set_option linter.unusedSimpArgs false
set_option maxRecDepth 100000
namespace Go.Proofs.Ytmdenljmfeejfaa
open Go Go.Abs Go.Toll
variable {gl : Globs} {h : AHeap}

theorem ledger_field (s : Bytes) (hs : s.length ≤ 1000000) : ACalls Try.prog gl 32 [.str s] h fun v h' => v = .bool (fieldB s) ∧ h' = h := by
  refine ACalls.data (.bool _) (ACalls.body Try.f32 _ mixed Try.func32 rfl rfl (by simp [Try.ntmps32]) ?_)
  simp
  refine AWP.up mixed s.length (fun i fr h' => fr 0 = .str s ∧ fr 5 = .int .i64 s.length ∧ fr 6 = .int .i64 i ∧ h' = h ∧ fieldB s = ((s.drop i).all charB && !s.isEmpty)) 0 (by omega) ⟨by simp, by simp, by simp, by simp, by simp [fieldB]⟩ ?_
  rintro i fr h' hi ⟨e0, e5, e6, rfl, hf⟩
  rcases Nat.lt_or_ge i s.length with hlt | hge
  · obtain ⟨c, hg, hg'⟩ := get_lt hlt
    rw [drop_get hg, List.all_cons] at hf
    have ew := wrap_succ' (i := i) (by omega)
    simp [e0, e5, e6, hlt, hg, hg', ew]
    have key : charB c = (decide (33 ≤ c.toNat) && decide (c.toNat ≤ 126)) := rfl
    generalize charB c = b at *
    generalize c.toNat = m at *
    refine ⟨fun q => ?_, fun q1 q2 => ⟨i + 1, by omega, by omega, by omega, ?_⟩⟩
    · have : b = false := by rw [key, Bool.and_eq_false_iff, decide_eq_false_iff_not, decide_eq_false_iff_not]; omega
      rw [hf, this]; rfl
    · have : b = true := by rw [key, Bool.and_eq_true, decide_eq_true_eq, decide_eq_true_eq]; omega
      rw [hf, this, Bool.true_and]
  · rw [List.drop_eq_nil_of_le hge] at hf
    simp [e0, e5, e6, Nat.not_lt.2 hge, hf]
theorem ref32_Field (s : Bytes) (hs : s.length ≤ 1000000) : ACalls Try.prog gl 34 [.str s] h fun v h' => v = .bool (fieldB s) ∧ h' = h := by
  refine ACalls.data (.bool _) (ACalls.body Try.f34 _ mixed Try.func34 rfl rfl (by simp [Try.ntmps34]) ?_)
  simp
  refine AWP.up mixed s.length (fun i fr h' => fr 0 = .str s ∧ fr 3 = .int .i64 i ∧ h' = h ∧ fieldB s = ((s.drop i).all charB && !s.isEmpty)) 0 (by omega) ⟨by simp, by simp, by simp, by simp [fieldB]⟩ ?_
  rintro i fr h' hi ⟨e0, e3, rfl, hf⟩
  rcases Nat.lt_or_ge i s.length with hlt | hge
  · obtain ⟨c, hg, hg'⟩ := get_lt hlt
    rw [drop_get hg, List.all_cons] at hf
    have ew := wrap_succ' (i := i) (by omega)
    simp [e0, e3, hlt, hg, hg', ew]
    have key : charB c = (decide (33 ≤ c.toNat) && decide (c.toNat ≤ 126)) := rfl
    generalize charB c = b at *
    generalize c.toNat = m at *
    refine ⟨fun q => ?_, fun q1 q2 => ⟨i + 1, by omega, by omega, by omega, ?_⟩⟩
    · have : b = false := by rw [key, Bool.and_eq_false_iff, decide_eq_false_iff_not, decide_eq_false_iff_not]; omega
      rw [hf, this]; rfl
    · have : b = true := by rw [key, Bool.and_eq_true, decide_eq_true_eq, decide_eq_true_eq]; omega
      rw [hf, this, Bool.true_and]
  · rw [List.drop_eq_nil_of_le hge] at hf
    simp [e0, e3, Nat.not_lt.2 hge, hf]
theorem money_Fits (n : Int) : ACalls Try.prog gl 33 [.int .i64 n] h fun v h' => v = .bool (fitsB n) ∧ h' = h := by
  refine ACalls.data (.bool _) (ACalls.body Try.f33 _ mixed Try.func33 rfl rfl (by simp [Try.ntmps33]) ?_)
  simp [fitsB]
theorem ref32_fits (n : Int) : ACalls Try.prog gl 35 [.int .i64 n] h fun v h' => v = .bool (fitsB n) ∧ h' = h := by
  refine ACalls.data (.bool _) (ACalls.body Try.f35 _ mixed Try.func35 rfl rfl (by simp [Try.ntmps35]) ?_)
  simp [fitsB]

theorem ledger_Check (e : TEn) (hs : e.okS) : ACalls Try.prog gl 11 [.agg (encEn e)] h fun v h' => v = .int .i64 (enErr e) ∧ h' = h := by
  refine ACalls.data (.int _ _) (ACalls.body Try.f11 _ mixed Try.func11 rfl rfl (by simp [Try.ntmps11]) ?_)
  simp
  refine callS.pure _ (fun _ => ledger_field e.key hs.1) ?_
  simp
  refine ⟨fun q => by rw [enErr, if_pos q], fun q => ⟨fun q2 => ?_, fun q2 q3 => ⟨fun q4 => ?_, fun q4 => ⟨fun q5 => ?_, fun q5 => ?_⟩⟩⟩⟩
  · rw [enErr, if_neg (by simp [q]), if_pos q2]
  · rw [enErr, if_neg (by simp [q]), if_neg (by omega), if_pos (by simp [q4])]
  · rw [enErr, if_neg (by simp [q]), if_neg (by omega), if_neg (by simp [q4]), if_pos (by omega)]
  have hE : enErr e = postsErr 0 e.posts := by rw [enErr, if_neg (by simp [q]), if_neg (by omega), if_neg (by simp [q4]), if_neg (by omega)]
  have hl : e.posts.length ≤ 1024 := by omega
  rw [hE]
  refine AWP.up mixed e.posts.length (fun i fr h' => fr 31 = .ro (e.posts.map encPo) ∧ fr 32 = .int .i64 e.posts.length ∧ fr 33 = .int .i64 i ∧ (∃ s : Int, fr 3 = .int .i64 s ∧ -(i : Int) * 1125899906842624 ≤ s ∧ s ≤ (i : Int) * 1125899906842624 ∧ postsErr 0 e.posts = postsErr s (e.posts.drop i)) ∧ ∃ g, h' = h ++ g) 0 (by omega)
    ⟨by simp, by simp, by simp, ⟨0, by simp, by simp, by simp, by simp⟩, _, rfl⟩ ?_
  rintro i fr h' hi ⟨e31, e32, e33, ⟨s, e3, hs1, hs2, hf⟩, g, rfl⟩
  rcases Nat.lt_or_ge i e.posts.length with hlt | hge
  · obtain ⟨p, hp, hp'⟩ := get_lt hlt
    rw [drop_get hp, postsErr] at hf
    have ew := wrap_succ' (i := i) (by omega)
    simp [e31, e32, e33, e3, hlt, hp, hp', ew]
    refine callS.pure _ (fun _ => ledger_field p.account (hs.2 p (List.mem_of_getElem? hp))) ?_
    simp [e31, e32, e33, e3, hlt, hp, hp', ew]
    refine ⟨fun r => by rw [hf, if_pos r], fun r => ⟨fun r2 => by rw [hf, if_neg (by simp [r]), if_pos r2], fun r2 => ?_⟩⟩
    refine callS.pure _ (fun _ => money_Fits p.cents) ?_
    simp [e31, e32, e33, e3, hlt, hp, hp', ew]
    refine ⟨fun r3 => by rw [hf, if_neg (by simp [r]), if_neg r2, if_pos r3], fun r3 => ?_⟩
    have hc := fits_range r3
    have w1 : IntKind.i64.wrap (s + p.cents) = s + p.cents := wrap64_of (by omega) (by omega)
    refine ⟨i + 1, by omega, by omega, by omega, ?_, ?_, ?_⟩
    · rw [w1]; push_cast; omega
    · rw [w1]; push_cast; omega
    · rw [w1, hf, if_neg (by simp [r]), if_neg r2, if_neg (by simp [r3])]
  · rw [List.drop_eq_nil_of_le hge, postsErr] at hf
    simp [e31, e32, e33, e3, Nat.not_lt.2 hge]
    refine ⟨fun r => by rw [hf, if_neg r], fun r => by rw [hf, if_pos r]⟩
theorem ref32_Check (e : TEn) (hs : e.okS) : ACalls Try.prog gl 12 [.agg (encEn e)] h fun v h' => v = .int .i64 (enErr e) ∧ h' = h := by
  refine ACalls.data (.int _ _) (ACalls.body Try.f12 _ mixed Try.func12 rfl rfl (by simp [Try.ntmps12]) ?_)
  simp
  refine callS.pure _ (fun _ => ref32_Field e.key hs.1) ?_
  simp
  refine ⟨fun q => by rw [enErr, if_pos q], fun q => ⟨fun q2 => ?_, fun q2 q3 => ⟨fun q4 => ?_, fun q4 => ⟨fun q5 => ?_, fun q5 => ?_⟩⟩⟩⟩
  · rw [enErr, if_neg (by simp [q]), if_pos q2]
  · rw [enErr, if_neg (by simp [q]), if_neg (by omega), if_pos (by simp [q4])]
  · rw [enErr, if_neg (by simp [q]), if_neg (by omega), if_neg (by simp [q4]), if_pos (by omega)]
  have hE : enErr e = postsErr 0 e.posts := by rw [enErr, if_neg (by simp [q]), if_neg (by omega), if_neg (by simp [q4]), if_neg (by omega)]
  have hl : e.posts.length ≤ 1024 := by omega
  rw [hE]
  refine AWP.up mixed e.posts.length (fun i fr h' => fr 1 = .ptr h.length 0 0 ∧ fr 4 = .int .i64 i ∧ (∃ s : Int, fr 3 = .int .i64 s ∧ -(i : Int) * 1125899906842624 ≤ s ∧ s ≤ (i : Int) * 1125899906842624 ∧ postsErr 0 e.posts = postsErr s (e.posts.drop i)) ∧ ∃ g, h' = h ++ .cells 3 [encEn e] :: g) 0 (by omega)
    ⟨by simp, by simp, ⟨0, by simp, by simp, by simp, by simp⟩, _, rfl⟩ ?_
  rintro i fr h' hi ⟨e1, e4, ⟨s, e3, hs1, hs2, hf⟩, g, rfl⟩
  rcases Nat.lt_or_ge i e.posts.length with hlt | hge
  · obtain ⟨p, hp, hp'⟩ := get_lt hlt
    rw [drop_get hp, postsErr] at hf
    have ew := wrap_succ' (i := i) (by omega)
    simp [e1, e4, e3, hlt, hp, hp', ew]
    refine callS.pure _ (fun _ => ref32_Field p.account (hs.2 p (List.mem_of_getElem? hp))) ?_
    simp [e1, e4, e3, hlt, hp, hp', ew]
    refine ⟨fun r => by rw [hf, if_pos r], fun r => ⟨fun r2 => by rw [hf, if_neg (by simp [r]), if_pos r2], fun r2 => ?_⟩⟩
    refine callS.pure _ (fun _ => ref32_fits p.cents) ?_
    simp [e1, e4, e3, hlt, hp, hp', ew]
    refine ⟨fun r3 => by rw [hf, if_neg (by simp [r]), if_neg r2, if_pos r3], fun r3 => ?_⟩
    have hc := fits_range r3
    have w1 : IntKind.i64.wrap (s + p.cents) = s + p.cents := wrap64_of (by omega) (by omega)
    refine ⟨i + 1, by omega, by omega, by omega, ?_, ?_, ?_⟩
    · rw [w1]; push_cast; omega
    · rw [w1]; push_cast; omega
    · rw [w1, hf, if_neg (by simp [r]), if_neg r2, if_neg (by simp [r3])]
  · rw [List.drop_eq_nil_of_le hge, postsErr] at hf
    simp [e1, e4, e3, Nat.not_lt.2 hge]
    refine ⟨fun r => by rw [hf, if_neg r], fun r => by rw [hf, if_pos r]⟩
theorem law32_small (e : TEn) : ACalls Try.prog gl 10 [.agg (encEn e)] h fun v h' => v = .bool (small2 e) ∧ h' = h := by
  refine ACalls.data (.bool _) (ACalls.body Try.f10 _ mixed Try.func10 rfl rfl (by simp [Try.ntmps10]) ?_)
  simp
  refine ⟨fun q => ?_, fun q1 q2 => ?_⟩
  · simp [small2]; omega
  have hE : small2 e = e.posts.all fun p => decide (p.account.length ≤ 100) := by
    rw [small2, decide_eq_true (by omega), decide_eq_true (by omega)]; rfl
  rw [hE]
  refine AWP.up mixed e.posts.length (fun i fr h' => fr 1 = .ptr h.length 0 0 ∧ fr 3 = .int .i64 i ∧ (e.posts.all fun p => decide (p.account.length ≤ 100)) = ((e.posts.drop i).all fun p => decide (p.account.length ≤ 100)) ∧ h' = h ++ [.cells 3 [encEn e]]) 0 (by omega)
    ⟨by simp, by simp, by simp, by simp⟩ ?_
  rintro i fr h' hi ⟨e1, e3, hf, rfl⟩
  rcases Nat.lt_or_ge i e.posts.length with hlt | hge
  · obtain ⟨p, hp, hp'⟩ := get_lt hlt
    rw [drop_get hp, List.all_cons] at hf
    have ew := wrap_succ' (i := i) (by omega)
    by_cases r : p.account.length ≤ 100
    · rw [decide_eq_true r, Bool.true_and] at hf
      have r' : ¬ (100 : Int) < p.account.length := by omega
      rw [hf]
      simp [-List.all_eq_true, e1, e3, hlt, hp, hp', ew, r']
      exact ⟨i + 1, by omega, by omega, by omega, rfl⟩
    · rw [decide_eq_false r, Bool.false_and] at hf
      have r' : (100 : Int) < p.account.length := by omega
      rw [hf]
      simp [e1, e3, hlt, hp, hp', ew, r']
  · rw [List.drop_eq_nil_of_le hge] at hf
    rw [hf]
    simp [e1, e3, Nat.not_lt.2 hge]
end Go.Proofs.Ytmdenljmfeejfaa
