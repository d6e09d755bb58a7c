/-
  Contracts: tables of costs: the other telling.
-/
import Derived.Test.YtmnmbkcdjpidgaaMatrix
set_option linter.unusedVariables false
set_option linter.unusedSimpArgs false
set_option maxRecDepth 100000
namespace Go.Proofs.Ytmnmbkcdjpidgaa
open Go Go.Abs Go.Toll
variable {gl : Globs} {h : AHeap}

theorem ref15_sameInts (a b : List Int) (ha : a.length ≤ 2000) : ACalls Try.prog gl 40 [.ro (a.map encI), .ro (b.map encI)] h fun v h' => v = .bool (decide (a = b)) ∧ h' = h := by
  refine ACalls.data (.bool _) (ACalls.body Try.f40 _ mixed Try.func40 rfl rfl (by simp [Try.ntmps40]) ?_)
  simp
  refine ⟨fun hne => fun e => hne (by rw [e]), fun hl => ?_⟩
  refine AWP.up mixed a.length (fun i fr h' => fr 0 = .ro (a.map encI) ∧ fr 1 = .ro (b.map encI) ∧ fr 5 = .int .i64 i ∧ (a = b ↔ a.drop i = b.drop i) ∧ ∃ g, h' = h ++ g) 0 (by omega) ⟨by simp, by simp, by simp, by simp, [], by simp⟩ ?_
  rintro i fr h' hi ⟨e0, e1, e5, hf, g, rfl⟩
  rcases Nat.lt_or_ge i a.length with hlt | hge
  · obtain ⟨x, hg, hg'⟩ := get_lt hlt
    obtain ⟨y, hy, hy'⟩ := get_lt (l := b) (i := i) (by omega)
    rw [drop_get hg, drop_get hy] at hf
    have ew := wrap_succ' (i := i) (by omega)
    simp [e0, e1, e5, hlt, hg, hg', hy, hy', ew, ← hl]
    refine ⟨by decide, by omega, fun hne e => hne (List.cons.inj (hf.1 e)).1, fun he => ⟨i + 1, by omega, by omega, by omega, ?_⟩⟩
    subst he
    rw [hf]
    exact ⟨fun e => (List.cons.inj e).2, fun e => by rw [e]⟩
  · rw [List.drop_eq_nil_of_le hge, List.drop_eq_nil_of_le (by omega)] at hf
    simp [e0, e1, e5, hf, Nat.not_lt.2 hge]
theorem ref15_same (n : Nat) (v : Int) (hn : n ≤ 1000000) : ACalls Try.prog gl 43 [.int .i64 n, .int .i64 v] h fun x h' => x = .ro (List.replicate n [.int .i64 v]) ∧ h' = h := by
  refine ACalls.fresh (ACalls.body Try.f43 _ mixed Try.func43 rfl rfl (by simp [Try.ntmps43]) ?_)
  simp
  refine AWP.up mixed n (fun k fr h' => fr 0 = .int .i64 n ∧ fr 1 = .int .i64 v ∧ fr 6 = .int .i64 k ∧ Ls 1 h.length h' (fr 5) (List.replicate k [.int .i64 v]) ∧ ∃ g, h' = h ++ g) 0 (by omega)
    ⟨by simp, by simp, by simp, by simp; exact Ls.nil, [], by simp⟩ ?_
  rintro k fr h' hk ⟨e0, e1, e6, hLs, g, rfl⟩
  obtain ⟨x, e5⟩ : ∃ x, fr 5 = x := ⟨_, rfl⟩
  rw [e5] at hLs
  have hf := hLs.rs.fix
  rcases Nat.lt_or_ge k n with hlt | hge
  · have ew := wrap_succ' (i := k) (by omega)
    simp [-appendOk, -appendK, e0, e1, e6, e5, hlt, hf]
    refine append_ls (lo := h.length) (n := 1) (es := List.replicate k [.int .i64 v]) (ys := [[.int .i64 v]]) (by simpa using hLs.more [.cells 1 [[.int .i64 v]]]) (by simp) (by simp [appOk]) (by simp; omega) ?_
    intro s' h'' hs' hgr
    obtain ⟨g3, rfl⟩ := hgr.base h (by simp) ⟨_, by simp; rfl⟩
    simp [e0, e1, e6, ew, hs'.core, hs'.gd]
    exact ⟨k + 1, by omega, by omega, by omega, by rw [List.replicate_succ']; exact hs'⟩
  obtain rfl : k = n := by omega
  simp [e0, e1, e6, e5, hf]
  exact hLs.frz (by omega) (by simp)
theorem ref15_least (a b : List TSeen) (hal : a.length ≤ 1000) (hbl : b.length ≤ 1000) (ham : ∀ s ∈ a, mid s.time) (hbm : ∀ s ∈ b, mid s.time) :
    ACalls Try.prog gl 44 [.ro (a.map encSeen), .ro (b.map encSeen)] h fun v h' => v = .int .i64 (crossI a b) ∧ h' = h := by
  refine ACalls.data (.int _ _) (ACalls.body Try.f44 _ mixed Try.func44 rfl rfl (by simp [Try.ntmps44]) ?_)
  simp
  refine AWP.up mixed a.length (fun j fr h' => fr 0 = .ro (a.map encSeen) ∧ fr 1 = .ro (b.map encSeen) ∧ fr 6 = .int .i64 j ∧ (∃ c, fr 5 = .int .i64 c ∧ crossI a b = crossF c (a.drop j) b) ∧ ∃ g, h' = h ++ g) 0 (by omega)
    ⟨by simp, by simp, by simp, ⟨-1, by simp, by simp [crossI]⟩, [], by simp⟩ ?_
  rintro j fr h' hj ⟨e0, e1, e6, ⟨c, e5, hc⟩, g, rfl⟩
  rcases Nat.lt_or_ge j a.length with hlt | hge
  · obtain ⟨s, hs, hs'⟩ := get_lt hlt
    rw [drop_get hs, crossF] at hc
    have ew := wrap_succ' (i := j) (by omega)
    simp [e0, e1, e5, e6, hlt, ew]
    refine AWP.up mixed b.length (fun r fr h' => fr 0 = .ro (a.map encSeen) ∧ fr 1 = .ro (b.map encSeen) ∧ fr 6 = .int .i64 j ∧ fr 7 = .int .i64 r ∧ (∃ d, fr 5 = .int .i64 d ∧ rowF c s b = rowF d s (b.drop r)) ∧ ∃ g2, h' = h ++ g2) 0 (by omega)
      ⟨by simp [e0], by simp [e1], by simp [e6], by simp, ⟨c, by simp [e5], by simp⟩, g, by simp⟩ ?_
    clear e0 e1 e5 e6
    rintro r fr h' hr ⟨e0, e1, e6, e7, ⟨d, e5, hd⟩, g2, rfl⟩
    rcases Nat.lt_or_ge r b.length with hltr | hger
    · obtain ⟨t, ht, ht'⟩ := get_lt hltr
      rw [drop_get ht, rowF] at hd
      have ewr := wrap_succ' (i := r) (by omega)
      simp [e0, e1, e5, e6, e7, hlt, hs, hs', hltr, ht, ht', ewr]
      refine ⟨by decide, ?_⟩
      refine callS.pure _ (fun _ => ref15_Pair s t (ham s (List.mem_of_getElem? hs)) (hbm t (List.mem_of_getElem? ht))) ?_
      simp [e0, e1, e5, e6, e7, hlt, hs, hs', hltr, ht, ht', ewr]
      refine ⟨fun c1 => ⟨c1, fun c2 => ⟨c1, c2⟩⟩, fun c1 c2 => ⟨r + 1, by omega, by omega, by omega, ?_⟩, fun c1 => ⟨r + 1, by omega, by omega, by omega, ?_⟩⟩
      · rw [hd, stepI, if_pos ⟨c1, c2⟩]
      · rw [hd, stepI, if_neg (fun c2 => by have := c1 c2.1; omega)]
    · rw [List.drop_eq_nil_of_le hger, rowF] at hd
      simp [e0, e1, e5, e6, e7, Nat.not_lt.2 hger, ew]
      exact ⟨j + 1, by omega, by omega, by omega, by rw [hc, hd]⟩
  · rw [List.drop_eq_nil_of_le hge, crossF] at hc
    simp [e0, e1, e5, e6, Nat.not_lt.2 hge, hc]
theorem ref15_SameMatrix (A B : List (List Int)) (r c r' c' : List Int) (hA : A.length ≤ 2000) (hAl : ∀ w ∈ A, w.length ≤ 2000) (hr : r.length ≤ 2000) (hc : c.length ≤ 2000) :
    ACalls Try.prog gl 20 [.agg (encMat A r c), .agg (encMat B r' c')] h fun v h' => v = .bool (decide (r = r') && decide (c = c') && decide (A = B)) ∧ h' = h := by
  refine ACalls.data (.bool _) (ACalls.body Try.f20 _ mixed Try.func20 rfl rfl (by simp [Try.ntmps20]) ?_)
  have e1 : ∀ l : List Int, (l.map fun n => [AV.int .i64 n]) = l.map encI := fun _ => rfl
  simp [encMat, e1]
  refine callS.pure _ (fun _ => ref15_sameInts r r' hr) ?_
  simp [e1]
  refine callS.pure _ (fun _ => ref15_sameInts c c' hc) ?_
  simp [e1]
  refine ⟨fun q q1 q2 q3 => ?_, fun q1 q2 q3 => ?_⟩
  · rcases q with (q | q) | q
    · exact q q1
    · exact q q2
    · rw [q3] at q; exact q rfl
  have q3 : A.length = B.length := by omega
  refine AWP.up mixed A.length (fun i fr h' => fr 2 = .ptr h.length 0 0 ∧ fr 3 = .ptr (h.length + 1) 0 0 ∧ fr 5 = .int .i64 i ∧ (A = B ↔ A.drop i = B.drop i) ∧ ∃ g, h' = h ++ .cells 3 [encMat A r c] :: .cells 3 [encMat B r' c'] :: g) 0 (by omega) ⟨by simp, by simp, by simp, by simp, [], by simp [encMat, e1]⟩ ?_
  rintro i fr h' hi ⟨e2, e3, e5, hf, g, rfl⟩
  rcases Nat.lt_or_ge i A.length with hlt | hge
  · obtain ⟨x, hg, hg'⟩ := get_lt hlt
    obtain ⟨y, hy, hy'⟩ := get_lt (l := B) (i := i) (by omega)
    have hltB : i < B.length := by omega
    rw [drop_get hg, drop_get hy] at hf
    have ew := wrap_succ' (i := i) (by omega)
    simp [e2, e3, e5, encMat, e1, hlt, hltB, hg, hg', hy, hy', ew]
    refine ⟨by decide, ?_⟩
    refine callS.pure _ (fun _ => ref15_sameInts x y (hAl x (List.mem_of_getElem? hg))) ?_
    simp [e2, e3, e5, encMat, e1, hlt, hltB, hg, hg', hy, hy', ew, q1, q2]
    refine ⟨fun hne e => hne (List.cons.inj (hf.1 e)).1, fun he => ⟨i + 1, by omega, by omega, by omega, ?_⟩⟩
    subst he
    rw [hf]
    exact ⟨fun e => (List.cons.inj e).2, fun e => by rw [e]⟩
  · rw [List.drop_eq_nil_of_le hge, List.drop_eq_nil_of_le (by omega)] at hf
    simp [e2, e3, e5, encMat, e1, hf, Nat.not_lt.2 hge, q1, q2]
theorem law_great (l : List TSeen) : ACalls Try.prog gl 16 [.ro (l.map encSeen)] h fun v h' => v = .bool (greatB l) ∧ h' = h := by
  refine ACalls.data (.bool _) (ACalls.body Try.f16 _ mixed Try.func16 rfl rfl (by simp [Try.ntmps16]) ?_)
  simp
  refine ⟨fun q => by simp [greatB]; omega, fun q => ?_⟩
  have hg0 : greatB l = l.any spoilB := by
    have : decide (30 < l.length) = false := by simp; omega
    rw [greatB, this, Bool.false_or]
  rw [hg0]
  refine AWP.up mixed l.length (fun i fr h' => fr 8 = .ro (l.map encSeen) ∧ fr 9 = .int .i64 l.length ∧ fr 10 = .int .i64 i ∧ l.any spoilB = (l.drop i).any spoilB ∧ ∃ g, h' = h ++ g) 0 (by omega) ⟨by simp, by simp, by simp, by simp, [], by simp⟩ ?_
  rintro i fr h' hi ⟨e8, e9, e10, hf, g, rfl⟩
  rcases Nat.lt_or_ge i l.length with hlt | hge
  · obtain ⟨s, hs, hs'⟩ := get_lt hlt
    rw [drop_get hs, List.any_cons] at hf
    have ew := wrap_succ' (i := i) (by omega)
    simp [e8, e9, e10, hlt, hs, hs', ew]
    refine callS.pure _ (fun _ => law_isTime s.time) ?_
    simp [e8, e9, e10, hlt, hs, hs', ew]
    have hsp : spoilB s = (!isTimeB s.time || decide (40 < s.plate.length)) := rfl
    refine ⟨fun c => ⟨s, List.mem_of_getElem? hs, ?_⟩, fun c1 c2 => ⟨i + 1, by omega, by omega, by omega, ?_⟩⟩
    · rw [hsp]
      rcases c with c | c
      · rw [c]; rfl
      · rw [decide_eq_true (by omega)]; simp
    · rw [hf, hsp, c1, decide_eq_false (by omega)]; rfl
  · rw [List.drop_eq_nil_of_le hge] at hf
    simp [e8, e9, e10, Nat.not_lt.2 hge, hf]
end Go.Proofs.Ytmnmbkcdjpidgaa
