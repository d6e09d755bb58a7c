/-
  Contracts: the law of the order of entries.
-/
import Derived.Test.YtmdenljmfeejfaaLaw32
import Derived.Test.YtmdenljmfeejfaaTollLedgerShape
set_option linter.unusedVariables false
set_option linter.unusedSimpArgs false
set_option maxRecDepth 100000
namespace Go.Proofs.Ytmdenljmfeejfaa
open Go Go.Abs Go.Toll
variable {gl : Globs} {h : AHeap}

theorem poI_perm {a : Bytes} {l m : List TPo} (h : l.Perm m) : poI a l = poI a m := by
  induction h with
  | nil => rfl
  | cons x _ ih => rw [poI, poI, ih]
  | swap x y l => rw [poI, poI, poI, poI]; omega
  | trans _ _ i j => exact i.trans j
theorem postR_len (l : List TEn) (e : TEn) : (postR l e).1 = l ∨ (postR l e).1 = l ++ [e] := by
  unfold postR
  split
  · exact .inl rfl
  · split
    · exact .inl rfl
    · split
      · exact .inl rfl
      · exact .inr rfl
theorem pstF_len : ∀ (l o : List TEn), (pstF o l).length ≤ o.length + l.length ∧ ((pstF o l).length = o.length + l.length → pstF o l = o ++ l)
  | [], o => ⟨by simp [pstF], fun _ => by simp [pstF]⟩
  | e :: l, o => by
    rw [pstF]
    obtain ⟨i1, i2⟩ := pstF_len l (postR o e).1
    rcases postR_len o e with h | h
    · rw [h] at i1 ⊢
      refine ⟨by simp; omega, fun hh => ?_⟩
      simp at hh; omega
    · rw [h] at i1 i2 ⊢
      refine ⟨by simp at i1 ⊢; omega, fun hh => ?_⟩
      rw [i2 (by simp at hh ⊢; omega)]
      simp
theorem allP_turn (l : List TEn) : (allP l.reverse).Perm (allP l) := (List.reverse_perm l).flatMap_right _
set_option maxHeartbeats 2000000 in
theorem law_Order [GOk gl] (l : List TEn) : ACalls Try.prog gl 9 [.ro (l.map encEn)] h fun v h' => v = .bool true := by
  refine ACalls.mono (ACalls.data (.bool true) (ACalls.body Try.f9 _ mixed Try.func9 rfl rfl (by simp [Try.ntmps9]) ?_)) fun _ _ h => h.1
  simp
  refine callS.pure _ (fun _ => law32_build l) ?_
  simp
  intro c
  obtain ⟨c1, c2, c3⟩ := bldL_ok c
  obtain ⟨x, hx⟩ : ∃ x, x = pstF [] l := ⟨_, rfl⟩
  have hk : okB x 40 := by rw [hx]; exact (pstF_okB l [] 0 okB.nil c2).mono (by omega)
  have hkl := hk.okl (by omega)
  have hxl := hk.len
  refine callS.pure _ (fun _ => law32_post l (by omega) c2) ?_
  rw [← hx]
  have hw0 : IntKind.i64.wrap ((x.length : Int) - 1) = (x.length : Int) - 1 := wrap64_of (by omega) (by omega)
  simp [hw0]
  refine AWP.down mixed (fun k fr h' => k ≤ x.length ∧ fr 5 = .ptr (h.length + 1) 0 0 ∧ fr 7 = .int .i64 ((k : Int) - 1) ∧ ∃ s c g, fr 6 = s ∧ h' = h ++ c :: .cells 1 [encLg x] :: g ∧ Ls 3 (h.length + 2) h' s ((x.drop k).reverse.map encEn)) x.length
    ⟨by omega, by simp, by simp, .nil, _, [], by simp, by simp; rfl, by simp; exact Ls.nil⟩ ?_
  rintro k fr h' ⟨hkx, e5, e7, s, c0, g, e6, rfl, hL⟩
  have hsf := hL.rs.fix
  match k, hkx, e7, hL with
  | k + 1, hkx, e7, hL =>
    obtain ⟨e, he, he'⟩ := get_lt (l := x) (i := k) (by omega)
    have e7 : fr 7 = .int .i64 (k : Int) := by rw [e7]; congr 1; omega
    have hltk : k < x.length := by omega
    have hwk : IntKind.i64.wrap ((k : Int) - 1) = (k : Int) - 1 := wrap64_of (by omega) (by omega)
    simp [-appendOk, -appendK, e5, e6, e7, hsf, he, he', hltk, hwk]
    refine append_ls (lo := h.length + 2) (n := 3) (es := (x.drop (k + 1)).reverse.map encEn) (ys := [encEn e]) (by simpa using hL.more [.cells 3 [encEn e]]) (by simp) (by simp [appOk]) (by simp; omega) ?_
    intro s1 h1 hs1 hg1
    have f1 := hs1.rs.fix
    obtain ⟨g1, rfl⟩ := hg1.base (h ++ [c0, .cells 1 [encLg x]]) (by simp) ⟨_, by simp; rfl⟩
    simp [-appendOk, -appendK, e5, e6, e7, f1, hwk]
    have hrv : (x.drop k).reverse.map encEn = (x.drop (k + 1)).reverse.map encEn ++ [encEn e] := by
      rw [drop_get he, List.reverse_cons, List.map_append]; rfl
    refine ⟨k, by omega, by omega, rfl, ?_⟩
    have hs1' := hs1
    rw [← hrv] at hs1'
    simpa using hs1'
  | 0, hkx, e7, hL =>
    simp [e5, e6, e7, hsf]
    rw [List.drop_zero] at hL
    obtain ⟨ks, hks, hfk⟩ := hL.lend
    have hsr : ∀ e ∈ x.reverse, small2 e = true := fun e he => (hk.each e (List.mem_reverse.1 he)).1
    refine callS.any (ACalls.lend ks (args' := [.ro (x.reverse.map encEn)]) (.cons hfk .nil) (law32_post x.reverse (by simp; omega) hsr)) ?_
    rintro v h' ⟨hv, hh⟩
    obtain ⟨g', hg'⟩ := killL_base ks (h ++ [c0, .cells 1 [encLg x]]) g (fun b hb => by have := (hks b hb).1; simp; omega)
    have hg2 : killL (h ++ c0 :: .cells 1 [[.ro (x.map encEn)]] :: g) ks = h ++ c0 :: .cells 1 [encLg x] :: g' := by simpa using hg'
    rw [hg2] at hh
    subst hv hh
    obtain ⟨y, hy⟩ : ∃ y, y = pstF [] x.reverse := ⟨_, rfl⟩
    have hky : okB y 40 := by rw [hy]; exact (pstF_okB x.reverse [] 0 okB.nil hsr).mono (by simp; omega)
    have hkyl := hky.okl (by omega)
    rw [← hy]
    simp [e5]
    intro hlen
    have hyx : y = x.reverse := by
      have := (pstF_len x.reverse []).2 (by rw [← hy]; simp; omega)
      rw [← hy] at this
      simpa using this
    refine callS.pure _ (fun _ => ledger_Accounts x hkl hk.texts) ?_
    simp
    obtain ⟨A, hA⟩ : ∃ A, A = accL (allP x) := ⟨_, rfl⟩
    have hAl : A.length ≤ 2000 := by rw [hA]; exact Nat.le_trans (accL_len _) (okL_posts hkl).1
    have hbal : ∀ a, balI y a = balI x a := fun a => by rw [hyx]; exact poI_perm (allP_turn x)
    have hacc : accL (allP y) = A := by
      rw [hA, hyx]
      exact accL_of_mem fun a => ((allP_turn x).map _).mem_iff
    rw [← hA]
    refine AWP.up mixed A.length (fun i fr h' => fr 5 = .ptr (h.length + 1) 0 0 ∧ fr 8 = .ptr (h.length + (g'.length + 2)) 0 0 ∧ fr 9 = .ro (A.map encT) ∧ fr 10 = .int .i64 i ∧ h' = h ++ c0 :: .cells 1 [encLg x] :: (g' ++ [.cells 1 [encLg y]])) 0 (by omega)
      ⟨by simp [e5], by simp, by simp, by simp, by simp⟩ ?_
    clear e5 e6 e7
    rintro i fr h' hi ⟨e5, e8, e9, e10, rfl⟩
    rcases Nat.lt_or_ge i A.length with hlt | hge
    · obtain ⟨a, ha, ha'⟩ := get_lt hlt
      have ew := wrap_succ' (i := i) (by omega)
      simp [e5, e8, e9, e10, hlt, ha, ha', encT]
      refine ⟨by decide, ?_⟩
      refine callS.pure _ (fun _ => ledger_Balance x a hkl) ?_
      simp [e5, e8, e9, e10, hlt, ha, ha', encT]
      refine callS.pure _ (fun _ => ledger_Balance y a hkyl) ?_
      simp [e5, e8, e9, e10, hlt, ha, ha', encT, hbal, ew]
      exact ⟨i + 1, by omega, by omega, by omega⟩
    · simp [e5, e8, e9, e10, Nat.not_lt.2 hge]
      refine callS.pure _ (fun _ => ledger_Accounts y hkyl hky.texts) ?_
      simp [hacc]
      refine callS.pure _ (fun _ => ref01_SameTexts A A (by omega)) ?_
      simp
      refine callS.pure _ (fun _ => law32_alive) ?_
      simp
end Go.Proofs.Ytmdenljmfeejfaa
