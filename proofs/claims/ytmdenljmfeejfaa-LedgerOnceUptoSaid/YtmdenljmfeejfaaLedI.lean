/-
  Contracts: ledgers that the laws build.
-/
import Derived.Test.YtmdenljmfeejfaaLedH
set_option linter.unusedVariables false
set_option linter.unusedSimpArgs false
set_option maxRecDepth 100000
namespace Go.Proofs.Ytmdenljmfeejfaa
open Go Go.Abs Go.Toll
variable {gl : Globs} {h : AHeap}

theorem rn_core {x : AV} {es : List (List AV)} (r : Rn x es) : x.core = x ∧ x.gd = true ∧ x.solid = true := by
  rcases r with rfl | ⟨rfl, _⟩ <;> exact ⟨rfl, rfl, rfl⟩
theorem rn_frz {x : AV} {l : List TEn} {n : Nat} (r : Rn x (l.map encEn)) : Frz n h x (.ro (l.map encEn)) := by
  rcases r with rfl | ⟨rfl, e⟩
  · exact .data _ (.ro _ (encEns_data _))
  · rw [e]; exact .nil
theorem ledger_Post' (x : AV) (l : List TEn) (e : TEn) (r : Rn x (l.map encEn)) {n : Nat} (hk : okB l n) (hn : n ≤ 49) (hs : small2 e = true) : ACalls Try.prog gl 15 [.agg [x], .agg (encEn e)] h fun v h' => v = .tup [.agg (encLg (postR l e).1), .int .i64 (postR l e).2] ∧ h' = h :=
  ACalls.lend [] (.cons (.agg' (.cons (r.lend []) .nil)) (.cons (.same _) .nil)) (ledger_Post l e (hk.push hn _ _) (small2_okS hs) (small2_all hs).1)
theorem ref32_Post' [GOk gl] (x : AV) (l : List TEn) (e : TEn) (r : Rn x (l.map encEn)) {n : Nat} (hk : okB l n) (hn : n ≤ 49) (hs : small2 e = true) : ACalls Try.prog gl 16 [.agg [x], .agg (encEn e)] h fun v h' => v = .tup [.agg (encLg (postR l e).1), .int .i64 (postR l e).2] ∧ h' = h :=
  ACalls.lend [] (.cons (.agg' (.cons (r.lend []) .nil)) (.cons (.same _) .nil)) (ref32_Post l e (hk.push hn _ _) (small2_okS hs) (small2_all hs).1)
theorem law32_build [GOk gl] (l : List TEn) : ACalls Try.prog gl 14 [.ro (l.map encEn)] h fun v h' => v = .tup [.agg (encLg (bldL l).1), .bool (bldL l).2] ∧ h' = h := by
  refine ACalls.fresh (ACalls.body Try.f14 _ mixed Try.func14 rfl rfl (by simp [Try.ntmps14]) ?_)
  simp
  refine ⟨fun c => ?_, fun c => ?_⟩
  · rw [bldL, if_pos (by omega)]
    exact .tup' (.cons (.agg' (.cons .nil .nil)) (.cons (.data _ (by simp)) .nil))
  rw [bldL, if_neg (by omega)]
  refine AWP.up mixed l.length (fun i fr h' => fr 0 = .ro (l.map encEn) ∧ fr 2 = .ptr h.length 0 0 ∧ fr 4 = .ptr (h.length + 1) 0 0 ∧ fr 5 = .int .i64 i ∧ ∃ x out, h' = h ++ [.cells 1 [[.nil]], .cells 1 [[x]]] ∧ Rn x (out.map encEn) ∧ okB out i ∧ bldF [] l = bldF out (l.drop i)) 0 (by omega)
    ⟨by simp, by simp, by simp, by simp, .nil, [], by simp, Rn.nil, okB.nil, by simp⟩ ?_
  rintro i fr h' hi ⟨e0, e2, e4, e5, x, out, rfl, hx, hk, hm⟩
  have hxc := rn_core hx
  rcases Nat.lt_or_ge i l.length with hlt | hge
  · obtain ⟨e, he, he'⟩ := get_lt hlt
    have ew := wrap_succ' (i := i) (by omega)
    rw [drop_get he, bldF] at hm
    simp [e0, e2, e4, e5, hlt, he, he', hxc]
    refine callS.pure _ (fun _ => law32_small e) ?_
    simp [e0, e2, e4, e5, hlt, he, he', hxc]
    refine ⟨fun q => ?_, fun q => ?_⟩
    · rw [hm, if_pos q]
      exact .tup' (.cons (.agg' (.cons (rn_frz hx) .nil)) (.cons (.data _ (by simp)) .nil))
    · rw [if_neg (by simp [q])] at hm
      refine ⟨by decide, ?_⟩
      refine callS.pure _ (fun _ => ref32_Post' x out e hx hk (by omega) q) ?_
      simp [e0, e2, e4, e5, hlt, he, he', hxc, ew]
      exact ⟨i + 1, by omega, by omega, by omega, _, Rn.ro _, hk.post q, hm⟩
  · rw [List.drop_eq_nil_of_le hge, bldF] at hm
    simp [e0, e2, e4, e5, Nat.not_lt.2 hge, hxc]
    rw [hm]
    exact .tup' (.cons (.agg' (.cons (rn_frz hx) .nil)) (.cons (.data _ (by simp)) .nil))
theorem law32_post (l : List TEn) (hl : l.length ≤ 41) (hs : ∀ e ∈ l, small2 e = true) : ACalls Try.prog gl 30 [.ro (l.map encEn)] h fun v h' => v = .agg (encLg (pstF [] l)) ∧ h' = h := by
  refine ACalls.fresh (ACalls.body Try.f30 _ mixed Try.func30 rfl rfl (by simp [Try.ntmps30]) ?_)
  simp
  refine AWP.up mixed l.length (fun i fr h' => fr 0 = .ro (l.map encEn) ∧ fr 2 = .ptr h.length 0 0 ∧ fr 3 = .ptr (h.length + 1) 0 0 ∧ fr 4 = .int .i64 i ∧ ∃ x out, h' = h ++ [.cells 1 [[.nil]], .cells 1 [[x]]] ∧ Rn x (out.map encEn) ∧ okB out i ∧ pstF [] l = pstF out (l.drop i)) 0 (by omega)
    ⟨by simp, by simp, by simp, by simp, .nil, [], by simp, Rn.nil, okB.nil, by simp⟩ ?_
  rintro i fr h' hi ⟨e0, e2, e3, e4, x, out, rfl, hx, hk, hm⟩
  have hxc := rn_core hx
  rcases Nat.lt_or_ge i l.length with hlt | hge
  · obtain ⟨e, he, he'⟩ := get_lt hlt
    have q := hs e (List.mem_of_getElem? he)
    have ew := wrap_succ' (i := i) (by omega)
    rw [drop_get he, pstF] at hm
    simp [e0, e2, e3, e4, hlt, he, he', hxc]
    refine ⟨by decide, ?_⟩
    refine callS.pure _ (fun _ => ledger_Post' x out e hx hk (by omega) q) ?_
    simp [e0, e2, e3, e4, hlt, he, he', hxc, ew]
    exact ⟨i + 1, by omega, by omega, by omega, _, Rn.ro _, hk.post q, hm⟩
  · rw [List.drop_eq_nil_of_le hge, pstF] at hm
    simp [e0, e2, e3, e4, Nat.not_lt.2 hge, hxc]
    rw [hm]
    exact .agg' (.cons (rn_frz hx) .nil)
theorem law32_zero (l : List TEn) (n : Nat) (hk : okB l n) (hn : n ≤ 50) : ACalls Try.prog gl 31 [.agg (encLg l)] h fun v h' => v = .bool true ∧ h' = h := by
  refine ACalls.data (.bool _) (ACalls.body Try.f31 _ mixed Try.func31 rfl rfl (by simp [Try.ntmps31]) ?_)
  have hkl := hk.okl hn
  obtain ⟨hpl, hpf⟩ := okL_posts hkl
  have hal := accL_len (allP l)
  simp
  refine callS.pure _ (fun _ => ledger_Accounts l hkl hk.texts) ?_
  simp
  obtain ⟨A, hA⟩ : ∃ A, A = accL (allP l) := ⟨_, rfl⟩
  rw [← hA] at hal ⊢
  have hAn : A.Nodup := by rw [hA]; exact accL_nodup _
  refine AWP.up mixed A.length (fun i fr h' => fr 1 = .ptr h.length 0 0 ∧ fr 3 = .int .i64 (sumA (allP l) (A.take i)) ∧ fr 4 = .ro (A.map encT) ∧ fr 5 = .int .i64 i ∧ h' = h ++ [.cells 1 [encLg l]]) 0 (by omega)
    ⟨by simp, by simp [sumA], by simp, by simp, by simp⟩ ?_
  rintro i fr h' hi ⟨e1, e3, e4, e5, rfl⟩
  rcases Nat.lt_or_ge i A.length with hlt | hge
  · obtain ⟨a, ha, ha'⟩ := get_lt hlt
    have ew := wrap_succ' (i := i) (by omega)
    have hti : A.take (i + 1) = A.take i ++ [a] := by rw [List.take_add_one, ha]; rfl
    have hs1 : sumA (allP l) (A.take i) + balI l a = sumA (allP l) (A.take (i + 1)) := by rw [hti, sumA_snoc]; rfl
    have hw : IntKind.i64.wrap (sumA (allP l) (A.take i) + balI l a) = sumA (allP l) (A.take (i + 1)) := by
      rw [hs1, sumA_eq _ _ (hAn.sublist (List.take_sublist _ _))]
      have := sumIn_range (A.take (i + 1)) (allP l) hpf
      have c1 : ((allP l).length : Int) ≤ 2000 := by omega
      exact wrap64_of (by omega) (by omega)
    simp [e1, e3, e4, e5, hlt, ha, ha', encT]
    refine ⟨by decide, ?_⟩
    refine callS.pure _ (fun _ => ledger_Balance l a hkl) ?_
    simp [e1, e3, e4, e5, hlt, ha, ha', ew, hw]
    refine ⟨i + 1, by omega, by omega, rfl, by omega⟩
  · simp [e1, e3, e4, e5, Nat.not_lt.2 hge]
    refine callS.pure _ (fun _ => ledger_Trial l hkl) ?_
    have h0 : sumA (allP l) (A.take i) = 0 := by rw [List.take_of_length_le hge, hA, sumA_accL, hk.total]
    have h1 : trD (allP l) = trC (allP l) := by rw [tr_tot, hk.total, Int.add_zero]
    simp [e1, e3, e4, e5, h0, h1]
end Go.Proofs.Ytmdenljmfeejfaa
