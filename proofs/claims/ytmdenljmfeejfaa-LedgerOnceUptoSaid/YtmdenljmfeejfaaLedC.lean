/-
  Contracts: balances, debits and credits.
-/
import Derived.Test.YtmdenljmfeejfaaTab
import Derived.Test.YtmdenljmfeejfaaTollLedger
set_option linter.unusedVariables false
set_option linter.unusedSimpArgs false
set_option maxRecDepth 100000
namespace Go.Proofs.Ytmdenljmfeejfaa
open Go Go.Abs Go.Toll
variable {gl : Globs} {h : AHeap}

theorem keysOk_sM {m : List (Bytes × Int)} (s : Bytes) : keysOk Try.prog 9 (.str s) (sM encZ m) := by
  refine ⟨by simp [aggFit], [.str], by simp, by simp, fun p hp => ?_⟩
  obtain ⟨q, _, rfl⟩ := mem_sM _ hp
  simp
set_option maxHeartbeats 1000000 in
theorem ledger_balances (x : AV) (l : List TEn) (hx : Rs 3 h x (l.map encEn)) (hk : okL l) :
    ACalls Try.prog gl 37 [x] h fun v h' => v = .map h.length ∧ ∃ g, h' = h ++ .map (sM encZ (balM (allP l))) :: g := by
  refine ACalls.body Try.f37 _ mixed Try.func37 rfl rfl (by simp [Try.ntmps37]) ?_
  have hxf := hx.fix
  obtain ⟨hl, hp⟩ := hk
  have hx1 := hx.append [.map []]
  simp [hxf, hx.len2, hx1.len2]
  refine AWP.up mixed l.length (fun i fr h' => fr 3 = .map h.length ∧ fr 9 = x ∧ fr 10 = .int .i64 l.length ∧ fr 11 = .int .i64 i ∧ ∃ m g, h' = h ++ .map (sM encZ m) :: g ∧ balM (allP l) = balF m (allP (l.drop i)) ∧ ∀ a, -((40 * i : Nat) : Int) * 1125899906842624 ≤ (getS m a).getD 0 ∧ (getS m a).getD 0 ≤ ((40 * i : Nat) : Int) * 1125899906842624) 0 (by omega)
    ⟨by simp, by simp, by simp, by simp, [], [], by simp [sM], by simp [balM], by simp [getS]⟩ ?_
  rintro i fr h' hi ⟨e3, e9, e10, e11, m, g, rfl, hm, hb⟩
  rcases Nat.lt_or_ge i l.length with hlt | hge
  · obtain ⟨e, he, he'⟩ := get_lt hlt
    obtain ⟨hpl, hpc⟩ := hp e (List.mem_of_getElem? he)
    rw [drop_get he, allP_cons] at hm
    have ew := wrap_succ' (i := i) (by omega)
    have hx2 := hx.append (.map (sM encZ m) :: g)
    have rx := Rs.ix Try.prog hx2 i (by omega) (y := encEn e) (by simp [he])
    simp [e3, e9, e10, e11, hlt, hxf, rx]
    refine AWP.up mixed e.posts.length (fun j fr h' => fr 3 = .map h.length ∧ fr 9 = x ∧ fr 10 = .int .i64 l.length ∧ fr 11 = .int .i64 i ∧ fr 16 = .ro (e.posts.map encPo) ∧ fr 17 = .int .i64 e.posts.length ∧ fr 18 = .int .i64 j ∧
      ∃ m g, h' = h ++ .map (sM encZ m) :: g ∧ balM (allP l) = balF m (e.posts.drop j ++ allP (l.drop (i + 1))) ∧ ∀ a, -((40 * i + j : Nat) : Int) * 1125899906842624 ≤ (getS m a).getD 0 ∧ (getS m a).getD 0 ≤ ((40 * i + j : Nat) : Int) * 1125899906842624) 0 (by omega)
      ⟨by simp [e3], by simp [e9], by simp [e10], by simp [e11], by simp, by simp, by simp, m, _, rfl, by simpa using hm, by simpa using hb⟩ ?_
    clear e3 e9 e10 e11 hm hb hx2 rx
    rintro j fr h' hj ⟨e3, e9, e10, e11, e16, e17, e18, m, g, rfl, hm, hb⟩
    rcases Nat.lt_or_ge j e.posts.length with hltj | hgej
    · obtain ⟨p, hpj, hpj'⟩ := get_lt hltj
      have hc := fits_range (hpc p (List.mem_of_getElem? hpj))
      rw [drop_get hpj, List.cons_append, balF_cons] at hm
      have ewj := wrap_succ' (i := j) (by omega)
      have hb1 := hb p.account
      have w1 : IntKind.i64.wrap ((getS m p.account).getD 0 + p.cents) = (getS m p.account).getD 0 + p.cents := wrap64_of (by omega) (by omega)
      have hlk : ((getS m p.account).map encZ).getD (.int .i64 0) = .int .i64 ((getS m p.account).getD 0) := by cases getS m p.account <;> rfl
      have hset := aset_sM encZ m p.account ((getS m p.account).getD 0 + p.cents)
      rw [encZ_eq] at hset
      have hko := keysOk_sM (m := m) p.account
      simp [-keysOk, e3, e9, e10, e11, e16, e17, e18, hltj, hpj, hpj', ewj, alook_sM, hlk, w1, hset, hko]
      refine ⟨j + 1, by omega, by omega, by omega, _, rfl, hm, fun a => ?_⟩
      rw [getS_putS]
      have hba := hb a
      push_cast at hb1 hba ⊢
      by_cases hap : a = p.account
      · rw [if_pos hap, Option.getD_some]; omega
      · rw [if_neg hap]; omega
    · obtain rfl : j = e.posts.length := by omega
      rw [List.drop_length, List.nil_append] at hm
      simp [e3, e9, e10, e11, e16, e17, e18, ew]
      refine ⟨i + 1, by omega, by omega, by omega, m, rfl, hm, fun a => ?_⟩
      have hba := hb a
      push_cast at hba ⊢
      omega
  · rw [List.drop_eq_nil_of_le hge, allP_nil, balF_nil] at hm
    simp [e3, e9, e10, e11, Nat.not_lt.2 hge, hm]
theorem ledger_Balance (l : List TEn) (a : Bytes) (hk : okL l) : ACalls Try.prog gl 23 [.agg (encLg l), .str a] h fun v h' => v = .int .i64 (balI l a) ∧ h' = h := by
  refine ACalls.data (.int _ _) (ACalls.body Try.f23 _ mixed Try.func23 rfl rfl (by simp [Try.ntmps23]) ?_)
  simp
  refine callS.any (ledger_balances _ l (Rs.ro (by simp)) hk) ?_
  rintro v h' ⟨hv, g, hh⟩
  subst hv hh
  have hlk : ((getS (balM (allP l)) a).map encZ).getD (.int .i64 0) = .int .i64 (balI l a) := by
    rw [balI, ← balM_get]; cases getS (balM (allP l)) a <;> rfl
  have hko := keysOk_sM (m := balM (allP l)) a
  simp [-keysOk, alook_sM, hlk, hko]
theorem ref32_Balance (l : List TEn) (a : Bytes) (hk : okL l) : ACalls Try.prog gl 24 [.agg (encLg l), .str a] h fun v h' => v = .int .i64 (balI l a) ∧ h' = h := by
  refine ACalls.data (.int _ _) (ACalls.body Try.f24 _ mixed Try.func24 rfl rfl (by simp [Try.ntmps24]) ?_)
  obtain ⟨hl, hp⟩ := hk
  simp
  refine AWP.up mixed l.length (fun i fr h' => fr 1 = .str a ∧ fr 2 = .ptr h.length 0 0 ∧ fr 6 = .int .i64 i ∧ (∃ s : Int, fr 5 = .int .i64 s ∧ balI l a = s + balI (l.drop i) a ∧ -((40 * i : Nat) : Int) * 1125899906842624 ≤ s ∧ s ≤ ((40 * i : Nat) : Int) * 1125899906842624) ∧ h' = h ++ [.cells 1 [encLg l]]) 0 (by omega)
    ⟨by simp, by simp, by simp, ⟨0, by simp, by simp, by simp, by simp⟩, by simp⟩ ?_
  rintro i fr h' hi ⟨e1, e2, e6, ⟨s, e5, hs, hs1, hs2⟩, rfl⟩
  rcases Nat.lt_or_ge i l.length with hlt | hge
  · obtain ⟨e, he, he'⟩ := get_lt hlt
    obtain ⟨hpl, hpc⟩ := hp e (List.mem_of_getElem? he)
    rw [drop_get he, balI, balI, allP_cons, poI_append] at hs
    have ew := wrap_succ' (i := i) (by omega)
    simp [e1, e2, e5, e6, hlt]
    refine AWP.up mixed e.posts.length (fun j fr h' => fr 1 = .str a ∧ fr 2 = .ptr h.length 0 0 ∧ fr 6 = .int .i64 i ∧ fr 7 = .int .i64 j ∧ (∃ s : Int, fr 5 = .int .i64 s ∧ balI l a = s + (poI a (e.posts.drop j) + balI (l.drop (i + 1)) a) ∧ -((40 * i + j : Nat) : Int) * 1125899906842624 ≤ s ∧ s ≤ ((40 * i + j : Nat) : Int) * 1125899906842624) ∧ h' = h ++ [.cells 1 [encLg l]]) 0 (by omega)
      ⟨by simp [e1], by simp [e2], by simp [e6], by simp, ⟨s, by simp [e5], by simpa [balI] using hs, by simpa using hs1, by simpa using hs2⟩, by simp⟩ ?_
    clear e1 e2 e5 e6 hs hs1 hs2
    rintro j fr h' hj ⟨e1, e2, e6, e7, ⟨s, e5, hs, hs1, hs2⟩, rfl⟩
    rcases Nat.lt_or_ge j e.posts.length with hltj | hgej
    · obtain ⟨p, hpj, hpj'⟩ := get_lt hltj
      have hc := fits_range (hpc p (List.mem_of_getElem? hpj))
      rw [drop_get hpj, poI] at hs
      have ewj := wrap_succ' (i := j) (by omega)
      have w1 : IntKind.i64.wrap (s + p.cents) = s + p.cents := wrap64_of (by omega) (by omega)
      simp [e1, e2, e5, e6, e7, hlt, he, he', hltj, hpj, hpj', ewj, w1]
      push_cast at hs1 hs2
      refine ⟨fun q => ⟨j + 1, by omega, by omega, by omega, ?_, by push_cast; omega, by push_cast; omega⟩, fun q => ⟨j + 1, by omega, by omega, by omega, ?_, by push_cast; omega, by push_cast; omega⟩⟩
      · rw [hs, if_pos q]; omega
      · rw [hs, if_neg q]; omega
    · obtain rfl : j = e.posts.length := by omega
      rw [List.drop_length, poI] at hs
      simp [e1, e2, e5, e6, e7, hlt, he, he', ew]
      push_cast at hs1 hs2
      exact ⟨i + 1, by omega, by omega, by omega, by omega, by push_cast; omega, by push_cast; omega⟩
  · rw [List.drop_eq_nil_of_le hge] at hs
    simp [e1, e2, e5, e6, Nat.not_lt.2 hge]
    rw [hs]; simp [balI, poI]
theorem ledger_Trial (l : List TEn) (hk : okL l) : ACalls Try.prog gl 20 [.agg (encLg l)] h fun v h' => v = .tup [.int .i64 (trD (allP l)), .int .i64 (trC (allP l))] ∧ h' = h := by
  refine ACalls.data (.tup _ (by simp)) (ACalls.body Try.f20 _ mixed Try.func20 rfl rfl (by simp [Try.ntmps20]) ?_)
  obtain ⟨hl, hp⟩ := hk
  simp
  refine AWP.up mixed l.length (fun i fr h' => fr 11 = .ro (l.map encEn) ∧ fr 12 = .int .i64 l.length ∧ fr 13 = .int .i64 i ∧ (∃ s t : Int, fr 4 = .int .i64 s ∧ fr 5 = .int .i64 t ∧ trD (allP l) = s + trD (allP (l.drop i)) ∧ trC (allP l) = t + trC (allP (l.drop i)) ∧ 0 ≤ s ∧ s ≤ ((40 * i : Nat) : Int) * 1125899906842624 ∧ 0 ≤ t ∧ t ≤ ((40 * i : Nat) : Int) * 1125899906842624) ∧ ∃ g, h' = h ++ g) 0 (by omega)
    ⟨by simp, by simp, by simp, ⟨0, 0, by simp, by simp, by simp, by simp, by simp, by simp, by simp, by simp⟩, _, rfl⟩ ?_
  rintro i fr h' hi ⟨e11, e12, e13, ⟨s, t, e4, e5, hs, ht, hs1, hs2, ht1, ht2⟩, g, rfl⟩
  rcases Nat.lt_or_ge i l.length with hlt | hge
  · obtain ⟨e, he, he'⟩ := get_lt hlt
    obtain ⟨hpl, hpc⟩ := hp e (List.mem_of_getElem? he)
    rw [drop_get he, allP_cons] at hs ht
    have ew := wrap_succ' (i := i) (by omega)
    simp [e4, e5, e11, e12, e13, hlt, he, he']
    refine AWP.up mixed e.posts.length (fun j fr h' => fr 11 = .ro (l.map encEn) ∧ fr 12 = .int .i64 l.length ∧ fr 13 = .int .i64 i ∧ fr 18 = .ro (e.posts.map encPo) ∧ fr 19 = .int .i64 e.posts.length ∧ fr 20 = .int .i64 j ∧ (∃ s t : Int, fr 4 = .int .i64 s ∧ fr 5 = .int .i64 t ∧ trD (allP l) = s + trD (e.posts.drop j ++ allP (l.drop (i + 1))) ∧ trC (allP l) = t + trC (e.posts.drop j ++ allP (l.drop (i + 1))) ∧ 0 ≤ s ∧ s ≤ ((40 * i + j : Nat) : Int) * 1125899906842624 ∧ 0 ≤ t ∧ t ≤ ((40 * i + j : Nat) : Int) * 1125899906842624) ∧ ∃ g, h' = h ++ g) 0 (by omega)
      ⟨by simp [e11], by simp [e12], by simp [e13], by simp, by simp, by simp, ⟨s, t, by simp [e4], by simp [e5], by simpa using hs, by simpa using ht, hs1, by simpa using hs2, ht1, by simpa using ht2⟩, _, rfl⟩ ?_
    clear e4 e5 e11 e12 e13 hs hs1 hs2 ht ht1 ht2
    rintro j fr h' hj ⟨e11, e12, e13, e18, e19, e20, ⟨s, t, e4, e5, hs, ht, hs1, hs2, ht1, ht2⟩, g, rfl⟩
    rcases Nat.lt_or_ge j e.posts.length with hltj | hgej
    · obtain ⟨p, hpj, hpj'⟩ := get_lt hltj
      have hc := fits_range (hpc p (List.mem_of_getElem? hpj))
      rw [drop_get hpj, List.cons_append] at hs ht
      rw [trD] at hs
      rw [trC] at ht
      have ewj := wrap_succ' (i := j) (by omega)
      push_cast at hs2 ht2
      have w1 : IntKind.i64.wrap (s + max p.cents 0) = s + max p.cents 0 := wrap64_of (by omega) (by omega)
      have w2 : IntKind.i64.wrap (t - min p.cents 0) = t + max (-p.cents) 0 := by rw [wrap64_of (by omega) (by omega)]; omega
      simp [e4, e5, e11, e12, e13, e18, e19, e20, hltj, hpj, hpj', ewj, w1, w2]
      exact ⟨j + 1, by omega, by omega, by omega, by omega, by omega, by omega, by push_cast; omega, by omega, by push_cast; omega⟩
    · obtain rfl : j = e.posts.length := by omega
      rw [List.drop_length, List.nil_append] at hs ht
      push_cast at hs2 ht2
      simp [e4, e5, e11, e12, e13, e18, e19, e20, ew]
      exact ⟨i + 1, by omega, by omega, by omega, hs, ht, hs1, by push_cast; omega, ht1, by push_cast; omega⟩
  · rw [List.drop_eq_nil_of_le hge] at hs ht
    simp [e4, e5, e11, e12, e13, Nat.not_lt.2 hge]
    rw [hs, ht]; simp [trD, trC]
theorem ref32_Trial (l : List TEn) (hk : okL l) : ACalls Try.prog gl 21 [.agg (encLg l)] h fun v h' => v = .tup [.int .i64 (trD (allP l)), .int .i64 (trC (allP l))] ∧ h' = h := by
  refine ACalls.data (.tup _ (by simp)) (ACalls.body Try.f21 _ mixed Try.func21 rfl rfl (by simp [Try.ntmps21]) ?_)
  obtain ⟨hl, hp⟩ := hk
  simp
  refine AWP.up mixed l.length (fun i fr h' => fr 1 = .ptr h.length 0 0 ∧ fr 6 = .int .i64 i ∧ (∃ s t : Int, fr 4 = .int .i64 s ∧ fr 5 = .int .i64 t ∧ trD (allP l) = s + trD (allP (l.drop i)) ∧ trC (allP l) = t + trC (allP (l.drop i)) ∧ 0 ≤ s ∧ s ≤ ((40 * i : Nat) : Int) * 1125899906842624 ∧ 0 ≤ t ∧ t ≤ ((40 * i : Nat) : Int) * 1125899906842624) ∧ h' = h ++ [.cells 1 [encLg l]]) 0 (by omega)
    ⟨by simp, by simp, ⟨0, 0, by simp, by simp, by simp, by simp, by simp, by simp, by simp, by simp⟩, by simp⟩ ?_
  rintro i fr h' hi ⟨e1, e6, ⟨s, t, e4, e5, hs, ht, hs1, hs2, ht1, ht2⟩, rfl⟩
  rcases Nat.lt_or_ge i l.length with hlt | hge
  · obtain ⟨e, he, he'⟩ := get_lt hlt
    obtain ⟨hpl, hpc⟩ := hp e (List.mem_of_getElem? he)
    rw [drop_get he, allP_cons] at hs ht
    have ew := wrap_succ' (i := i) (by omega)
    simp [e1, e4, e5, e6, hlt]
    refine AWP.up mixed e.posts.length (fun j fr h' => fr 1 = .ptr h.length 0 0 ∧ fr 6 = .int .i64 i ∧ fr 7 = .int .i64 j ∧ (∃ s t : Int, fr 4 = .int .i64 s ∧ fr 5 = .int .i64 t ∧ trD (allP l) = s + trD (e.posts.drop j ++ allP (l.drop (i + 1))) ∧ trC (allP l) = t + trC (e.posts.drop j ++ allP (l.drop (i + 1))) ∧ 0 ≤ s ∧ s ≤ ((40 * i + j : Nat) : Int) * 1125899906842624 ∧ 0 ≤ t ∧ t ≤ ((40 * i + j : Nat) : Int) * 1125899906842624) ∧ h' = h ++ [.cells 1 [encLg l]]) 0 (by omega)
      ⟨by simp [e1], by simp [e6], by simp, ⟨s, t, by simp [e4], by simp [e5], by simpa using hs, by simpa using ht, hs1, by simpa using hs2, ht1, by simpa using ht2⟩, by simp⟩ ?_
    clear e1 e4 e5 e6 hs hs1 hs2 ht ht1 ht2
    rintro j fr h' hj ⟨e1, e6, e7, ⟨s, t, e4, e5, hs, ht, hs1, hs2, ht1, ht2⟩, rfl⟩
    rcases Nat.lt_or_ge j e.posts.length with hltj | hgej
    · obtain ⟨p, hpj, hpj'⟩ := get_lt hltj
      have hc := fits_range (hpc p (List.mem_of_getElem? hpj))
      rw [drop_get hpj, List.cons_append] at hs ht
      rw [trD] at hs
      rw [trC] at ht
      have ewj := wrap_succ' (i := j) (by omega)
      push_cast at hs2 ht2
      have w0 : IntKind.i64.wrap (-p.cents) = -p.cents := wrap64_of (by omega) (by omega)
      have w1 : IntKind.i64.wrap (s + max p.cents 0) = s + max p.cents 0 := wrap64_of (by omega) (by omega)
      have w2 : IntKind.i64.wrap (t + max (-p.cents) 0) = t + max (-p.cents) 0 := wrap64_of (by omega) (by omega)
      simp [e1, e4, e5, e6, e7, hlt, he, he', hltj, hpj, hpj', ewj, w0, w1, w2]
      exact ⟨j + 1, by omega, by omega, by omega, by omega, by omega, by omega, by push_cast; omega, by omega, by push_cast; omega⟩
    · obtain rfl : j = e.posts.length := by omega
      rw [List.drop_length, List.nil_append] at hs ht
      push_cast at hs2 ht2
      simp [e1, e4, e5, e6, e7, hlt, he, he', ew]
      exact ⟨i + 1, by omega, by omega, by omega, hs, ht, hs1, by push_cast; omega, ht1, by push_cast; omega⟩
  · rw [List.drop_eq_nil_of_le hge] at hs ht
    simp [e1, e4, e5, e6, Nat.not_lt.2 hge]
    rw [hs, ht]; simp [trD, trC]
end Go.Proofs.Ytmdenljmfeejfaa
