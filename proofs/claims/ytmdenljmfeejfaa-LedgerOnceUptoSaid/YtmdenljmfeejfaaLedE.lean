/-
  Contracts: all accounts of a ledger.
-/
import Derived.Test.YtmdenljmfeejfaaLedB
import Derived.Test.YtmdenljmfeejfaaLedC
import Derived.Test.YtmdenljmfeejfaaTextIns
import Derived.Test.YtmdenljmfeejfaaKeysLay
set_option linter.unusedVariables false
set_option linter.unusedSimpArgs false
set_option maxRecDepth 100000
namespace Go.Proofs.Ytmdenljmfeejfaa
open Go Go.Abs Go.Toll
variable {gl : Globs} {h : AHeap}

theorem ledger_Accounts (l : List TEn) (hk : okL l) (ht : ∀ p ∈ allP l, p.account.length ≤ 1000000) : ACalls Try.prog gl 26 [.agg (encLg l)] h fun v h' => v = .ro ((accL (allP l)).map encT) ∧ h' = h := by
  refine ACalls.data (.ro _ (texts_data _)) (ACalls.body Try.f26 _ mixed Try.func26 rfl rfl (by simp [Try.ntmps26]) ?_)
  simp
  refine callS.any (ledger_balances _ l (Rs.ro (by simp)) hk) ?_
  rintro v h' ⟨hv, g, hh⟩
  subst hv hh
  simp
  refine callS.any (maps_Keys _) ?_
  rintro v h' ⟨hv, hh⟩
  subst hv hh
  simp
  have hbl := balM_len (allP l) []
  have hpl := (okL_posts hk).1
  refine callS.any (slices_Sorted encZ (h.length + 1) _ (balM (allP l)) (by simp) (by simp) (balM_nodup _) ?_ (by have : (balM (allP l)).length ≤ 2000 := Nat.le_trans hbl (by simpa using hpl); omega)) ?_
  · intro q hq
    have : q.1 ∈ (allP l).map (·.account) := (balM_mem _ _).1 (List.mem_map_of_mem hq)
    obtain ⟨p, hp, e⟩ := List.mem_map.1 this
    have := ht p hp
    rw [e] at this
    exact Nat.le_trans this (by decide)
  · rintro v h' ⟨hv, hh⟩
    subst hv hh
    simp [accL]
theorem ref32_Accounts (l : List TEn) (hk : okL l) (ht : ∀ p ∈ allP l, p.account.length ≤ 1000000) : ACalls Try.prog gl 27 [.agg (encLg l)] h fun v h' => v = .ro ((accL (allP l)).map encT) ∧ h' = h := by
  refine ACalls.fresh (ACalls.body Try.f27 _ mixed Try.func27 rfl rfl (by simp [Try.ntmps27]) ?_)
  obtain ⟨hl, hp⟩ := hk
  simp
  refine AWP.up mixed l.length (fun i fr h' => fr 1 = .ptr h.length 0 0 ∧ fr 4 = .int .i64 i ∧ (∃ out x, fr 3 = x ∧ Rn x (out.map encT) ∧ accL (allP l) = accF out (allP (l.drop i)) ∧ out.length ≤ 40 * i) ∧ h' = h ++ [.cells 1 [encLg l]]) 0 (by omega)
    ⟨by simp, by simp, ⟨[], .nil, by simp, Rn.nil, by simp [accL_eq], by simp⟩, by simp⟩ ?_
  rintro i fr h' hi ⟨e1, e4, ⟨out, x, e3, hx, hm, hol⟩, rfl⟩
  rcases Nat.lt_or_ge i l.length with hlt | hge
  · obtain ⟨e, he, he'⟩ := get_lt hlt
    obtain ⟨hpl, hpc⟩ := hp e (List.mem_of_getElem? he)
    rw [drop_get he, allP_cons] at hm
    have ew := wrap_succ' (i := i) (by omega)
    have het : ∀ p ∈ e.posts, p.account.length ≤ 1000000 := fun p hp => ht p (List.mem_flatMap.2 ⟨e, List.mem_of_getElem? he, hp⟩)
    simp [e1, e3, e4, hlt]
    refine AWP.up mixed e.posts.length (fun j fr h' => fr 1 = .ptr h.length 0 0 ∧ fr 4 = .int .i64 i ∧ fr 5 = .int .i64 j ∧ (∃ out x, fr 3 = x ∧ Rn x (out.map encT) ∧ accL (allP l) = accF out (e.posts.drop j ++ allP (l.drop (i + 1))) ∧ out.length ≤ 40 * i + j) ∧ h' = h ++ [.cells 1 [encLg l]]) 0 (by omega)
      ⟨by simp [e1], by simp [e4], by simp, ⟨out, x, by simp [e3], hx, by simpa using hm, by simpa using hol⟩, by simp⟩ ?_
    clear e1 e3 e4 hx hm hol
    rintro j fr h' hj ⟨e1, e4, e5, ⟨out, x, e3, hx, hm, hol⟩, rfl⟩
    rcases Nat.lt_or_ge j e.posts.length with hltj | hgej
    · obtain ⟨p, hpj, hpj'⟩ := get_lt hltj
      rw [drop_get hpj, List.cons_append, accF_cons] at hm
      have ewj := wrap_succ' (i := j) (by omega)
      have hxc : x.core = x ∧ x.gd = true := by rcases hx with rfl | ⟨rfl, _⟩ <;> exact ⟨rfl, rfl⟩
      simp [e1, e3, e4, e5, hlt, he, he', hltj, hpj, hpj', ewj, hxc]
      refine callS.pure _ (fun _ => ref07_HasText out p.account x hx (by omega)) ?_
      simp [e1, e3, e4, e5, hlt, he, he', hltj, hpj, hpj', ewj, hxc]
      refine ⟨fun q => ?_, fun q => ?_⟩
      · refine callS.pure _ (fun _ => ref07_Insert out p.account x hx q (by have := het p (List.mem_of_getElem? hpj); unfold shortS; omega) (by omega)) ?_
        simp [e1, e3, e4, e5, hlt, he, he', hltj, hpj, hpj', ewj, hxc]
        rw [accS, if_neg q] at hm
        exact ⟨j + 1, by omega, by omega, by omega, _, Rn.ro _, hm, by rw [insT_len]; omega⟩
      · rw [accS, if_pos q] at hm
        exact ⟨j + 1, by omega, by omega, by omega, out, hx, hm, by omega⟩
    · obtain rfl : j = e.posts.length := by omega
      rw [List.drop_length, List.nil_append] at hm
      simp [e1, e3, e4, e5, hlt, he, he', ew]
      exact ⟨i + 1, by omega, by omega, by omega, out, hx, hm, by omega⟩
  · rw [List.drop_eq_nil_of_le hge, allP_nil, accF_nil] at hm
    have hxc : x.core = x ∧ x.gd = true := by rcases hx with rfl | ⟨rfl, _⟩ <;> exact ⟨rfl, rfl⟩
    simp [e1, e3, e4, Nat.not_lt.2 hge, hxc]
    rw [hm]
    rcases hx with rfl | ⟨rfl, e⟩
    · exact .data _ (.ro _ (texts_data _))
    · rw [e]; exact .nil
end Go.Proofs.Ytmdenljmfeejfaa
