/-
  Contracts: the law of all paths, without the reference.
-/
import Derived.Test.YtonpmbppmmaheaaLaw07C
import Derived.Test.YtonpmbppmmaheaaTollClosed
set_option linter.unusedVariables false
set_option linter.unusedSimpArgs false
set_option maxRecDepth 100000
namespace Go.Proofs.Ytonpmbppmmaheaa
open Go Go.Abs Go.Toll
variable {gl : Globs} {h : AHeap}

set_option maxHeartbeats 8000000 in
theorem law_Simple (n : Net) (a b : Bytes) : ACalls Try.prog gl 9 [.agg (encNet n), .str a, .str b] h fun v h' => v = .bool true := by
  refine ACalls.mono (ACalls.data (.bool true) (ACalls.body Try.f9 _ mixed Try.func9 rfl rfl (by simp [Try.ntmps9]) ?_)) fun _ _ h => h.1
  simp
  refine callS.pure _ (fun _ => law_few n) ?_
  by_cases hf : fewB n = true
  · have hl := fewB_len hf
    by_cases hs : a.length ≤ 40
    · have hs' : ¬ (40 : Int) < a.length := by omega
      by_cases ht : b.length ≤ 40
      · have ht' : ¬ (40 : Int) < b.length := by omega
        rw [hf]; simp [hs', ht']
        have ok := validN_ok n
        have hsp := (pathsM_spec ok a b).1
        have herr := pathsM_err (validN n) a b
        have hat : ∀ (i : Nat) q, (pathsM (validN n) a b).1[i]? = some q → ∃ l s, PathAt (validN n) a b q l s := fun i q => path_at ok
        have hls : ∀ (j : Nat) x y, (pathsM (validN n) a b).1[j]? = some x → (pathsM (validN n) a b).1[j + 1]? = some y → pcmp x y < 0 := fun j x y => path_less ok
        have c1 := fun H : AHeap => graph_Paths (gl := gl) (h := H) n a b (by omega) (by omega)
        unfold pathsV at c1
        refine callS.pure _ (fun _ => c1 _) ?_
        clear c1
        generalize pathsM (validN n) a b = PE at *
        obtain ⟨L, E⟩ := PE
        simp only at hsp herr hat hls ⊢
        by_cases hE : E = 0
        · subst hE
          simp
          refine AWP.up mixed L.length (fun i fr H => (fr 1 = .str a ∧ fr 2 = .str b) ∧ fr 3 = .ptr h.length 0 0 ∧ fr 7 = .ro (L.map encPa) ∧ fr 9 = .int .i64 i ∧ H = h ++ [.cells 2 [encNet n]]) 0 (by omega) ⟨by simp, by simp, by simp, by simp, by simp⟩ ?_
          rintro i fr H hi ⟨⟨e1, e2⟩, e3, e7, e9, rfl⟩
          rcases Nat.lt_or_ge i L.length with hlt | hge
          · obtain ⟨q, hq, hq'⟩ := get_lt hlt
            have ew := wrap_succ' (i := i) (by omega)
            obtain ⟨l, s, hp⟩ := hat i q hq
            have hql := hp.len
            have hqe := hp.eq
            have hlast := last_end a l
            rw [hp.ends, ← hqe] at hlast
            have hlast' := (List.getElem?_eq_some_iff.1 hlast).2
            have hfst : q[0]? = some a := by rw [hqe]; rfl
            have hfst' := (List.getElem?_eq_some_iff.1 hfst).2
            have hqn : q.length = l.length + 1 := by rw [hqe]; rfl
            have hne : q ≠ [] := by rw [hqe]; simp
            have hll : l.length < q.length := by omega
            have ewl : IntKind.i64.wrap ((q.length : Int) - 1) = (l.length : Int) := by rw [wrap64_of (by omega) (by omega)]; omega
            have h0 : ¬ (16 : Int) < q.length := by omega
            have h1 : ¬ (q.length : Int) = 0 := by omega
            have h2 : 0 < q.length := by omega
            have hhd : ∀ hh : q ≠ [], q.head hh = a := fun hh => by subst hqe; rfl
            have hhd' : q.head? = some a := by rw [hqe]; rfl
            simp [e1, e2, e3, e7, e9, hlt, hq, hq', encPa]
            refine callS.pure _ (fun _ => graph_Bounds n q (by omega) (by omega) (by omega)) ?_
            rw [hp.bnd]
            rcases Nat.eq_zero_or_pos i with hz | hpos
            · have hz' : ¬ (0 : Int) < i := by omega
              have hz2 : ¬ 0 < i := by omega
              simp [hz', hz2, e1, e2, e3, e7, e9, hlt, hq, hq', encPa, encT, hlast, hlast', hfst, hfst', hne, hll, ewl, h0, h1, h2, hhd, hhd']
              refine callS.pure (.int .i64 0) (fun c => by cases c) ?_
              simp [hz', hz2, hne, h0, h1, hlast, hlast', ewl, hll, hfst, hfst', hhd, hhd', e1, e2, e3, e7, e9, hlt, hq, hq', encPa, encT]
              refine AWP.up mixed q.length (fun k fr H => (fr 1 = .str a ∧ fr 2 = .str b) ∧ fr 3 = .ptr h.length 0 0 ∧ fr 7 = .ro (L.map encPa) ∧ fr 9 = .int .i64 i ∧ fr 10 = .ro (q.map encT) ∧ fr 14 = .int .i64 k ∧ H = h ++ [.cells 2 [encNet n]]) 0 (by omega) ⟨by simp [e1, e2], by simp [e3], by simp [e7], by simp [e9], by simp [encT], by simp, by simp⟩ ?_
              clear e1 e2 e3 e7 e9
              rintro k fr H hk ⟨⟨e1, e2⟩, e3, e7, e9, e10, e14, rfl⟩
              rcases Nat.lt_or_ge k q.length with hlk | hgk
              · obtain ⟨w, hw, hw'⟩ := get_lt hlk
                have ewk := wrap_succ' (i := k) (by omega)
                have hno := take_no hp.nd hw
                have hkl : k ≤ q.length := by omega
                simp [e1, e2, e3, e7, e9, e10, e14, hlk, hw, hw', encT, hkl]
                refine ⟨by decide, ?_⟩
                refine callS.pure _ (fun _ => ref07_HasText (q.take k) w _ (by rw [List.map_take]; exact .ro fun e he => texts_n q e (List.mem_of_mem_take he)) (by simp; omega)) ?_
                simp [e1, e2, e3, e7, e9, e10, e14, hlk, hw, hw', encT, hkl, hno, ewk]
                exact ⟨k + 1, by omega, by omega, by omega⟩
              · have hgk' : ¬ (k : Int) < q.length := by omega
                simp [e1, e2, e3, e7, e9, e10, e14, hgk', Nat.not_lt.2 hgk, ew]
                exact ⟨i + 1, by omega, by omega, by omega⟩
            · obtain ⟨j, hj⟩ : ∃ j, j + 1 = i := ⟨i - 1, by omega⟩
              obtain ⟨y, hy, hy'⟩ := get_lt (l := L) (i := j) (by omega)
              have hjl : j < L.length := by omega
              have ewm : IntKind.i64.wrap ((i : Int) - 1) = j := by rw [wrap64_of (by omega) (by omega)]; omega
              have hb := hls j y q hy (by rw [hj]; exact hq)
              obtain ⟨l', s', hp'⟩ := hat j y hy
              have hyl := hp'.len
              have hys : ∀ s ∈ y, shortS s := fun s hs => shortN ok (hp'.pts s hs)
              have hpos' : (0 : Int) < i := by omega
              simp [e1, e2, e3, e7, e9, hlt, hq, hq', encPa, encT, hlast, hlast', hfst, hfst', hne, hll, ewl, h0, h1, h2, hhd, hhd', hpos, hpos', ewm, hjl, hy, hy']
              refine callS.pure _ (fun _ => ref07_PathBefore y q (by omega) hys _ _ (.ro (texts_n _)) (.ro (texts_n _)) (by omega)) ?_
              have hb' : ¬ 0 ≤ pcmp y q := by omega
              simp [hne, h0, h1, hlast, hlast', ewl, hll, hfst, hfst', hhd, hhd', e1, e2, e3, e7, e9, hlt, hq, hq', encPa, encT, hb, hb']
              refine AWP.up mixed q.length (fun k fr H => (fr 1 = .str a ∧ fr 2 = .str b) ∧ fr 3 = .ptr h.length 0 0 ∧ fr 7 = .ro (L.map encPa) ∧ fr 9 = .int .i64 i ∧ fr 10 = .ro (q.map encT) ∧ fr 14 = .int .i64 k ∧ H = h ++ [.cells 2 [encNet n]]) 0 (by omega) ⟨by simp [e1, e2], by simp [e3], by simp [e7], by simp [e9], by simp [encT], by simp, by simp⟩ ?_
              clear e1 e2 e3 e7 e9
              rintro k fr H hk ⟨⟨e1, e2⟩, e3, e7, e9, e10, e14, rfl⟩
              rcases Nat.lt_or_ge k q.length with hlk | hgk
              · obtain ⟨w, hw, hw'⟩ := get_lt hlk
                have ewk := wrap_succ' (i := k) (by omega)
                have hno := take_no hp.nd hw
                have hkl : k ≤ q.length := by omega
                simp [e1, e2, e3, e7, e9, e10, e14, hlk, hw, hw', encT, hkl]
                refine ⟨by decide, ?_⟩
                refine callS.pure _ (fun _ => ref07_HasText (q.take k) w _ (by rw [List.map_take]; exact .ro fun e he => texts_n q e (List.mem_of_mem_take he)) (by simp; omega)) ?_
                simp [e1, e2, e3, e7, e9, e10, e14, hlk, hw, hw', encT, hkl, hno, ewk]
                exact ⟨k + 1, by omega, by omega, by omega⟩
              · have hgk' : ¬ (k : Int) < q.length := by omega
                simp [e1, e2, e3, e7, e9, e10, e14, hgk', Nat.not_lt.2 hgk, ew]
                exact ⟨i + 1, by omega, by omega, by omega⟩
          · have hge' : ¬ (i : Int) < L.length := by omega
            have h0 : (L.length : Int) ≤ 1024 := by omega
            simp [e1, e2, e3, e7, e9, hge', Nat.not_lt.2 hge, h0, hsp]
            refine callS.pure _ (fun _ => law_awake) ?_
            simp
        · obtain rfl := herr hE
          simp [hE]
          refine callS.pure _ (fun _ => law_awake) ?_
          simp
      · have ht' : (40 : Int) < b.length := by omega
        rw [hf]; simp [hs', ht']
        refine callS.pure _ (fun _ => law_awake) ?_
        simp
    · have hs' : (40 : Int) < a.length := by omega
      rw [hf]; simp [hs']
      refine callS.pure _ (fun _ => law_awake) ?_
      simp
  · rw [Bool.not_eq_true] at hf
    rw [hf]; simp
    refine callS.pure _ (fun _ => law_awake) ?_
    simp
end Go.Proofs.Ytonpmbppmmaheaa
