/-
  Contracts: the law of what can be reached.
-/
import Derived.Test.YtonpmbppmmaheaaLaw07C
import Derived.Test.YtonpmbppmmaheaaTollClosed
set_option linter.unusedVariables false
set_option linter.unusedSimpArgs false
set_option maxRecDepth 100000
namespace Go.Proofs.Ytonpmbppmmaheaa
open Go Go.Abs Go.Toll
variable {gl : Globs} {h : AHeap}

set_option maxHeartbeats 8000000 in
theorem law_Closed (n : Net) (s : Bytes) : ACalls Try.prog gl 10 [.agg (encNet n), .str s] h fun v h' => v = .bool true := by
  refine ACalls.mono (ACalls.data (.bool true) (ACalls.body Try.f10 _ mixed Try.func10 rfl rfl (by simp [Try.ntmps10]) ?_)) fun _ _ h => h.1
  simp
  refine callS.pure _ (fun _ => law_few n) ?_
  by_cases hf : fewB n = true
  · have hl := fewB_len hf
    by_cases hs : s.length ≤ 40
    · have hs' : ¬ (40 : Int) < s.length := by omega
      rw [hf]; simp [hs']
      have ok := validN_ok n
      have hrl := reach_len ok s
      refine callS.pure _ (fun _ => graph_Reaches n s (by omega) (by omega)) ?_
      simp
      refine callS.pure _ (fun _ => graph_Find n s (by omega) (by omega)) ?_
      rw [find_pt]
      have hself := reach_self ok s
      generalize (findPt n s).getD pt0 = P at *
      simp
      refine callS.pure _ (fun _ => ref07_HasText (reachL (validN n) s) s _ (.ro (texts_n _)) (by omega)) ?_
      rw [hself]
      cases hq : hasPt (validN n).pts s with
      | false =>
        rw [reach_none hq]
        simp
        refine AWP.up mixed 0 (fun i fr H => fr 2 = .ptr h.length 0 0 ∧ fr 5 = .ro [] ∧ fr 8 = .int .i64 i ∧ H = h ++ [.cells 2 [encNet n], .cells 3 [encPt P]]) 0 (by omega) ⟨by simp, by simp, by simp, by simp⟩ ?_
        rintro i fr H hi ⟨e2, e5, e8, rfl⟩
        obtain rfl : i = 0 := by omega
        simp [e2, e5, e8]
        refine callS.pure _ (fun _ => law_awake) ?_
        simp
      | true =>
        have hnx : ∀ x t, x ∈ reachL (validN n) s → t ∈ nextL (validN n) x → t ∈ reachL (validN n) s := fun x t => reach_next ok
        have hls : ∀ (j : Nat) x y, (reachL (validN n) s)[j]? = some x → (reachL (validN n) s)[j + 1]? = some y → Op.bytesLess x y = true := fun j x y => reach_less ok
        have hsh : ∀ x ∈ reachL (validN n) s, shortS x := fun x hx => shortN ok (reach_pt ok hx)
        generalize reachL (validN n) s = L at *
        simp
        refine AWP.up mixed L.length (fun i fr H => fr 2 = .ptr h.length 0 0 ∧ fr 5 = .ro (L.map encT) ∧ fr 8 = .int .i64 i ∧ H = h ++ [.cells 2 [encNet n], .cells 3 [encPt P]]) 0 (by omega) ⟨by simp, by simp, by simp, by simp⟩ ?_
        rintro i fr H hi ⟨e2, e5, e8, rfl⟩
        rcases Nat.lt_or_ge i L.length with hlt | hge
        · obtain ⟨x, hx, hx'⟩ := get_lt hlt
          have ew := wrap_succ' (i := i) (by omega)
          have hxm := List.mem_of_getElem? hx
          simp [e2, e5, e8, hlt, hx, hx', encT]
          refine ⟨by decide, ?_⟩
          refine callS.pure _ (fun _ => graph_Next n x (by omega) (by omega)) ?_
          simp [e2, e5, e8, hlt, hx, hx', encT]
          have hnl := next_len ok x
          have hcl : ∀ t ∈ nextL (validN n) x, t ∈ L := fun t ht => hnx x t hxm ht
          generalize nextL (validN n) x = X at *
          refine AWP.up mixed X.length (fun k fr H => fr 2 = .ptr h.length 0 0 ∧ fr 5 = .ro (L.map encT) ∧ fr 8 = .int .i64 i ∧ fr 9 = .ro (X.map encT) ∧ fr 10 = .int .i64 k ∧ H = h ++ [.cells 2 [encNet n], .cells 3 [encPt P]]) 0 (by omega) ⟨by simp [e2], by simp [e5], by simp [e8], by simp, by simp, by simp⟩ ?_
          clear e2 e5 e8
          rintro k fr H hk ⟨e2, e5, e8, e9, e10, rfl⟩
          rcases Nat.lt_or_ge k X.length with hlk | hgk
          · obtain ⟨t, ht, ht'⟩ := get_lt hlk
            have ewk := wrap_succ' (i := k) (by omega)
            have htl := hcl t (List.mem_of_getElem? ht)
            simp [e2, e5, e8, e9, e10, hlk, ht, ht', encT]
            refine callS.pure _ (fun _ => ref07_HasText L t _ (.ro (texts_n _)) (by omega)) ?_
            simp [e2, e5, e8, e9, e10, hlk, ht, ht', encT, htl, ewk]
            exact ⟨k + 1, by omega, by omega, by omega⟩
          · have hgk' : ¬ (k : Int) < X.length := by omega
            rcases Nat.eq_zero_or_pos i with rfl | hpos
            · simp [e2, e5, e8, e9, e10, hgk', Nat.not_lt.2 hgk]
              refine ⟨by decide, callS.pure (.bool true) (fun c => by cases c) ?_⟩
              simp [e2, e5, e8, e9, e10, hgk', Nat.not_lt.2 hgk, show IntKind.i64.wrap 1 = 1 from rfl]
              exact ⟨1, by omega, by omega, by omega⟩
            · obtain ⟨j, hj⟩ : ∃ j, j + 1 = i := ⟨i - 1, by omega⟩
              obtain ⟨y, hy, hy'⟩ := get_lt (l := L) (i := j) (by omega)
              have hjl : j < L.length := by omega
              have ewm : IntKind.i64.wrap ((i : Int) - 1) = j := by rw [wrap64_of (by omega) (by omega)]; omega
              have hb := hls j y x hy (by rw [hj]; exact hx)
              have hys := hsh y (List.mem_of_getElem? hy)
              have hpos' : (0 : Int) < i := by omega
              simp [e2, e5, e8, e9, e10, hgk', Nat.not_lt.2 hgk, hpos, hpos', ewm, hjl, hy, hy', hlt, hx, hx', encT]
              refine ⟨by decide, ?_⟩
              refine callS.pure _ (fun _ => ref01_Before y x hys) ?_
              simp [e2, e5, e8, e9, e10, hgk', Nat.not_lt.2 hgk, hpos, hpos', ewm, hjl, hy, hy', hlt, hx, hx', encT, hb, ew]
              exact ⟨i + 1, by omega, by omega, by omega⟩
        · have hge' : ¬ (i : Int) < L.length := by omega
          simp [e2, e5, e8, hge', Nat.not_lt.2 hge]
          refine callS.pure _ (fun _ => law_awake) ?_
          simp
    · have hs' : (40 : Int) < s.length := by omega
      rw [hf]; simp [hs']
      refine callS.pure _ (fun _ => law_awake) ?_
      simp
  · rw [Bool.not_eq_true] at hf
    rw [hf]; simp
    refine callS.pure _ (fun _ => law_awake) ?_
    simp
end Go.Proofs.Ytonpmbppmmaheaa
