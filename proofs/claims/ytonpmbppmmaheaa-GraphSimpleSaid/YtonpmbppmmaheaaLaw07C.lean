/-
  Contracts: the laws of points, best paths and durations.
-/
import Derived.Test.YtonpmbppmmaheaaLaw07B
set_option linter.unusedVariables false
set_option linter.unusedSimpArgs false
set_option maxRecDepth 100000
namespace Go.Proofs.Ytonpmbppmmaheaa
open Go Go.Abs Go.Toll
variable {gl : Globs} {h : AHeap}

theorem law_Checks (n : Net) : ACalls Try.prog gl 3 [.agg (encNet n)] h fun v h' => v = .bool true := by
  refine ACalls.mono (ACalls.data (.bool true) (ACalls.body Try.f3 _ mixed Try.func3 rfl rfl (by simp [Try.ntmps3]) ?_)) fun _ _ h => h.1
  simp
  refine callS.pure _ (fun _ => law_few n) ?_
  by_cases hf : fewB n = true
  · have hl := fewB_len hf
    rw [hf]; simp
    refine ⟨by decide, ?_⟩
    refine callS.pure _ (fun _ => graph_Check n (by omega) (by omega)) ?_
    simp
    refine callS.pure _ (fun _ => ref07_Check n (by omega) (by omega)) ?_
    simp
    refine callS.pure _ (fun _ => law_awake) ?_
    simp
  · rw [Bool.not_eq_true] at hf
    rw [hf]; simp
    refine callS.pure _ (fun _ => law_awake) ?_
    simp
set_option maxHeartbeats 4000000 in
theorem law_Looks (n : Net) (s : Bytes) : ACalls Try.prog gl 4 [.agg (encNet n), .str s] h fun v h' => v = .bool true := by
  refine ACalls.mono (ACalls.data (.bool true) (ACalls.body Try.f4 _ mixed Try.func4 rfl rfl (by simp [Try.ntmps4]) ?_)) fun _ _ h => h.1
  simp
  refine callS.pure _ (fun _ => law_few n) ?_
  by_cases hf : fewB n = true
  · have hl := fewB_len hf
    by_cases hs : s.length ≤ 40
    · have hs' : ¬ (40 : Int) < s.length := by omega
      rw [hf]; simp [hs']
      refine callS.pure _ (fun _ => graph_Find n s (by omega) (by omega)) ?_
      simp
      refine callS.pure _ (fun _ => ref07_Find n s (by omega) (by omega)) ?_
      have hpt := fun H : AHeap => ref07_SamePoint (gl := gl) (h := H) ((findPt n s).getD pt0) ((findPt n s).getD pt0)
      generalize (findPt n s).getD pt0 = P at *
      simp
      refine ⟨by decide, ?_⟩
      refine callS.pure _ (fun _ => hpt _) ?_
      simp
      refine callS.pure _ (fun _ => graph_Next n s (by omega) (by omega)) ?_
      simp
      refine callS.pure _ (fun _ => ref07_Next n s (by omega) (by omega)) ?_
      simp
      have hnl : (nextL (validN n) s).length ≤ 1000000 := by
        have := lksOf_len (validN n) s
        have := (validN_ok n).llen
        rw [nextL, List.length_map]; omega
      refine callS.pure _ (fun _ => ref01_SameTexts (nextL (validN n) s) (nextL (validN n) s) hnl _ _ (.ro (texts_n _)) (.ro (texts_n _))) ?_
      simp
      refine callS.pure _ (fun _ => graph_Reaches n s (by omega) (by omega)) ?_
      simp
      refine callS.pure _ (fun _ => ref07_Reaches n s (by omega) (by omega)) ?_
      simp
      have hrl : (reachL (validN n) s).length ≤ 1000000 := by
        have h1 := rchI_len (v := validN n) (validN_ok n).llen s (validN n).pts.length 0 (by omega)
        have h2 := (validN_ok n).plen
        rw [rchI_zero] at h1
        unfold reachL
        split
        · omega
        · simp
      refine callS.pure _ (fun _ => ref01_SameTexts (reachL (validN n) s) (reachL (validN n) s) hrl _ _ (.ro (texts_n _)) (.ro (texts_n _))) ?_
      simp
      refine callS.pure _ (fun _ => law_awake) ?_
      simp
    · have hs' : (40 : Int) < s.length := by omega
      rw [hf]; simp [hs']
      refine callS.pure _ (fun _ => law_awake) ?_
      simp
  · rw [Bool.not_eq_true] at hf
    rw [hf]; simp
    refine callS.pure _ (fun _ => law_awake) ?_
    simp
theorem bestP_len {n : Net} {a b : Bytes} {p : List Bytes} {d : Int} (h : bestP (validN n) a b = some (p, d)) : p.length ≤ 64 ∧ ∃ l, p = a :: l ∧ IsBest (validN n) a b l d ∧ hasPt (validN n).pts a = true ∧ hasPt (validN n).pts b = true := by
  have ok := validN_ok n
  rcases bestP_spec ok a b with ⟨l, d', e, hb, ha, hb'⟩ | ⟨e, _⟩
  · rw [h] at e
    obtain ⟨rfl, rfl⟩ : p = a :: l ∧ d = d' := by injection e with e; injection e with e1 e2; exact ⟨e1, e2⟩
    obtain ⟨s, hs, _⟩ := hb.walk
    have := simple_len ok hs ha (hb.simple ok)
    have := ok.plen
    exact ⟨by simp; omega, l, rfl, hb, ha, hb'⟩
  · rw [h] at e; cases e
set_option maxHeartbeats 4000000 in
theorem law_Shortest (n : Net) (a b : Bytes) : ACalls Try.prog gl 5 [.agg (encNet n), .str a, .str b] h fun v h' => v = .bool true := by
  refine ACalls.mono (ACalls.data (.bool true) (ACalls.body Try.f5 _ mixed Try.func5 rfl rfl (by simp [Try.ntmps5]) ?_)) fun _ _ h => h.1
  simp
  refine callS.pure _ (fun _ => law_few n) ?_
  by_cases hf : fewB n = true
  · have hl := fewB_len hf
    by_cases hs : a.length ≤ 40
    · have hs' : ¬ (40 : Int) < a.length := by omega
      by_cases ht : b.length ≤ 40
      · have ht' : ¬ (40 : Int) < b.length := by omega
        rw [hf]; simp [hs', ht']
        have c1 := fun H : AHeap => graph_Shortest (gl := gl) (h := H) n a b (by omega) (by omega)
        have c2 := fun H : AHeap => ref07_Shortest (gl := gl) (h := H) n a b (by omega) (by omega)
        unfold bestV at c1 c2
        rcases hb : bestP (validN n) a b with _ | ⟨p, d⟩
        · rw [hb] at c1 c2
          refine callS.pure _ (fun _ => c1 _) ?_
          simp
          refine callS.pure _ (fun _ => c2 _) ?_
          simp
          refine callS.pure _ (fun _ => ref01_SameTexts [] [] (by simp) _ _ (.ro (by simp)) (.ro (by simp))) ?_
          simp
          refine callS.pure _ (fun _ => law_awake) ?_
          simp
        · rw [hb] at c1 c2
          have hpl := (bestP_len hb).1
          refine callS.pure _ (fun _ => c1 _) ?_
          simp
          refine callS.pure _ (fun _ => c2 _) ?_
          simp
          refine callS.pure _ (fun _ => ref01_SameTexts p p (by omega) _ _ (.ro (texts_n _)) (.ro (texts_n _))) ?_
          simp
          refine callS.pure _ (fun _ => law_awake) ?_
          simp
      · have ht' : (40 : Int) < b.length := by omega
        rw [hf]; simp [hs', ht']
        refine callS.pure _ (fun _ => law_awake) ?_
        simp
    · have hs' : (40 : Int) < a.length := by omega
      rw [hf]; simp [hs']
      refine callS.pure _ (fun _ => law_awake) ?_
      simp
  · rw [Bool.not_eq_true] at hf
    rw [hf]; simp
    refine callS.pure _ (fun _ => law_awake) ?_
    simp
set_option maxHeartbeats 4000000 in
theorem law_Bounds (n : Net) (p : List Bytes) : ACalls Try.prog gl 7 [.agg (encNet n), .ro (p.map encT)] h fun v h' => v = .bool true := by
  refine ACalls.mono (ACalls.data (.bool true) (ACalls.body Try.f7 _ mixed Try.func7 rfl rfl (by simp [Try.ntmps7]) ?_)) fun _ _ h => h.1
  simp
  refine callS.pure _ (fun _ => law_few n) ?_
  by_cases hf : fewB n = true
  · have hl := fewB_len hf
    by_cases hs : p.length ≤ 100
    · have hs' : ¬ (100 : Int) < p.length := by omega
      rw [hf]; simp [hs']
      refine AWP.up mixed p.length (fun i fr H => fr 1 = .ro (p.map encT) ∧ fr 2 = .ptr h.length 0 0 ∧ fr 5 = .int .i64 i ∧ H = h ++ [.cells 2 [encNet n]]) 0 (by omega) ⟨by simp, by simp, by simp, by simp⟩ ?_
      rintro i fr H hi ⟨e1, e2, e5, rfl⟩
      rcases Nat.lt_or_ge i p.length with hlt | hge
      · obtain ⟨s, hs, hs'⟩ := get_lt hlt
        have ew := wrap_succ' (i := i) (by omega)
        by_cases hq : s.length ≤ 40
        · have hq' : ¬ (40 : Int) < s.length := by omega
          simp [e1, e2, e5, hlt, hs, hs', encT, hq', ew]
          exact ⟨i + 1, by omega, by omega, by omega⟩
        · have hq' : (40 : Int) < s.length := by omega
          simp [e1, e2, e5, hlt, hs, hs', encT, hq', ew]
          refine callS.pure _ (fun _ => law_awake) ?_
          simp
      · have hge' : ¬ (i : Int) < p.length := by omega
        simp [e1, e2, e5, hge', Nat.not_lt.2 hge]
        refine callS.pure _ (fun _ => graph_Bounds n p (by omega) (by omega) (by omega)) ?_
        simp [e1, e2, e5]
        refine callS.pure _ (fun _ => ref07_Bounds n p (by omega) (by omega) (by omega)) ?_
        simp [e1, e2, e5]
        refine callS.pure _ (fun _ => law_awake) ?_
        simp
    · have hs' : (100 : Int) < p.length := by omega
      rw [hf]; simp [hs']
      refine callS.pure _ (fun _ => law_awake) ?_
      simp
  · rw [Bool.not_eq_true] at hf
    rw [hf]; simp
    refine callS.pure _ (fun _ => law_awake) ?_
    simp
end Go.Proofs.Ytonpmbppmmaheaa
