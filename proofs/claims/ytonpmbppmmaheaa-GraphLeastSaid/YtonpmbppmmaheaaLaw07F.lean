/-
  Contracts: the law of the best path, without the reference.
-/
import Derived.Test.YtonpmbppmmaheaaLaw07C
import Derived.Test.YtonpmbppmmaheaaTollClosed
set_option linter.unusedVariables false
set_option linter.unusedSimpArgs false
set_option maxRecDepth 100000
namespace Go.Proofs.Ytonpmbppmmaheaa
open Go Go.Abs Go.Toll
variable {gl : Globs} {h : AHeap}

set_option maxHeartbeats 8000000 in
theorem law_Least (n : Net) (a b : Bytes) : ACalls Try.prog gl 8 [.agg (encNet n), .str a, .str b] h fun v h' => v = .bool true := by
  refine ACalls.mono (ACalls.data (.bool true) (ACalls.body Try.f8 _ mixed Try.func8 rfl rfl (by simp [Try.ntmps8]) ?_)) fun _ _ h => h.1
  simp
  refine callS.pure _ (fun _ => law_few n) ?_
  by_cases hf : fewB n = true
  · have hl := fewB_len hf
    by_cases hs : a.length ≤ 40
    · have hs' : ¬ (40 : Int) < a.length := by omega
      by_cases ht : b.length ≤ 40
      · have ht' : ¬ (40 : Int) < b.length := by omega
        rw [hf]; simp [hs', ht']
        have ok := validN_ok n
        have hrl := reach_len ok a
        have c1 := fun H : AHeap => graph_Shortest (gl := gl) (h := H) n a b (by omega) (by omega)
        have c3 := fun H : AHeap => graph_Paths (gl := gl) (h := H) n a b (by omega) (by omega)
        unfold bestV at c1
        unfold pathsV at c3
        rcases hb : bestP (validN n) a b with _ | ⟨p, d⟩
        · rw [hb] at c1
          have hno := best_no ok hb
          refine callS.pure _ (fun _ => c1 _) ?_
          simp
          refine callS.pure _ (fun _ => graph_Reaches n a (by omega) (by omega)) ?_
          simp
          refine callS.pure _ (fun _ => ref07_HasText (reachL (validN n) a) b _ (.ro (texts_n _)) (by omega)) ?_
          simp [hno]
          refine callS.pure _ (fun _ => law_awake) ?_
          simp
        · rw [hb] at c1
          obtain ⟨hpl, l, hpe, hbest, ha, hbp⟩ := bestP_len hb
          have hyes := best_yes ok hbest ha
          obtain ⟨sb, hsw, hsd⟩ := hbest.walk
          obtain ⟨hbd, hpp⟩ := bounds_wk ok ha hsw
          rw [← hpe, hsd] at hbd
          rw [← hpe] at hpp
          have hlast := last_end a l
          rw [hbest.ends, ← hpe] at hlast
          have hlast' := (List.getElem?_eq_some_iff.1 hlast).2
          have hfst : p[0]? = some a := by rw [hpe]; rfl
          have hfst' := (List.getElem?_eq_some_iff.1 hfst).2
          have hqn : p.length = l.length + 1 := by rw [hpe]; rfl
          have hne : p ≠ [] := by rw [hpe]; simp
          have hll : l.length < p.length := by omega
          have ewl : IntKind.i64.wrap ((p.length : Int) - 1) = (l.length : Int) := by rw [wrap64_of (by omega) (by omega)]; omega
          have h1 : ¬ (p.length : Int) = 0 := by omega
          have h2 : 0 < p.length := by omega
          have hhd : ∀ hh : p ≠ [], p.head hh = a := fun hh => by subst hpe; rfl
          have hhd' : p.head? = some a := by rw [hpe]; rfl
          have hsp := (pathsM_spec ok a b).1
          have herr := pathsM_err (validN n) a b
          have hsome : (pathsM (validN n) a b).2 = 0 → p.length ≤ 16 → (pathsM (validN n) a b).1 ≠ [] := fun q1 q2 => pathsM_some ok q1 hsw hbest.ends (hbest.simple ok) (by omega)
          have hat : ∀ (i : Nat) q, (pathsM (validN n) a b).1[i]? = some q → ∃ l s, PathAt (validN n) a b q l s := fun i q => path_at ok
          refine callS.pure _ (fun _ => c1 _) ?_
          simp
          refine callS.pure _ (fun _ => graph_Reaches n a (by omega) (by omega)) ?_
          simp
          refine callS.pure _ (fun _ => ref07_HasText (reachL (validN n) a) b _ (.ro (texts_n _)) (by omega)) ?_
          simp [hyes]
          refine callS.pure _ (fun _ => graph_Bounds n p (by omega) (by omega) (by omega)) ?_
          rw [hbd]
          simp [encT, hlast, hlast', hfst, hfst', hne, hll, ewl, h1, h2, hhd, hhd']
          refine callS.pure _ (fun _ => c3 _) ?_
          clear c1 c3
          generalize pathsM (validN n) a b = PE at *
          obtain ⟨L, E⟩ := PE
          simp only at hsp herr hat hsome ⊢
          have hlen : E = 0 → p.length ≤ 16 → ¬ L.length = 0 := fun q1 q2 q3 => hsome q1 q2 (List.length_eq_zero_iff.1 q3)
          have hpl' : (p.length : Int) ≤ 16 ↔ p.length ≤ 16 := by omega
          by_cases hE : E = 0
          · subst hE
            by_cases hp16 : p.length ≤ 16
            · have hL := hlen rfl hp16
              have hL' : L ≠ [] := fun e => hL (by rw [e]; rfl)
              simp [hpl', hp16, hL, hL']
              refine AWP.up mixed L.length (fun i fr H => fr 3 = .ptr h.length 0 0 ∧ fr 7 = .ro (p.map encT) ∧ fr 8 = .int .i64 d ∧ fr 13 = .ro (L.map encPa) ∧ fr 15 = .int .i64 i ∧ H = h ++ [.cells 2 [encNet n]]) 0 (by omega) ⟨by simp, by simp [encT], by simp, by simp, by simp, by simp⟩ ?_
              rintro i fr H hi ⟨e3, e7, e8, e13, e15, rfl⟩
              rcases Nat.lt_or_ge i L.length with hlt | hge
              · obtain ⟨q, hq, hq'⟩ := get_lt hlt
                have ew := wrap_succ' (i := i) (by omega)
                obtain ⟨l', s', hpt⟩ := hat i q hq
                have hql := hpt.len
                have hqs : ∀ s ∈ q, shortS s := fun s hs => shortN ok (hpt.pts s hs)
                obtain ⟨hle, hbp2⟩ := best_path hbest hpt
                rw [← hpe] at hbp2
                have hle' : ¬ s'.1 < d := by omega
                simp [e3, e7, e8, e13, e15, hlt, hq, hq', encPa]
                refine ⟨by decide, ?_⟩
                refine callS.pure _ (fun _ => graph_Bounds n q (by omega) (by omega) (by omega)) ?_
                rw [hpt.bnd]
                by_cases hsd2 : s'.1 = d
                · obtain ⟨hq1, hq2⟩ := hbp2 hsd2
                  have hq1' : ¬ q.length < p.length := by omega
                  have hq1'' : ¬ (q.length : Int) < p.length := by omega
                  by_cases hlq : q.length = p.length
                  · have hlq' : (q.length : Int) = p.length := by omega
                    have hpc := hq2 (by omega)
                    have hpc' : ¬ pcmp q p < 0 := by omega
                    simp [e3, e7, e8, e13, e15, hlt, hq, hq', encPa, hsd2, hlq]
                    refine callS.pure _ (fun _ => ref07_PathBefore q p (by omega) hqs _ _ (.ro (texts_n _)) (.ro (texts_n _)) (by omega)) ?_
                    simp [e3, e7, e8, e13, e15, hlt, hq, hq', encPa, hpc', ew]
                    exact ⟨i + 1, by omega, by omega, by omega⟩
                  · have hlq' : ¬ (q.length : Int) = p.length := by omega
                    simp [e3, e7, e8, e13, e15, hlt, hq, hq', encPa, hsd2, hlq, hlq', hq1', hq1'']
                    refine callS.pure (.int .i64 0) (fun c => by simp [hlq', hsd2, hq1'] at c) ?_
                    simp [e3, e7, e8, e13, e15, hlt, hq, hq', encPa, ew, hsd2, hlq, hlq', hq1', hq1'']
                    exact ⟨i + 1, by omega, by omega, by omega⟩
                · simp [e3, e7, e8, e13, e15, hlt, hq, hq', encPa, hsd2, hle']
                  refine callS.pure (.int .i64 0) (fun c => by simp [hsd2] at c) ?_
                  simp [e3, e7, e8, e13, e15, hlt, hq, hq', encPa, ew, hsd2, hle']
                  exact ⟨i + 1, by omega, by omega, by omega⟩
              · have hge' : ¬ (i : Int) < L.length := by omega
                simp [e3, e7, e8, e13, e15, hge', Nat.not_lt.2 hge]
                refine callS.pure _ (fun _ => law_awake) ?_
                simp
            · simp [hpl', hp16]
              refine AWP.up mixed L.length (fun i fr H => fr 3 = .ptr h.length 0 0 ∧ fr 7 = .ro (p.map encT) ∧ fr 8 = .int .i64 d ∧ fr 13 = .ro (L.map encPa) ∧ fr 15 = .int .i64 i ∧ H = h ++ [.cells 2 [encNet n]]) 0 (by omega) ⟨by simp, by simp [encT], by simp, by simp, by simp, by simp⟩ ?_
              rintro i fr H hi ⟨e3, e7, e8, e13, e15, rfl⟩
              rcases Nat.lt_or_ge i L.length with hlt | hge
              · obtain ⟨q, hq, hq'⟩ := get_lt hlt
                have ew := wrap_succ' (i := i) (by omega)
                obtain ⟨l', s', hpt⟩ := hat i q hq
                have hql := hpt.len
                have hqs : ∀ s ∈ q, shortS s := fun s hs => shortN ok (hpt.pts s hs)
                obtain ⟨hle, hbp2⟩ := best_path hbest hpt
                rw [← hpe] at hbp2
                have hle' : ¬ s'.1 < d := by omega
                simp [e3, e7, e8, e13, e15, hlt, hq, hq', encPa]
                refine ⟨by decide, ?_⟩
                refine callS.pure _ (fun _ => graph_Bounds n q (by omega) (by omega) (by omega)) ?_
                rw [hpt.bnd]
                by_cases hsd2 : s'.1 = d
                · obtain ⟨hq1, hq2⟩ := hbp2 hsd2
                  have hq1' : ¬ q.length < p.length := by omega
                  have hq1'' : ¬ (q.length : Int) < p.length := by omega
                  by_cases hlq : q.length = p.length
                  · have hlq' : (q.length : Int) = p.length := by omega
                    have hpc := hq2 (by omega)
                    have hpc' : ¬ pcmp q p < 0 := by omega
                    simp [e3, e7, e8, e13, e15, hlt, hq, hq', encPa, hsd2, hlq]
                    refine callS.pure _ (fun _ => ref07_PathBefore q p (by omega) hqs _ _ (.ro (texts_n _)) (.ro (texts_n _)) (by omega)) ?_
                    simp [e3, e7, e8, e13, e15, hlt, hq, hq', encPa, hpc', ew]
                    exact ⟨i + 1, by omega, by omega, by omega⟩
                  · have hlq' : ¬ (q.length : Int) = p.length := by omega
                    simp [e3, e7, e8, e13, e15, hlt, hq, hq', encPa, hsd2, hlq, hlq', hq1', hq1'']
                    refine callS.pure (.int .i64 0) (fun c => by simp [hlq', hsd2, hq1'] at c) ?_
                    simp [e3, e7, e8, e13, e15, hlt, hq, hq', encPa, ew, hsd2, hlq, hlq', hq1', hq1'']
                    exact ⟨i + 1, by omega, by omega, by omega⟩
                · simp [e3, e7, e8, e13, e15, hlt, hq, hq', encPa, hsd2, hle']
                  refine callS.pure (.int .i64 0) (fun c => by simp [hsd2] at c) ?_
                  simp [e3, e7, e8, e13, e15, hlt, hq, hq', encPa, ew, hsd2, hle']
                  exact ⟨i + 1, by omega, by omega, by omega⟩
              · have hge' : ¬ (i : Int) < L.length := by omega
                simp [e3, e7, e8, e13, e15, hge', Nat.not_lt.2 hge]
                refine callS.pure _ (fun _ => law_awake) ?_
                simp
          · obtain rfl := herr hE
            simp [hE]
            refine AWP.up mixed 0 (fun i fr H => fr 3 = .ptr h.length 0 0 ∧ fr 13 = .ro [] ∧ fr 15 = .int .i64 i ∧ H = h ++ [.cells 2 [encNet n]]) 0 (by omega) ⟨by simp, by simp, by simp, by simp⟩ ?_
            rintro i fr H hi ⟨e3, e13, e15, rfl⟩
            obtain rfl : i = 0 := by omega
            simp [e3, e13, e15]
            refine callS.pure _ (fun _ => law_awake) ?_
            simp
      · have ht' : (40 : Int) < b.length := by omega
        rw [hf]; simp [hs', ht']
        refine callS.pure _ (fun _ => law_awake) ?_
        simp
    · have hs' : (40 : Int) < a.length := by omega
      rw [hf]; simp [hs']
      refine callS.pure _ (fun _ => law_awake) ?_
      simp
  · rw [Bool.not_eq_true] at hf
    rw [hf]; simp
    refine callS.pure _ (fun _ => law_awake) ?_
    simp
end Go.Proofs.Ytonpmbppmmaheaa
