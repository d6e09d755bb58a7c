/-
  Contracts: the law of all paths, against the reference.
-/
import Derived.Test.YtonpmbppmmaheaaLaw07C
import Derived.Test.YtonpmbppmmaheaaGrG
import Derived.Test.YtonpmbppmmaheaaTollClosed
set_option linter.unusedVariables false
set_option linter.unusedSimpArgs false
set_option maxRecDepth 100000
namespace Go.Proofs.Ytonpmbppmmaheaa
open Go Go.Abs Go.Toll
variable {gl : Globs} {h : AHeap}

set_option maxHeartbeats 4000000 in
theorem law_Paths (n : Net) (a b : Bytes) : ACalls Try.prog gl 6 [.agg (encNet n), .str a, .str b] h fun v h' => v = .bool true := by
  refine ACalls.mono (ACalls.data (.bool true) (ACalls.body Try.f6 _ mixed Try.func6 rfl rfl (by simp [Try.ntmps6]) ?_)) fun _ _ h => h.1
  simp
  refine callS.pure _ (fun _ => law_few n) ?_
  by_cases hf : fewB n = true
  · have hl := fewB_len hf
    by_cases hs : a.length ≤ 40
    · have hs' : ¬ (40 : Int) < a.length := by omega
      by_cases ht : b.length ≤ 40
      · have ht' : ¬ (40 : Int) < b.length := by omega
        rw [hf]; simp [hs', ht']
        have ok := validN_ok n
        have hsp := (pathsM_spec ok a b).1
        have hat : ∀ q ∈ (pathsM (validN n) a b).1, q.length ≤ 16 := fun q hq => by
          obtain ⟨i, hi, e⟩ := List.mem_iff_getElem.1 hq
          obtain ⟨l, s, hp⟩ := path_at ok (a := a) (b := b) (i := i) (q := q) (by rw [List.getElem?_eq_getElem hi, e])
          exact hp.len
        have c1 := fun H : AHeap => graph_Paths (gl := gl) (h := H) n a b (by omega) (by omega)
        have c2 := fun H : AHeap => ref07_Paths (gl := gl) (h := H) n a b (by omega) (by omega)
        unfold pathsV at c1 c2
        generalize pathsM (validN n) a b = PE at *
        obtain ⟨L, E⟩ := PE
        simp only at hsp hat c1 c2
        refine callS.pure _ (fun _ => c1 _) ?_
        simp
        refine callS.pure _ (fun _ => c2 _) ?_
        simp
        refine callS.pure _ (fun _ => ref07_SamePaths L L (by omega) fun q hq => by have := hat q hq; omega) ?_
        simp
        refine callS.pure _ (fun _ => law_awake) ?_
        simp
      · have ht' : (40 : Int) < b.length := by omega
        rw [hf]; simp [hs', ht']
        refine callS.pure _ (fun _ => law_awake) ?_
        simp
    · have hs' : (40 : Int) < a.length := by omega
      rw [hf]; simp [hs']
      refine callS.pure _ (fun _ => law_awake) ?_
      simp
  · rw [Bool.not_eq_true] at hf
    rw [hf]; simp
    refine callS.pure _ (fun _ => law_awake) ?_
    simp
end Go.Proofs.Ytonpmbppmmaheaa
