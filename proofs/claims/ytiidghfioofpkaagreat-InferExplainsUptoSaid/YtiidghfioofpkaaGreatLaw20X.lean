/-
  Contract: the law of outages that explain a missing passage.
-/
import Derived.Test.YtiidghfioofpkaaGreatLaw20C
set_option linter.unusedVariables false
set_option linter.unusedSimpArgs false
set_option maxRecDepth 100000
namespace Go.Proofs.YtiidghfioofpkaaGreat
open Go Go.Abs Go.Toll
variable {gl : Globs} {h : AHeap}

theorem law_ExplainsN (l : List TDev) (s : Bytes) (t : Int) (hd : ∀ d ∈ l, (∀ e ∈ d.offs, e.length = 2) ∧ (∀ e ∈ d.offs, ∀ y ∈ e, y.Data) ∧ d.offs.length ≤ 1048576 ∧ d.down.length ≤ 1048576) (hn : l.length ≤ 1048576) : ACalls Tryz.prog gl 6 [.ro (l.map encDev), .str s, .int .i64 t] h fun v h' => v = .bool true := by
  refine ACalls.mono (ACalls.data (.bool true) (ACalls.body Tryz.f6 _ mixed Tryz.func6 rfl rfl (by simp [Tryz.ntmps6]) ?_)) fun _ _ h => h.1
  by_cases c1 : 10 < l.length
  · have c1' : (10 : Int) < l.length := by omega
    simp [c1']
    refine callS.pure _ (fun _ => law_awake) ?_
    simp
  have c1' : ¬ (10 : Int) < l.length := by omega
  by_cases c2 : 40 < s.length
  · have c2' : (40 : Int) < s.length := by omega
    simp [c1', c2']
    refine callS.pure _ (fun _ => law_awake) ?_
    simp
  have c2' : ¬ (40 : Int) < s.length := by omega
  simp [c1', c2']
  refine AWP.up mixed l.length (fun i fr H => fr 0 = .ro (l.map encDev) ∧ fr 1 = .str s ∧ fr 2 = .int .i64 t ∧ fr 7 = .int .i64 i ∧ (∀ d ∈ l.take i, d.down.length ≤ 10) ∧ H = h) 0 (by omega) ⟨by simp, by simp, by simp, by simp, by simp, rfl⟩ ?_
  rintro i fr H hi ⟨e0, e1, e2, e7, hf, rfl⟩
  rcases Nat.lt_or_ge i l.length with hlt | hge
  · obtain ⟨d, hp, hp'⟩ := get_lt hlt
    have ew := wrap_succ' (i := i) (by omega)
    by_cases q1 : 10 < d.down.length
    · have q1' : (10 : Int) < d.down.length := by omega
      simp [encDev, e0, e1, e2, e7, hlt, hp, hp', q1']
      refine callS.pure _ (fun _ => law_awake) ?_
      simp
    have q1' : ¬ (10 : Int) < d.down.length := by omega
    by_cases q2 : 40 < d.name.length
    · have q2' : (40 : Int) < d.name.length := by omega
      simp [encDev, e0, e1, e2, e7, hlt, hp, hp', q1', q2']
      refine callS.pure _ (fun _ => law_awake) ?_
      simp
    have q2' : ¬ (40 : Int) < d.name.length := by omega
    by_cases q3 : 40 < d.point.length
    · have q3' : (40 : Int) < d.point.length := by omega
      simp [encDev, e0, e1, e2, e7, hlt, hp, hp', q1', q2', q3']
      refine callS.pure _ (fun _ => law_awake) ?_
      simp
    have q3' : ¬ (40 : Int) < d.point.length := by omega
    simp [encDev, e0, e1, e2, e7, hlt, hp, hp', q1', q2', q3', ew]
    refine ⟨i + 1, by omega, by omega, by omega, fun d' hd' => ?_⟩
    rw [List.take_add_one, hp] at hd'
    rcases List.mem_append.1 hd' with hd' | hd'
    · exact hf d' hd'
    · simp at hd'; subst hd'; omega
  · obtain rfl : i = l.length := by omega
    rw [List.take_length] at hf
    have ok : ∀ d ∈ l, DevOk d := fun d hm => ⟨(hd d hm).1, (hd d hm).2.1, (hd d hm).2.2.1, by have := hf d hm; omega⟩
    simp [e0, e1, e2, e7]
    refine callS.pure _ (fun _ => infer_Explained l s t (by omega) ok hf) ?_
    simp [e0, e1, e2]
    refine callS.pure _ (fun _ => ref20_Explained l s t (by omega) ok hf) ?_
    simp
    refine callS.pure _ (fun _ => law_awake) ?_
    simp
end Go.Proofs.YtiidghfioofpkaaGreat
