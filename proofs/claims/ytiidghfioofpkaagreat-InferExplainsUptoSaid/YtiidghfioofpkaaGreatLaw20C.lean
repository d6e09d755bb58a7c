/-
  Contracts: the laws of the inference against the reference.
-/
import Derived.Test.YtiidghfioofpkaaGreatLaw20A
import Derived.Test.YtiidghfioofpkaaGreatTollDevShape
set_option linter.unusedVariables false
set_option linter.unusedSimpArgs false
set_option maxRecDepth 100000
namespace Go.Proofs.YtiidghfioofpkaaGreat
open Go Go.Abs Go.Toll
variable {gl : Globs} {h : AHeap}

theorem pass_len (l : List TPass) : ∀ e ∈ l.map encPass, e.length = 8 := fun e he => by
  obtain ⟨m, _, rfl⟩ := List.mem_map.1 he
  rfl
theorem text_len (l : List Bytes) : ∀ e ∈ l.map encT, e.length = 1 := fun e he => by
  obtain ⟨m, _, rfl⟩ := List.mem_map.1 he
  rfl
theorem num_len (l : List Int) : ∀ e ∈ l.map encNs, e.length = 1 := fun e he => by
  obtain ⟨m, _, rfl⟩ := List.mem_map.1 he
  rfl
theorem stop_len (l : List TStop) : ∀ e ∈ l.map encStop, e.length = 3 := fun e he => by
  obtain ⟨m, _, rfl⟩ := List.mem_map.1 he
  rfl
set_option maxHeartbeats 4000000 in
theorem law_Missing (t : Topo) (a b : TPass) : ACalls Tryz.prog gl 3 [.agg (encTopo t), .agg (encPass a), .agg (encPass b)] h fun v h' => v = .bool true := by
  refine ACalls.mono (ACalls.data (.bool true) (ACalls.body Tryz.f3 _ mixed Tryz.func3 rfl rfl (by simp [Tryz.ntmps3]) ?_)) fun _ _ h => h.1
  simp
  refine callS.pure _ (fun _ => law_few t) ?_
  by_cases hf : fewT t = true
  case neg =>
    rw [Bool.not_eq_true] at hf
    rw [hf]; simp
    refine callS.pure (.int .i64 0) (fun c => by cases c) ?_
    simp
    refine callS.pure _ (fun _ => law_awake) ?_
    simp
  obtain ⟨l1, l2, l3⟩ := fewT_len hf
  rw [hf]; simp
  refine callS.pure _ (fun _ => law_some [a, b] _ (Rs.own (b := h.length + 3) (es := [a, b].map encPass) (by simp [encPass]) (pass_len _)) (by simp)) ?_
  by_cases hs : someB [a, b] = true
  case neg =>
    rw [Bool.not_eq_true] at hs
    rw [hs]; simp
    refine callS.pure _ (fun _ => law_awake) ?_
    simp
  have c1 := fun H : AHeap => infer_Missing (gl := gl) (h := H) t a b (by omega) (by omega) (by omega)
  have c2 := fun H : AHeap => ref20_Missing (gl := gl) (h := H) t a b (by omega) (by omega) (by omega)
  have hml := miss_len (okT t) a.point b.point a.time b.time
  unfold missV at c1 c2
  generalize missM (validT t).net a.point b.point a.time b.time = R at *
  obtain ⟨m, E⟩ := R
  simp only at c1 c2 hml
  rw [hs]; simp
  refine callS.pure _ (fun _ => c1 _) ?_
  simp
  refine callS.pure _ (fun _ => c2 _) ?_
  simp
  refine callS.pure _ (fun _ => ref01_SameTexts m m (by omega) _ _ (Rs.ro (text_len _)) (Rs.ro (text_len _))) ?_
  simp
  refine callS.pure _ (fun _ => law_awake) ?_
  simp
theorem timesM_len (v : Net) (p : List Bytes) (s t : Int) : (timesM v p s t).1.length ≤ 16 := by
  unfold timesM
  split
  · simp
  split
  · simp
  split
  · simp
  · simp [timesL]; omega
set_option maxHeartbeats 4000000 in
theorem law_Times (t : Topo) (p : List Bytes) (s e : Int) (hpl : p.length ≤ 9223372036854775807) : ACalls Tryz.prog gl 4 [.agg (encTopo t), .agg [.ro (p.map encT), .int .i64 s, .int .i64 e]] h fun v h' => v = .bool true := by
  refine ACalls.mono (ACalls.data (.bool true) (ACalls.body Tryz.f4 _ mixed Tryz.func4 rfl rfl (by simp [Tryz.ntmps4]) ?_)) fun _ _ h => h.1
  simp
  refine callS.pure _ (fun _ => law_few t) ?_
  by_cases hf : fewT t = true
  case neg =>
    rw [Bool.not_eq_true] at hf
    rw [hf]; simp
    refine callS.pure (.int .i64 0) (fun c => by cases c) ?_
    simp
    refine callS.pure _ (fun _ => law_awake) ?_
    simp
  obtain ⟨l1, l2, l3⟩ := fewT_len hf
  rw [hf]; simp
  refine callS.pure _ (fun _ => law_short p hpl) ?_
  by_cases hs : short40 p = true
  case neg =>
    rw [Bool.not_eq_true] at hs
    rw [hs]; simp
    refine callS.pure _ (fun _ => law_awake) ?_
    simp
  have hp := short40_len hs
  have c1 := fun H : AHeap => infer_Times (gl := gl) (h := H) t p s e (by omega) (by omega) (by omega) (by omega)
  have c2 := fun H : AHeap => ref20_Times (gl := gl) (h := H) t p s e (by omega) (by omega) (by omega) (by omega)
  have hml := timesM_len (validT t).net p s e
  unfold timesV at c1 c2
  generalize timesM (validT t).net p s e = R at *
  obtain ⟨m, E⟩ := R
  simp only at c1 c2 hml
  rw [hs]; simp
  refine callS.pure _ (fun _ => c1 _) ?_
  simp
  refine callS.pure _ (fun _ => c2 _) ?_
  simp
  refine callS.pure _ (fun _ => ref20_SameNumbers m (by omega) _ _ (Rs.ro (num_len _)) (Rs.ro (num_len _))) ?_
  simp
  refine callS.pure _ (fun _ => law_awake) ?_
  simp
theorem stopsM_len {v : Net} (ok : NetOk v) (l : List TPass) : (stopsM v l).1.length ≤ 17 * l.length := by
  unfold stopsM
  split
  · simp
  · exact stopsI_len ok _
set_option maxHeartbeats 4000000 in
theorem law_Stops (t : Topo) (l : List TPass) (hpl : l.length ≤ 9223372036854775807) : ACalls Tryz.prog gl 5 [.agg (encTopo t), .ro (l.map encPass)] h fun v h' => v = .bool true := by
  refine ACalls.mono (ACalls.data (.bool true) (ACalls.body Tryz.f5 _ mixed Tryz.func5 rfl rfl (by simp [Tryz.ntmps5]) ?_)) fun _ _ h => h.1
  simp
  refine callS.pure _ (fun _ => law_few t) ?_
  by_cases hf : fewT t = true
  case neg =>
    rw [Bool.not_eq_true] at hf
    rw [hf]; simp
    refine callS.pure (.int .i64 0) (fun c => by cases c) ?_
    simp
    refine callS.pure _ (fun _ => law_awake) ?_
    simp
  obtain ⟨l1, l2, l3⟩ := fewT_len hf
  rw [hf]; simp
  refine callS.pure _ (fun _ => law_some l _ (Rs.ro (pass_len _)) hpl) ?_
  by_cases hs : someB l = true
  case neg =>
    rw [Bool.not_eq_true] at hs
    rw [hs]; simp
    refine callS.pure _ (fun _ => law_awake) ?_
    simp
  have hp := someB_len hs
  have c1 := fun H : AHeap => infer_Stops (gl := gl) (h := H) t l (by omega) (by omega) (by omega) (by omega)
  have c2 := fun H : AHeap => ref20_Stops (gl := gl) (h := H) t l (by omega) (by omega) (by omega) (by omega)
  have hml := stopsM_len (okT t) l
  unfold stopsV at c1 c2
  generalize stopsM (validT t).net l = R at *
  obtain ⟨m, E⟩ := R
  simp only at c1 c2 hml
  rw [hs]; simp
  refine callS.pure _ (fun _ => c1 _) ?_
  simp
  refine callS.pure _ (fun _ => c2 _) ?_
  simp
  refine callS.pure _ (fun _ => ref20_SameStops m (by omega) _ _ (Rs.ro (stop_len _)) (Rs.ro (stop_len _))) ?_
  simp
  refine callS.pure _ (fun _ => infer_Inferred m (by omega)) ?_
  simp
  refine callS.pure _ (fun _ => ref20_Inferred m (by omega)) ?_
  simp
  refine callS.pure _ (fun _ => law_awake) ?_
  simp
theorem law_Explains (l : List TDev) (s : Bytes) (t : Int) (hd : ∀ d ∈ l, (∀ e ∈ d.offs, e.length = 2) ∧ (∀ e ∈ d.offs, ∀ y ∈ e, y.Data) ∧ d.offs.length ≤ 1048576 ∧ d.down.length ≤ 1048576) (hn : l.length ≤ 1048576) (hs : s.length ≤ 1048576) : ACalls Tryz.prog gl 6 [.ro (l.map encDev), .str s, .int .i64 t] h fun v h' => v = .bool true := by
  refine ACalls.mono (ACalls.data (.bool true) (ACalls.body Tryz.f6 _ mixed Tryz.func6 rfl rfl (by simp [Tryz.ntmps6]) ?_)) fun _ _ h => h.1
  by_cases c1 : 10 < l.length
  · have c1' : (10 : Int) < l.length := by omega
    simp [c1']
    refine callS.pure _ (fun _ => law_awake) ?_
    simp
  have c1' : ¬ (10 : Int) < l.length := by omega
  by_cases c2 : 40 < s.length
  · have c2' : (40 : Int) < s.length := by omega
    simp [c1', c2']
    refine callS.pure _ (fun _ => law_awake) ?_
    simp
  have c2' : ¬ (40 : Int) < s.length := by omega
  simp [c1', c2']
  refine AWP.up mixed l.length (fun i fr H => fr 0 = .ro (l.map encDev) ∧ fr 1 = .str s ∧ fr 2 = .int .i64 t ∧ fr 7 = .int .i64 i ∧ (∀ d ∈ l.take i, d.down.length ≤ 10) ∧ H = h) 0 (by omega) ⟨by simp, by simp, by simp, by simp, by simp, rfl⟩ ?_
  rintro i fr H hi ⟨e0, e1, e2, e7, hf, rfl⟩
  rcases Nat.lt_or_ge i l.length with hlt | hge
  · obtain ⟨d, hp, hp'⟩ := get_lt hlt
    have ew := wrap_succ' (i := i) (by omega)
    by_cases q1 : 10 < d.down.length
    · have q1' : (10 : Int) < d.down.length := by omega
      simp [encDev, e0, e1, e2, e7, hlt, hp, hp', q1']
      refine callS.pure _ (fun _ => law_awake) ?_
      simp
    have q1' : ¬ (10 : Int) < d.down.length := by omega
    by_cases q2 : 40 < d.name.length
    · have q2' : (40 : Int) < d.name.length := by omega
      simp [encDev, e0, e1, e2, e7, hlt, hp, hp', q1', q2']
      refine callS.pure _ (fun _ => law_awake) ?_
      simp
    have q2' : ¬ (40 : Int) < d.name.length := by omega
    by_cases q3 : 40 < d.point.length
    · have q3' : (40 : Int) < d.point.length := by omega
      simp [encDev, e0, e1, e2, e7, hlt, hp, hp', q1', q2', q3']
      refine callS.pure _ (fun _ => law_awake) ?_
      simp
    have q3' : ¬ (40 : Int) < d.point.length := by omega
    simp [encDev, e0, e1, e2, e7, hlt, hp, hp', q1', q2', q3', ew]
    refine ⟨i + 1, by omega, by omega, by omega, fun d' hd' => ?_⟩
    rw [List.take_add_one, hp] at hd'
    rcases List.mem_append.1 hd' with hd' | hd'
    · exact hf d' hd'
    · simp at hd'; subst hd'; omega
  · obtain rfl : i = l.length := by omega
    rw [List.take_length] at hf
    have ok : ∀ d ∈ l, DevOk d := fun d hm => ⟨(hd d hm).1, (hd d hm).2.1, (hd d hm).2.2.1, by have := hf d hm; omega⟩
    simp [e0, e1, e2, e7]
    refine callS.pure _ (fun _ => infer_Explained l s t (by omega) ok hf) ?_
    simp [e0, e1, e2]
    refine callS.pure _ (fun _ => ref20_Explained l s t (by omega) ok hf) ?_
    simp
    refine callS.pure _ (fun _ => law_awake) ?_
    simp
end Go.Proofs.YtiidghfioofpkaaGreat
