/-
  Contracts: the laws of tables.
-/
import Derived.Test.YtmnmbkcdjpidgaaAwake15
import Derived.Test.YtmnmbkcdjpidgaaTollSeenShape
set_option linter.unusedVariables false
set_option linter.unusedSimpArgs false
set_option maxRecDepth 100000
namespace Go.Proofs.Ytmnmbkcdjpidgaa
open Go Go.Abs Go.Toll
variable {gl : Globs} {h : AHeap}

theorem great_ok {l : List TSeen} (h : greatB l = false) : l.length ≤ 30 ∧ ∀ s ∈ l, mid s.time := by
  simp only [greatB, Bool.or_eq_false_iff, decide_eq_false_iff_not, List.any_eq_false] at h
  refine ⟨by omega, fun s hs => mid_time ?_⟩
  have := h.2 s hs
  simp [spoilB] at this
  exact this.1
theorem law_Matrices (T Q : List (List TSeen)) : ACalls Try.prog gl 5 [encGs T, encGs Q] h fun v h' => v = .bool true := by
  refine ACalls.mono (ACalls.data (.bool true) (ACalls.body Try.f5 _ mixed Try.func5 rfl rfl (by simp [Try.ntmps5]) ?_)) fun _ _ h => h.1
  have tl : ∀ T : List (List TSeen), (T.map fun g => [AV.ro (g.map encSeen)]).length = T.length := by simp
  simp [-appendOk, -appendK, encGs]
  refine ⟨fun _ => ?_, fun c1 c2 => ?_⟩
  · refine callS.pure _ (fun _ => law_awake) ?_
    simp
  · obtain ⟨GT, hGT⟩ : ∃ G, G = T.map fun g => [AV.ro (g.map encSeen)] := ⟨_, rfl⟩
    obtain ⟨GQ, hGQ⟩ : ∃ G, G = Q.map fun g => [AV.ro (g.map encSeen)] := ⟨_, rfl⟩
    have l1 : GT.length = T.length := by rw [hGT]; simp
    have l2 : GQ.length = Q.length := by rw [hGQ]; simp
    have n1 : ∀ e ∈ GT, e.length = 1 := fun e he => by rw [hGT] at he; obtain ⟨_, _, rfl⟩ := List.mem_map.1 he; rfl
    have n2 : ∀ e ∈ GQ, e.length = 1 := fun e he => by rw [hGQ] at he; obtain ⟨_, _, rfl⟩ := List.mem_map.1 he; rfl
    rw [← hGT, ← hGQ]
    refine append_new (lo := h.length) (n := 1) (es := []) (ys := GT) (Ls.own (b := h.length) (by simp) (by omega) rfl (by simp)) (by simp) (appOk_rs (Rs.ro n1) (by simp) (by simp) (by simp)) (by simp; omega) ?_
    intro s1 h1 hs1 hg1 _
    have f1 := hs1.rs.fix
    obtain ⟨t1, rfl⟩ := hg1.base h (by simp) ⟨_, by simp; rfl⟩
    rw [List.nil_append] at hs1
    simp [-appendOk, -appendK, f1]
    refine append_new (lo := h.length) (n := 1) (es := GT) (ys := GQ) hs1 (by simp) (appOk_rs (Rs.ro n2) (by simp) (by simp) (by simp)) (by omega) ?_
    intro s2 h2 hs2 hg2 _
    have f2 := hs2.rs.fix
    obtain ⟨t2, rfl⟩ := hg2.base h (by simp) ⟨_, by simp; rfl⟩
    obtain ⟨A, hA⟩ : ∃ A, A = T ++ Q := ⟨_, rfl⟩
    have hall : GT ++ GQ = A.map fun g => [AV.ro (g.map encSeen)] := by rw [hGT, hGQ, hA]; simp
    rw [hall] at hs2
    have hAl : A.length ≤ 20 := by rw [hA]; simp; omega
    simp [f2, hs2.rs.alen, hs2.rs.len2]
    refine AWP.up mixed A.length (fun i fr h' => fr 0 = .ro GT ∧ fr 1 = .ro GQ ∧ fr 20 = s2 ∧ fr 21 = .int .i64 A.length ∧ fr 22 = .int .i64 i ∧ (∀ j p, j < i → A[j]? = some p → greatB p = false) ∧ ∃ g, h' = h ++ (t2 ++ g)) 0 (by omega)
      ⟨by simp, by simp, by simp, by simp, by simp, by simp, [], by simp⟩ ?_
    rintro i fr h' hi ⟨e0, e1, e20, e21, e22, hm, g, rfl⟩
    rcases Nat.lt_or_ge i A.length with hlt | hge
    · obtain ⟨q, hq, hq'⟩ := get_lt hlt
      have ew := wrap_succ' (i := i) (by omega)
      have hs3 := hs2.more g
      rw [List.append_assoc] at hs3
      have rx := Rs.ix Try.prog hs3.rs i (by omega) (y := [.ro (q.map encSeen)]) (by simp [hq])
      simp [e0, e1, e20, e21, e22, hlt, f2, rx, ew]
      refine callS.pure _ (fun _ => law_great q) ?_
      simp [e0, e1, e20, e21, e22, hlt, ew]
      refine ⟨fun _ => ?_, fun c => ⟨i + 1, by omega, by omega, by omega, fun j p hj hp => ?_⟩⟩
      · refine callS.pure _ (fun _ => law_awake) ?_
        simp
      · rcases Nat.lt_or_ge j i with h1 | h1
        · exact hm j p h1 hp
        · obtain rfl : j = i := by omega
          rw [hq] at hp
          obtain rfl := Option.some.inj hp
          exact c
    · have hg : ∀ g ∈ A, g.length ≤ 1000 ∧ ∀ s ∈ g, mid s.time := fun x hx => by
        obtain ⟨j, hj⟩ := List.getElem?_of_mem hx
        have := great_ok (hm j x (by have := (List.getElem?_eq_some_iff.1 hj).1; omega) hj)
        exact ⟨by omega, this.2⟩
      have h1 : ∀ g ∈ T, g.length ≤ 1000 ∧ ∀ s ∈ g, mid s.time := fun g hg' => hg g (by rw [hA]; exact List.mem_append_left _ hg')
      have h2 : ∀ g ∈ Q, g.length ≤ 1000 ∧ ∀ s ∈ g, mid s.time := fun g hg' => hg g (by rw [hA]; exact List.mem_append_right _ hg')
      have q1 := fun H : AHeap => score_Matrix (gl := gl) (h := H) T Q (by omega) (by omega) h1 h2
      have q2 := fun H : AHeap => ref15_Matrix (gl := gl) (h := H) T Q (by omega) (by omega) h1 h2
      simp only [encGs, ← hGT, ← hGQ] at q1 q2
      simp [e0, e1, e20, e21, e22, Nat.not_lt.2 hge]
      refine callS.pure _ (fun _ => q1 _) ?_
      simp [e0, e1]
      refine callS.pure _ (fun _ => q2 _) ?_
      simp
      refine callS.pure _ (fun _ => ref15_SameMatrix _ _ _ _ _ _ (by simp; omega) (by simp; omega) (by simp; omega) (by simp; omega)) ?_
      simp
      refine callS.pure _ (fun _ => law_awake) ?_
      simp
theorem law_Loops (ps : List TPass) (ls : List Int) (l : List TSeen) : ACalls Try.prog gl 9 [.ro (ps.map encPass), .ro (ls.map encI), .ro (l.map encSeen)] h fun v h' => v = .bool true := by
  refine ACalls.mono (ACalls.data (.bool true) (ACalls.body Try.f9 _ mixed Try.func9 rfl rfl (by simp [Try.ntmps9]) ?_)) fun _ _ h => h.1
  simp
  refine callS.pure _ (fun _ => law_great l) ?_
  simp
  refine ⟨fun _ => ?_, fun c1 c2 c3 => ?_⟩
  · refine callS.pure _ (fun _ => law_awake) ?_
    simp
  · have hl := great_ok c3
    refine AWP.up mixed ps.length (fun i fr h' => fr 0 = .ro (ps.map encPass) ∧ fr 1 = .ro (ls.map encI) ∧ fr 2 = .ro (l.map encSeen) ∧ fr 22 = .ro (ps.map encPass) ∧ fr 23 = .int .i64 ps.length ∧ fr 24 = .int .i64 i ∧ (∀ j p, j < i → ps[j]? = some p → mid p.time) ∧ ∃ g, h' = h ++ g) 0 (by omega)
      ⟨by simp, by simp, by simp, by simp, by simp, by simp, by simp, [], by simp⟩ ?_
    rintro i fr h' hi ⟨e0, e1, e2, e22, e23, e24, hm, g, rfl⟩
    rcases Nat.lt_or_ge i ps.length with hlt | hge
    · obtain ⟨p, hp, hp'⟩ := get_lt hlt
      have ew := wrap_succ' (i := i) (by omega)
      simp [e0, e1, e2, e22, e23, e24, hlt, hp, hp', ew]
      refine callS.pure _ (fun _ => law_isTime p.time) ?_
      simp [e0, e1, e2, e22, e23, e24, hlt, hp, hp', ew]
      refine ⟨fun _ => ?_, fun c => ⟨i + 1, by omega, by omega, by omega, fun j q hj hq => ?_⟩⟩
      · refine callS.pure _ (fun _ => law_awake) ?_
        simp
      · rcases Nat.lt_or_ge j i with h1 | h1
        · exact hm j q h1 hq
        · obtain rfl : j = i := by omega
          rw [hp] at hq
          obtain rfl := Option.some.inj hq
          exact mid_time c
    · have hmp : ∀ x ∈ ps, mid x.time := fun x hx => by
        obtain ⟨j, hj⟩ := List.getElem?_of_mem hx
        exact hm j x (by have := (List.getElem?_eq_some_iff.1 hj).1; omega) hj
      simp [e0, e1, e2, e22, e23, e24, Nat.not_lt.2 hge]
      refine callS.pure _ (fun _ => score_Loops ps ls l (by omega) (by omega) hmp hl.2) ?_
      simp [e0, e1, e2, e22, e23, e24]
      refine callS.pure _ (fun _ => ref15_Loops ps ls l (by omega) (by omega) hmp hl.2) ?_
      simp
      refine callS.pure _ (fun _ => ref15_SameMatrix _ _ _ _ _ _ (by simp; omega) (by simp; omega) (by simp; omega) (by simp; omega)) ?_
      simp
      refine callS.pure _ (fun _ => law_awake) ?_
      simp
end Go.Proofs.Ytmnmbkcdjpidgaa
