/-
  Contracts: the laws of chains against the reference.
-/
import Derived.Test.YtjdchnbjegddhaaLaw19A
set_option linter.unusedVariables false
set_option linter.unusedSimpArgs false
set_option maxRecDepth 100000
namespace Go.Proofs.Ytjdchnbjegddhaa
open Go Go.Abs Go.Toll
variable {gl : Globs} {h : AHeap}

set_option maxHeartbeats 4000000 in
theorem law_Follows (t : Topo) (l : List TPass) : ACalls Try.prog gl 3 [.agg (encTopo t), .ro (l.map encPass)] h fun v h' => v = .bool true := by
  refine ACalls.mono (ACalls.data (.bool true) (ACalls.body Try.f3 _ mixed Try.func3 rfl rfl (by simp [Try.ntmps3]) ?_)) fun _ _ h => h.1
  simp
  refine callS.pure _ (fun _ => law_outside t l) ?_
  cases ho : outB t l with
  | true =>
    simp
    refine callS.pure _ (fun _ => law_awake) ?_
    simp
  | false =>
    obtain ⟨b1, b2, b3, b4, b5, b6⟩ := outB_no ho
    simp
    refine ⟨by decide, ?_⟩
    refine callS.pure _ (fun _ => chain_Follows t l (by omega) (by omega) (by omega) (by omega)) ?_
    simp
    refine callS.pure _ (fun _ => ref19_Follows t l (by omega) (by omega) (by omega) (by omega)) ?_
    simp [rowsF_len]
    refine ⟨by decide, ?_⟩
    refine callS.pure _ (fun _ => chain_Feasible t l _ (Rs.ro (pass_n l)) (by omega) (by omega) (by omega) (by omega)) ?_
    simp [rowsF_len]
    refine callS.pure _ (fun _ => ref19_Feasible t l _ (Rs.ro (pass_n l)) (by omega) (by omega) (by omega) (by omega)) ?_
    simp [rowsF_len]
    refine AWP.up mixed l.length (fun i fr H => fr 5 = .ro (rowsF (validT t).net l l.length) ∧ fr 6 = .ro (rowsF (validT t).net l l.length) ∧ fr 33 = .int .i64 l.length ∧ fr 34 = .int .i64 i ∧ ∃ g, H = h ++ g) 0 (by omega) ⟨by simp, by simp, by simp [rowsF_len], by simp, by simp⟩ ?_
    rintro i fr H hi ⟨e5, e6, e33, e34, hB⟩
    rcases Nat.lt_or_ge i l.length with hlt | hge
    · have hr : (rowsF (validT t).net l l.length)[i]? = some [AV.ro ((folL (gL (validT t).net l) l.length i).map encIx)] := rowsF_get hlt
      have hr' := (List.getElem?_eq_some_iff.1 hr).2
      have ew := wrap_succ' (i := i) (by omega)
      have hfl := folL_len (G := gL (validT t).net l) (n := l.length) i
      simp [e5, e6, e33, e34, hlt, rowsF_len, hr, hr']
      refine ⟨by decide, ?_⟩
      refine callS.pure _ (fun _ => law_same _ _ (by omega) _ _ (Rs.ro (ix_n _)) (Rs.ro (ix_n _))) ?_
      simp [e5, e6, e33, e34, ew]
      exact ⟨i + 1, by omega, by omega, by omega, hB⟩
    · have hge' : ¬ (i : Int) < l.length := by omega
      simp [e5, e6, e33, e34, hge', Nat.not_lt.2 hge]
      refine callS.pure _ (fun _ => law_awake) ?_
      simp
      exact hB
set_option maxHeartbeats 4000000 in
theorem law_Longests (t : Topo) (l : List TPass) (hok : ∀ p ∈ l, p.Ok) : ACalls Try.prog gl 4 [.agg (encTopo t), .ro (l.map encPass)] h fun v h' => v = .bool true := by
  refine ACalls.mono (ACalls.data (.bool true) (ACalls.body Try.f4 _ mixed Try.func4 rfl rfl (by simp [Try.ntmps4]) ?_)) fun _ _ h => h.1
  simp
  refine callS.pure _ (fun _ => law_outside t l) ?_
  cases ho : outB t l with
  | true =>
    simp
    refine callS.pure _ (fun _ => law_awake) ?_
    simp
  | false =>
    obtain ⟨b1, b2, b3, b4, b5, b6⟩ := outB_no ho
    have hok2 : ∀ p ∈ l, p.Ok ∧ p.sources.length ≤ 1000 := fun p hp => ⟨hok p hp, by have := (b6 p hp).2; omega⟩
    have c1 := fun H : AHeap => chain_Split (gl := gl) (h := H) t l hok2 (by omega) (by omega) (by omega) (by omega)
    have c2 := fun H : AHeap => ref19_Split (gl := gl) (h := H) t l hok2 (by omega) (by omega) (by omega) (by omega)
    have c3 := fun H : AHeap => chain_Longest (gl := gl) (h := H) t l (by omega) (by omega) (by omega) (by omega)
    have c4 := fun H : AHeap => ref19_Longest (gl := gl) (h := H) t l (by omega) (by omega) (by omega) (by omega)
    unfold splitV at c1 c2
    have hIl : (lngL (gL (validT t).net l) l.length).length ≤ l.length := by have := (lngL_spec (G := gL (validT t).net l) (n := l.length)).2.2.1; rw [this]; exact mstC_le _ 0 rfl (by omega)
    generalize lngL (gL (validT t).net l) l.length = I at *
    have hi1 := inI_len I l l.length
    have hi2 := outI_len I l l.length
    have hin : ∀ p ∈ inI I l l.length, p.Ok := fun p hp => hok p (inI_mem hp)
    generalize inI I l l.length = A at *
    generalize outI I l l.length = B at *
    simp
    refine callS.pure _ (fun _ => c1 _) ?_
    simp
    refine callS.pure _ (fun _ => c2 _) ?_
    simp
    refine ⟨by decide, ?_⟩
    refine callS.pure _ (fun _ => c3 _) ?_
    simp
    refine callS.pure _ (fun _ => c4 _) ?_
    simp
    refine callS.pure _ (fun _ => law_same I I (by omega) _ _ (Rs.ro (ix_n _)) (Rs.ro (ix_n _))) ?_
    simp
    refine callS.pure _ (fun _ => ref17_Same A hin (by omega) _ _ (Rs.ro (pass_n A)) (Rs.ro (pass_n A))) ?_
    simp
    refine callS.pure _ (fun _ => law_sameEx B (by omega)) ?_
    simp
    refine callS.pure _ (fun _ => law_awake) ?_
    simp
set_option maxHeartbeats 4000000 in
theorem law_Segments (t : Topo) (l : List TPass) (g : Int) (hok : ∀ p ∈ l, p.Ok) : ACalls Try.prog gl 5 [.agg (encTopo t), .ro (l.map encPass), .int .i64 g] h fun v h' => v = .bool true := by
  refine ACalls.mono (ACalls.data (.bool true) (ACalls.body Try.f5 _ mixed Try.func5 rfl rfl (by simp [Try.ntmps5]) ?_)) fun _ _ h => h.1
  simp
  refine callS.pure _ (fun _ => law_outside t l) ?_
  cases ho : outB t l with
  | true =>
    simp
    refine callS.pure _ (fun _ => law_awake) ?_
    simp
  | false =>
    obtain ⟨b1, b2, b3, b4, b5, b6⟩ := outB_no ho
    have hok2 : ∀ p ∈ l, p.Ok ∧ p.sources.length ≤ 1000 ∧ isTimeB p.time = true := fun p hp => ⟨hok p hp, by have := (b6 p hp).2; omega, (b6 p hp).1⟩
    have c1 := fun H : AHeap => chain_Segments (gl := gl) (h := H) t b5 l g hok2 (by omega) (by omega) (by omega)
    have c2 := fun H : AHeap => ref19_Segments (gl := gl) (h := H) t b5 l g hok2 (by omega) (by omega) (by omega)
    unfold segV segsM at c1 c2
    have hSl := segsI_len (v := t.net) (l := l) (g := gapM g) l.length
    have hSo : ∀ r ∈ segsI t.net l (gapM g) l.length, (∀ p ∈ r, p.Ok) ∧ r.length ≤ l.length := fun r hr => ⟨segsI_ok hok (by omega) r hr, segsI_row (by omega) hr⟩
    generalize segsI t.net l (gapM g) l.length = S at *
    simp
    refine ⟨by decide, ?_⟩
    refine callS.pure _ (fun _ => c1 _) ?_
    simp
    refine callS.pure _ (fun _ => c2 _) ?_
    simp
    refine AWP.up mixed S.length (fun i fr H => fr 7 = .ro (S.map fun r => [.ro (r.map encPass)]) ∧ fr 8 = .ro (S.map fun r => [.ro (r.map encPass)]) ∧ fr 28 = .int .i64 S.length ∧ fr 29 = .int .i64 i ∧ ∃ g, H = h ++ g) 0 (by omega) ⟨by simp, by simp, by simp, by simp, by simp⟩ ?_
    rintro i fr H hi ⟨e7, e8, e28, e29, hB⟩
    rcases Nat.lt_or_ge i S.length with hlt | hge
    · obtain ⟨r, hr, hr'⟩ := get_lt hlt
      have ew := wrap_succ' (i := i) (by omega)
      obtain ⟨o1, o2⟩ := hSo r (List.mem_of_getElem? hr)
      simp [e7, e8, e28, e29, hlt, hr, hr']
      refine ⟨by decide, ?_⟩
      refine callS.pure _ (fun _ => ref17_Same r o1 (by omega) _ _ (Rs.ro (pass_n r)) (Rs.ro (pass_n r))) ?_
      simp [e7, e8, e28, e29, ew]
      exact ⟨i + 1, by omega, by omega, by omega, hB⟩
    · have hge' : ¬ (i : Int) < S.length := by omega
      simp [e7, e8, e28, e29, hge', Nat.not_lt.2 hge]
      refine callS.pure _ (fun _ => law_awake) ?_
      simp
      exact hB
end Go.Proofs.Ytjdchnbjegddhaa
