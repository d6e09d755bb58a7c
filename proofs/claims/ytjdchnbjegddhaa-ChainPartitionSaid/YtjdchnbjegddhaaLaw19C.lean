/-
  Contracts: the laws of chains, without the reference.
-/
import Derived.Test.YtjdchnbjegddhaaLaw19A
set_option linter.unusedVariables false
set_option linter.unusedSimpArgs false
set_option maxRecDepth 100000
namespace Go.Proofs.Ytjdchnbjegddhaa
open Go Go.Abs Go.Toll
variable {gl : Globs} {h : AHeap}

theorem cut1 {α : Type} {L : List α} {k : Nat} {x : α} (h : L[k]? = some x) : (L.take (k + 1)).drop k = [x] := by
  rw [List.take_add_one, h, List.drop_append_of_le_length (by have := (List.getElem?_eq_some_iff.1 h).1; simp; omega), List.drop_eq_nil_of_le (by simp; omega)]
  rfl
set_option maxHeartbeats 4000000 in
theorem law_Partition (t : Topo) (l : List TPass) (hok : ∀ p ∈ l, p.Ok) : ACalls Try.prog gl 7 [.agg (encTopo t), .ro (l.map encPass)] h fun v h' => v = .bool true := by
  refine ACalls.mono (ACalls.data (.bool true) (ACalls.body Try.f7 _ mixed Try.func7 rfl rfl (by simp [Try.ntmps7]) ?_)) fun _ _ h => h.1
  simp
  refine callS.pure _ (fun _ => law_outside t l) ?_
  cases ho : outB t l with
  | true =>
    simp
    refine callS.pure _ (fun _ => law_awake) ?_
    simp
  | false =>
    obtain ⟨b1, b2, b3, b4, b5, b6⟩ := outB_no ho
    have hok2 : ∀ p ∈ l, p.Ok ∧ p.sources.length ≤ 1000 := fun p hp => ⟨hok p hp, by have := (b6 p hp).2; omega⟩
    have c1 := fun H : AHeap => chain_Split (gl := gl) (h := H) t l hok2 (by omega) (by omega) (by omega) (by omega)
    have c3 := fun H : AHeap => chain_Longest (gl := gl) (h := H) t l (by omega) (by omega) (by omega) (by omega)
    have c4 := fun H : AHeap => chain_Feasible (gl := gl) (h := H) t l _ (Rs.ro (pass_n l)) (by omega) (by omega) (by omega) (by omega)
    unfold splitV at c1
    obtain ⟨hI1, hI2⟩ := lngL_asc (gL (validT t).net l) l.length
    have hnone : chnB (validT t).net l = true → outI (lngL (gL (validT t).net l) l.length) l l.length = [] := outI_none
    generalize lngL (gL (validT t).net l) l.length = I at *
    generalize chnB (validT t).net l = FB at *
    have hia := inI_all hI1 hI2
    have hsum := inout_len (I := I) (l := l) l.length (by omega)
    have hget : ∀ i p, l[i]? = some p → i ∈ I → (inI I l l.length)[(inI I l i).length]? = some p := fun i p => inI_get
    have hgeo : ∀ i p, l[i]? = some p → i ∉ I → (outI I l l.length)[(outI I l i).length]? = some ⟨p.id, 9⟩ := fun i p => outI_get
    obtain ⟨A, hA⟩ : ∃ A, A = inI I l l.length := ⟨_, rfl⟩
    obtain ⟨B, hBo⟩ : ∃ B, B = outI I l l.length := ⟨_, rfl⟩
    rw [← hA] at c1 hia hsum hget
    rw [← hBo] at c1 hsum hgeo hnone
    have ewl : IntKind.i64.wrap ((I.length : Int) + B.length) = (l.length : Int) := by rw [wrap64_of (by omega) (by omega)]; omega
    simp
    refine callS.pure _ (fun _ => c1 _) ?_
    simp
    refine callS.pure _ (fun _ => c3 _) ?_
    simp [hia, ewl]
    refine callS.pure _ (fun _ => c4 _) ?_
    have hB0 : FB = true → ¬ 0 < B.length := fun q => by rw [hnone q]; simp
    cases FB
    · simp [hia, ewl]
      refine AWP.up mixed l.length (fun i fr H => fr 1 = .ro (l.map encPass) ∧ fr 5 = .ro (A.map encPass) ∧ fr 6 = .ro (B.map encExc) ∧ fr 7 = .ro (I.map encIx) ∧ fr 8 = .int .i64 (inI I l i).length ∧ fr 9 = .int .i64 (outI I l i).length ∧ fr 49 = .ro (l.map encPass) ∧ fr 50 = .int .i64 l.length ∧ fr 51 = .int .i64 i ∧ ∃ g, H = h ++ g) 0 (by omega)
        ⟨by simp, by simp, by simp, by simp, by simp [inI], by simp [outI], by simp, by simp, by simp, by simp⟩ ?_
      rintro i fr H hi ⟨e1, e5, e6, e7, e8, e9, e49, e50, e51, hB⟩
      rcases Nat.lt_or_ge i l.length with hlt | hge
      · obtain ⟨p, hp, hp'⟩ := get_lt hlt
        have ew := wrap_succ' (i := i) (by omega)
        have hat := chain_at hI1 hI2 (i := i) (by omega)
        have hrs := restI_succ (i := i) hI1
        have hs1 := inI_succ (I := I) hp
        have hs2 := outI_succ (I := I) hp
        have hil1 := inI_len I l i
        have hil2 := outI_len I l i
        by_cases c : i ∈ I
        · rw [if_pos c] at hrs hs1 hs2
          rw [hrs, List.getElem?_cons_zero] at hat
          have hkl := (List.getElem?_eq_some_iff.1 hat).1
          have hat' := (List.getElem?_eq_some_iff.1 hat).2
          have hg := hget i p hp c
          have hgl := (List.getElem?_eq_some_iff.1 hg).1
          have ew1 : IntKind.i64.wrap (((inI I l i).length : Int) + 1) = (((inI I l i).length + 1 : Nat) : Int) := wrap_succ' (by omega)
          have hsl1 : ((A.map encPass).take ((inI I l i).length + 1)).drop (inI I l i).length = [p].map encPass := by rw [← List.map_take, ← List.map_drop, cut1 hg]
          have hsl2 : ((l.map encPass).take (i + 1)).drop i = [p].map encPass := by rw [← List.map_take, ← List.map_drop, cut1 hp]
          simp [-Int.natCast_add, e1, e5, e6, e7, e8, e9, e49, e50, e51, hlt, hkl, hat, hat', encIx, ew, ew1, hgl]
          rw [hsl1, hsl2]
          refine ⟨by decide, by omega, by omega, ?_⟩
          refine callS.pure _ (fun _ => ref17_Same [p] (by simpa using hok p (List.mem_of_getElem? hp)) (by simp) _ _ (Rs.ro (pass_n _)) (Rs.ro (pass_n _))) ?_
          simp [-Int.natCast_add, e1, e5, e6, e7, e8, e9, e49, e50, e51, ew, ew1]
          refine ⟨i + 1, by omega, by omega, ?_, ?_, by omega, hB⟩
          · rw [hs1]; simp
          · rw [hs2]
        · rw [if_neg c] at hrs hs1 hs2
          have hg := hgeo i p hp c
          have hgl := (List.getElem?_eq_some_iff.1 hg).1
          have hg' := (List.getElem?_eq_some_iff.1 hg).2
          have hnge : ¬ (B.length : Int) ≤ (outI I l i).length := by omega
          have hnge' : ¬ B.length ≤ (outI I l i).length := by omega
          have ew2 : IntKind.i64.wrap (((outI I l i).length : Int) + 1) = (((outI I l i).length + 1 : Nat) : Int) := wrap_succ' (by omega)
          rcases hr : restI I i with _ | ⟨j, r⟩
          · rw [hr] at hat
            have hkl : ¬ (inI I l i).length < I.length := fun q => by rw [List.getElem?_eq_getElem q] at hat; simp at hat
            simp [-Int.natCast_add, e1, e5, e6, e7, e8, e9, e49, e50, e51, hlt, hkl, hp, hp', encIx, encExc, ew, ew2, hgl, hg, hg', hnge, hnge']
            refine ⟨by decide, i + 1, by omega, by omega, ?_, ?_, by omega, hB⟩
            · rw [hs1]
            · rw [hs2]; simp
          · have hji : j ≠ i := fun e => c ((restI_head hI1).1 ⟨r, by rw [hr, e]⟩)
            have hij' : ¬ (i : Int) = j := by omega
            have hij'' : ¬ (j : Int) = i := by omega
            have hij3 : ¬ i = j := by omega
            rw [hr, List.getElem?_cons_zero] at hat
            have hkl := (List.getElem?_eq_some_iff.1 hat).1
            have hat' := (List.getElem?_eq_some_iff.1 hat).2
            simp [-Int.natCast_add, e1, e5, e6, e7, e8, e9, e49, e50, e51, hlt, hkl, hat, hat', hij', hij'', hij3, hji, hp, hp', encIx, encExc, ew, ew2, hgl, hg, hg', hnge, hnge']
            refine ⟨by decide, i + 1, by omega, by omega, ?_, ?_, by omega, hB⟩
            · rw [hs1]
            · rw [hs2]; simp
      · have hge' : ¬ (i : Int) < l.length := by omega
        simp [e1, e5, e6, e7, e8, e9, e49, e50, e51, hge', Nat.not_lt.2 hge]
        refine callS.pure _ (fun _ => law_awake) ?_
        simp
        exact hB
    · have hB0 := hB0 rfl
      simp [hia, ewl, hB0]
      refine AWP.up mixed l.length (fun i fr H => fr 1 = .ro (l.map encPass) ∧ fr 5 = .ro (A.map encPass) ∧ fr 6 = .ro (B.map encExc) ∧ fr 7 = .ro (I.map encIx) ∧ fr 8 = .int .i64 (inI I l i).length ∧ fr 9 = .int .i64 (outI I l i).length ∧ fr 49 = .ro (l.map encPass) ∧ fr 50 = .int .i64 l.length ∧ fr 51 = .int .i64 i ∧ ∃ g, H = h ++ g) 0 (by omega)
        ⟨by simp, by simp, by simp, by simp, by simp [inI], by simp [outI], by simp, by simp, by simp, by simp⟩ ?_
      rintro i fr H hi ⟨e1, e5, e6, e7, e8, e9, e49, e50, e51, hB⟩
      rcases Nat.lt_or_ge i l.length with hlt | hge
      · obtain ⟨p, hp, hp'⟩ := get_lt hlt
        have ew := wrap_succ' (i := i) (by omega)
        have hat := chain_at hI1 hI2 (i := i) (by omega)
        have hrs := restI_succ (i := i) hI1
        have hs1 := inI_succ (I := I) hp
        have hs2 := outI_succ (I := I) hp
        have hil1 := inI_len I l i
        have hil2 := outI_len I l i
        by_cases c : i ∈ I
        · rw [if_pos c] at hrs hs1 hs2
          rw [hrs, List.getElem?_cons_zero] at hat
          have hkl := (List.getElem?_eq_some_iff.1 hat).1
          have hat' := (List.getElem?_eq_some_iff.1 hat).2
          have hg := hget i p hp c
          have hgl := (List.getElem?_eq_some_iff.1 hg).1
          have ew1 : IntKind.i64.wrap (((inI I l i).length : Int) + 1) = (((inI I l i).length + 1 : Nat) : Int) := wrap_succ' (by omega)
          have hsl1 : ((A.map encPass).take ((inI I l i).length + 1)).drop (inI I l i).length = [p].map encPass := by rw [← List.map_take, ← List.map_drop, cut1 hg]
          have hsl2 : ((l.map encPass).take (i + 1)).drop i = [p].map encPass := by rw [← List.map_take, ← List.map_drop, cut1 hp]
          simp [-Int.natCast_add, e1, e5, e6, e7, e8, e9, e49, e50, e51, hlt, hkl, hat, hat', encIx, ew, ew1, hgl]
          rw [hsl1, hsl2]
          refine ⟨by decide, by omega, by omega, ?_⟩
          refine callS.pure _ (fun _ => ref17_Same [p] (by simpa using hok p (List.mem_of_getElem? hp)) (by simp) _ _ (Rs.ro (pass_n _)) (Rs.ro (pass_n _))) ?_
          simp [-Int.natCast_add, e1, e5, e6, e7, e8, e9, e49, e50, e51, ew, ew1]
          refine ⟨i + 1, by omega, by omega, ?_, ?_, by omega, hB⟩
          · rw [hs1]; simp
          · rw [hs2]
        · rw [if_neg c] at hrs hs1 hs2
          have hg := hgeo i p hp c
          have hgl := (List.getElem?_eq_some_iff.1 hg).1
          have hg' := (List.getElem?_eq_some_iff.1 hg).2
          have hnge : ¬ (B.length : Int) ≤ (outI I l i).length := by omega
          have hnge' : ¬ B.length ≤ (outI I l i).length := by omega
          have ew2 : IntKind.i64.wrap (((outI I l i).length : Int) + 1) = (((outI I l i).length + 1 : Nat) : Int) := wrap_succ' (by omega)
          rcases hr : restI I i with _ | ⟨j, r⟩
          · rw [hr] at hat
            have hkl : ¬ (inI I l i).length < I.length := fun q => by rw [List.getElem?_eq_getElem q] at hat; simp at hat
            simp [-Int.natCast_add, e1, e5, e6, e7, e8, e9, e49, e50, e51, hlt, hkl, hp, hp', encIx, encExc, ew, ew2, hgl, hg, hg', hnge, hnge']
            refine ⟨by decide, i + 1, by omega, by omega, ?_, ?_, by omega, hB⟩
            · rw [hs1]
            · rw [hs2]; simp
          · have hji : j ≠ i := fun e => c ((restI_head hI1).1 ⟨r, by rw [hr, e]⟩)
            have hij' : ¬ (i : Int) = j := by omega
            have hij'' : ¬ (j : Int) = i := by omega
            have hij3 : ¬ i = j := by omega
            rw [hr, List.getElem?_cons_zero] at hat
            have hkl := (List.getElem?_eq_some_iff.1 hat).1
            have hat' := (List.getElem?_eq_some_iff.1 hat).2
            simp [-Int.natCast_add, e1, e5, e6, e7, e8, e9, e49, e50, e51, hlt, hkl, hat, hat', hij', hij'', hij3, hji, hp, hp', encIx, encExc, ew, ew2, hgl, hg, hg', hnge, hnge']
            refine ⟨by decide, i + 1, by omega, by omega, ?_, ?_, by omega, hB⟩
            · rw [hs1]
            · rw [hs2]; simp
      · have hge' : ¬ (i : Int) < l.length := by omega
        simp [e1, e5, e6, e7, e8, e9, e49, e50, e51, hge', Nat.not_lt.2 hge]
        refine callS.pure _ (fun _ => law_awake) ?_
        simp
        exact hB
end Go.Proofs.Ytjdchnbjegddhaa
