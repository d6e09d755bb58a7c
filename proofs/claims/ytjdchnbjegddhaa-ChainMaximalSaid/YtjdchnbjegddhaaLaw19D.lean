/-
  Contracts: the law of the longest chain, without the reference.
-/
import Derived.Test.YtjdchnbjegddhaaLaw19A
set_option linter.unusedVariables false
set_option linter.unusedSimpArgs false
set_option maxRecDepth 100000
namespace Go.Proofs.Ytjdchnbjegddhaa
open Go Go.Abs Go.Toll
variable {gl : Globs} {h : AHeap}

theorem asc_len2 : ∀ {l : List Nat} {c n : Nat}, l.Pairwise (· < ·) → (∀ j ∈ l, c ≤ j ∧ j < n) → l.length ≤ n - c
  | [], _, _, _, _ => by simp
  | i :: r, c, n, h, hr => by
    obtain ⟨h1, h2⟩ := List.pairwise_cons.1 h
    have := asc_len2 h2 (c := i + 1) (n := n) fun j hj => ⟨h1 j hj, (hr j (by simp [hj])).2⟩
    have := hr i (by simp)
    simp
    omega
theorem sel_take {l : List TPass} {I : List Nat} {i j : Nat} {p : TPass} (hi : I[i]? = some j) (hp : l[j]? = some p) : selL l (I.take (i + 1)) = selL l (I.take i) ++ [p] := by
  rw [List.take_add_one, hi]
  exact selL_snoc hp
set_option maxHeartbeats 8000000 in
theorem law_Maximal (t : Topo) (l : List TPass) (n : Int) (hok : ∀ p ∈ l, p.Ok) : ACalls Try.prog gl 6 [.agg (encTopo t), .ro (l.map encPass), .int .u16 n] h fun v h' => v = .bool true := by
  refine ACalls.mono (ACalls.data (.bool true) (ACalls.body Try.f6 _ mixed Try.func6 rfl rfl (by simp [Try.ntmps6]) ?_)) fun _ _ h => h.1
  simp
  refine callS.pure _ (fun _ => law_outside t l) ?_
  cases ho : outB t l with
  | true =>
    simp
    refine callS.pure _ (fun _ => law_awake) ?_
    simp
  | false =>
    obtain ⟨b1, b2, b3, b4, b5, b6⟩ := outB_no ho
    have c1 := fun H : AHeap => chain_Longest (gl := gl) (h := H) t l (by omega) (by omega) (by omega) (by omega)
    have c2 := fun (H : AHeap) (r : List TPass) (y : AV) (hy : Rs 8 H y (r.map encPass)) (hr : r.length ≤ 1000000) => chain_Feasible (gl := gl) (h := H) t r y hy hr (by omega) (by omega) (by omega)
    obtain ⟨hI1, hI2⟩ := lngL_asc (gL (validT t).net l) l.length
    have hsel : chnB (validT t).net (selL l (lngL (gL (validT t).net l) l.length)) = true := sel_ch lngL_spec.1
    have hmax := lng_sel (validT t).net l
    have hpos := lng_pos' (validT t).net (l := l)
    generalize lngL (gL (validT t).net l) l.length = I at *
    have hIl : I.length ≤ l.length := by have := asc_len2 hI1 (c := 0) (n := l.length) (fun j hj => ⟨by omega, hI2 j hj⟩); omega
    simp
    refine callS.pure _ (fun _ => c1 _) ?_
    simp
    refine AWP.up mixed I.length (fun i fr H => fr 1 = .ro (l.map encPass) ∧ fr 2 = .int .u16 n ∧ fr 3 = .ptr h.length 0 0 ∧ fr 7 = .ro (I.map encIx) ∧ fr 9 = .nil ∧ fr 10 = .nil ∧ fr 21 = .ro (I.map encIx) ∧ fr 22 = .int .i64 I.length ∧ fr 23 = .int .i64 i ∧ H[h.length]? = some (.cells 3 [encTopo t]) ∧ (∃ g, H = h ++ g) ∧ ∃ x, fr 8 = x ∧ Ls 8 (h.length + 1) H x ((selL l (I.take i)).map encPass)) 0 (by omega)
      ⟨by simp, by simp, by simp, by simp, by simp, by simp, by simp, by simp, by simp, by simp, by simp, .nil, by simp, by simpa [selL] using Ls.nil⟩ ?_
    rintro i fr H hi ⟨e1, e2, e3, e7, e9, e10, e21, e22, e23, hT, hB, x, e8, hx⟩
    have hT3 := at3 hT
    simp only [encTopo] at hT3
    have hxf := hx.rs.fix
    have hlen := hT3.2.1
    rcases Nat.lt_or_ge i I.length with hlt | hge
    · obtain ⟨k, hk, hk'⟩ := get_lt hlt
      have hkl := hI2 k (List.mem_of_getElem? hk)
      obtain ⟨p, hp, hp'⟩ := get_lt hkl
      have ew := wrap_succ' (i := i) (by omega)
      have hk0 : ¬ (k : Int) < 0 := by omega
      have hkn : ¬ (l.length : Int) ≤ k := by omega
      have hkn' : ¬ l.length ≤ k := by omega
      have hst := sel_take hk hp
      have hsl := selL_len l (I.take i)
      have hsl2 : (I.take i).length ≤ i := by simp; omega
      have fin : ∀ (K : AV → AHeap → Prop) (ts : List TypeId) (H0 : AHeap) (z : AV), appOk Try.prog H0 ts 8 z [encPass p] → Ls 8 (h.length + 1) H0 x ((selL l (I.take i)).map encPass) → (∃ g, H0 = h ++ g) → h.length + 1 ≤ H0.length → H0[h.length]? = some (.cells 3 [encTopo t]) →
          (∀ s3 H3, s3.core = s3 ∧ s3.gd = true ∧ s3.solid = true ∧ acells s3 = [s3] → (∃ g, H3 = h ++ g) → H3[h.length]? = some (.cells 3 [encTopo t]) → Ls 8 (h.length + 1) H3 s3 ((selL l (I.take (i + 1))).map encPass) → K s3 H3) → appendOk Try.prog H0 ts x z ∧ appendK 8 H0 x z K := by
        intro K ts H0 z hok0 hx0 hB0 hl0 hT0 hK
        refine append_new (lo := h.length + 1) (n := 8) (es := (selL l (I.take i)).map encPass) (ys := [encPass p]) hx0 (by omega) hok0 (by simp; omega) ?_
        intro s3 H3 hs3 hg3 hn3
        exact hK s3 H3 hs3.rs.fix (hg3.base h (by omega) hB0) (hg3.keep _ _ hT0 fun off len e => by have := hx0.above _ _ _ e; omega) (by rw [hst]; simpa using hs3)
      rcases Nat.eq_zero_or_pos i with hi0 | hi0
      · subst hi0
        simp [-appendOk, -appendK, -acells, -AV.solid, -Int.natCast_add, e1, e2, e3, e7, e8, e9, e10, e21, e22, e23, hlt, hk, hk', encIx, hk0, hkn, hkn', hkl, hp, hp', hxf]
        refine fin _ _ _ _ ?_ (hx.more _) (base_more hB _) (by simp; omega) (at_more hT _) ?_
        · simp [appOk]
        intro s3 H3 f3 hB3 hT4 hs3
        simp [-appendOk, -appendK, -acells, -AV.solid, -Int.natCast_add, e1, e2, e3, e7, e9, e10, e21, e22, e23, f3, ew]
        exact ⟨1, by omega, by omega, by simpa using ew, hT4, hB3, by simpa using hs3⟩
      · obtain ⟨j, rfl⟩ : ∃ j, i = j + 1 := ⟨i - 1, by omega⟩
        obtain ⟨k0, hq, hq'⟩ := get_lt (l := I) (i := j) (by omega)
        have hjI : j < I.length := by omega
        have hkk : k0 < k := by
          have := List.pairwise_iff_getElem.1 hI1 j (j + 1) (by omega) hlt (by omega)
          rw [hk', hq'] at this
          exact this
        have hj0 : (0 : Int) < ((j + 1 : Nat) : Int) := by omega
        have hle : ¬ (k : Int) ≤ k0 := by omega
        have hle' : ¬ k ≤ k0 := by omega
        have ewj : IntKind.i64.wrap (((j + 1 : Nat) : Int) - 1) = (j : Int) := by rw [wrap64_of (by omega) (by omega)]; omega
        simp [-appendOk, -appendK, -acells, -AV.solid, -Int.natCast_add, e1, e2, e3, e7, e8, e9, e10, e21, e22, e23, hlt, hk, hk', encIx, hk0, hkn, hkn', hkl, hp, hp', hxf, hj0, ewj, hq, hq', hjI, hle, hle']
        refine fin _ _ _ _ ?_ (hx.more _) (base_more hB _) (by simp; omega) (at_more hT _) ?_
        · simp [appOk]
        intro s3 H3 f3 hB3 hT4 hs3
        simp [-appendOk, -appendK, -acells, -AV.solid, -Int.natCast_add, e1, e2, e3, e7, e9, e10, e21, e22, e23, f3, ew]
        exact ⟨j + 1 + 1, by omega, by omega, by omega, hT4, hB3, hs3⟩
    · obtain rfl : i = I.length := by omega
      rw [List.take_length] at hx
      obtain ⟨q0, hq0⟩ : ∃ q0, q0 = H.length := ⟨_, rfl⟩
      have hxin := hx.inside
      have hqh : h.length < q0 := by rw [hq0]; exact hT3.2.1
      simp [e1, e2, e3, e7, e8, e9, e10, e21, e22, e23, hxf]
      refine AWP.up mixed l.length (fun i fr H' => fr 1 = .ro (l.map encPass) ∧ fr 2 = .int .u16 n ∧ fr 3 = .ptr h.length 0 0 ∧ fr 7 = .ro (I.map encIx) ∧ fr 8 = x ∧ fr 57 = .ro (l.map encPass) ∧ fr 58 = .int .i64 l.length ∧ fr 59 = .int .i64 i ∧ H'[h.length]? = some (.cells 3 [encTopo t]) ∧ (∃ g, H' = h ++ g) ∧ q0 ≤ H'.length ∧ Ls 8 (h.length + 1) H' x ((selL l I).map encPass) ∧
          ∃ (y z : AV) (J : List Nat), fr 9 = y ∧ fr 10 = z ∧ Ls 8 q0 H' y ((selL l J).map encPass) ∧ Ls 1 q0 H' z (J.map encIx) ∧ (∀ b off len b' off' len', y = .own b off len → z = .own b' off' len' → b ≠ b') ∧ J.Pairwise (· < ·) ∧ ∀ j ∈ J, j < i) 0 (by omega)
        ⟨by simp [e1], by simp [e2], by simp [e3], by simp [e7], by simp [e8], by simp, by simp, by simp, hT, hB, by omega, hx, .nil, .nil, [], by simp [e9], by simp [e10], by simpa [selL] using Ls.nil, by simpa using Ls.nil, by simp, by simp, by simp⟩ ?_
      clear e1 e2 e3 e7 e8 e9 e10 e21 e22 e23 hT hT3 hB hx hlen
      rintro i fr H' hi ⟨e1, e2, e3, e7, e8, e57, e58, e59, hT, hB, hql, hx, y, z, J, e9, e10, hy, hz, hyz, hJ1, hJ2⟩
      have hT3 := at3 hT
      simp only [encTopo] at hT3
      have hyf := hy.rs.fix
      have hzf := hz.rs.fix
      have hJl : J.length ≤ i := by have := asc_len2 hJ1 (c := 0) (n := i) (fun j hj => ⟨by omega, hJ2 j hj⟩); omega
      have hsl := selL_len l J
      rcases Nat.lt_or_ge i l.length with hlt | hge
      · obtain ⟨p, hp, hp'⟩ := get_lt hlt
        have ew := wrap_succ' (i := i) (by omega)
        simp [-appendOk, -appendK, -acells, -AV.solid, -Int.natCast_add, e1, e2, e3, e7, e8, e9, e10, e57, e58, e59, hlt, hp, hp', hxf, hyf, hzf]
        have hyab := hy.above
        have hzab := hz.above
        have hyin := hy.inside
        have hzin := hz.inside
        refine ⟨fun _ => ?_, fun _ => ?_⟩
        · refine append_new (lo := q0) (n := 8) (es := (selL l J).map encPass) (ys := [encPass p]) (by simpa using hy.more _) (by simp; omega) (by simp [appOk]) (by simp; omega) ?_
          intro s1 H1 hs1 hg1 hn1
          have hs1f := hs1.rs.fix
          have hs1in := hs1.inside
          have hB1 := hg1.base h (by omega) (base_more hB _)
          have hl1 := hg1.len
          simp at hl1
          have hk1 : ∀ b o, b < q0 → H'[b]? = some o → H1[b]? = some o := fun b o hb ho => hg1.keep b o (at_more ho _) fun off len e => by have := hyab _ _ _ e; omega
          have hx1 : Ls 8 (h.length + 1) H1 x ((selL l I).map encPass) := hx.keep' fun b len o e ho => hk1 b o (by have := hxin _ _ _ e; omega) ho
          have hz1 : Ls 1 q0 H1 z (J.map encIx) := (hz.more _).grow hg1 fun b eb hbl off len e => hyz _ _ _ _ _ _ e eb rfl
          have hT1 := hk1 _ _ (by omega) hT
          simp [-appendOk, -appendK, -acells, -AV.solid, -Int.natCast_add, e1, e2, e3, e7, e8, e9, e10, e57, e58, e59, hxf, hzf, hs1f]
          refine append_new (lo := q0) (n := 1) (es := J.map encIx) (ys := [encIx i]) (by simpa [encIx] using hz1.more _) (by simp; omega) (by simp [appOk, encIx]) (by simp; omega) ?_
          intro s2 H2 hs2 hg2 hn2
          have hs2f := hs2.rs.fix
          have hB2 := hg2.base h (by omega) (base_more hB1 _)
          have hl2 := hg2.len
          simp at hl2
          have hk2 : ∀ b o, b < q0 → H1[b]? = some o → H2[b]? = some o := fun b o hb ho => hg2.keep b o (at_more ho _) fun off len e => by have := hzab _ _ _ e; omega
          have hx2 : Ls 8 (h.length + 1) H2 x ((selL l I).map encPass) := hx1.keep' fun b len o e ho => hk2 b o (by have := hxin _ _ _ e; omega) ho
          have hs12 : Ls 8 q0 H2 s1 ((selL l J).map encPass ++ [encPass p]) := (hs1.more _).grow hg2 fun b eb hbl off len e => by
            have q1 := hn1 _ _ _ eb
            have q2 := hzin _ _ _ e
            simp at q1
            omega
          have hT2 := hk2 _ _ (by omega) hT1
          simp [-appendOk, -appendK, -acells, -AV.solid, -Int.natCast_add, e1, e2, e3, e7, e8, e57, e58, e59, hxf, hs1f, hs2f, ew]
          refine ⟨i + 1, by omega, by omega, by omega, hT2, hB2, by omega, hx2, J ++ [i], ?_, by simpa [encIx] using hs2, ?_, ?_, ?_⟩
          · rw [selL_snoc hp, List.map_append]; exact hs12
          · intro b off len b' off' len' e e'
            have q1 := hs1in _ _ _ e
            have q2 := hn2 _ _ _ e'
            simp at q2
            omega
          · rw [List.pairwise_append]
            exact ⟨hJ1, by simp, fun a ha b hb => by simp at hb; subst hb; exact hJ2 a ha⟩
          · intro j hj
            rcases List.mem_append.1 hj with q | q
            · have := hJ2 j q; omega
            · simp at q; omega
        · simp [-appendOk, -appendK, -acells, -AV.solid, -Int.natCast_add, e1, e2, e3, e7, e8, e9, e10, e57, e58, e59, hxf, hyf, hzf, ew]
          exact ⟨i + 1, by omega, by omega, by omega, hT, hB, by omega, hx, J, hy, hz, hyz, hJ1, fun j hj => by have := hJ2 j hj; omega⟩
      · obtain rfl : i = l.length := by omega
        have c3 := c2 H' (selL l I) x hx.rs (by have := selL_len l I; omega)
        have c4 := c2 H' (selL l J) y hy.rs (by omega)
        rw [hsel] at c3
        have m1 : chnB (validT t).net (selL l J) = true → J.length ≤ I.length := fun q => (hmax J hJ1 hJ2 q).1
        have m2 : chnB (validT t).net (selL l J) = true → J.length = I.length → lexB J I = false := fun q => (hmax J hJ1 hJ2 q).2
        have hIp : l ≠ [] → ¬ I.length = 0 := fun q e => hpos q (List.length_eq_zero_iff.1 e)
        have c5 := law_before (gl := gl) (h := H') J I (by omega) z (.ro (I.map encIx)) hz.rs (Rs.ro (ix_n I))
        have hzl := hz.rs.len2
        simp [-Int.natCast_add, e1, e2, e3, e7, e8, e9, e10, e57, e58, e59, hxf, hyf, hzf, hT3]
        refine callS.pure _ (fun _ => c3) ?_
        have hnot : ¬ (0 < l.length ∧ I.length = 0) := fun q => hIp (fun e => by rw [e] at q; simp at q) q.2
        rcases Nat.eq_zero_or_pos l.length with hl0 | hl0
        · have hl1 : ¬ 0 < l.length := by omega
          have hl2 : ¬ (0 : Int) < l.length := by omega
          simp [-Int.natCast_add, e1, e2, e3, e7, e8, e9, e10, e57, e58, e59, hxf, hyf, hzf, hT3, hzl, hl1, hl2]
          refine callS.pure _ (fun _ => c4) ?_
          cases hF : chnB (validT t).net (selL l J) with
          | false =>
            simp [-Int.natCast_add, e1, e2, e3, e7, e8, e9, e10, e57, e58, e59, hxf, hyf, hzf, hT3, hzl]
            refine callS.pure (.int .i64 0) (fun c => by cases c) ?_
            simp
            refine callS.pure _ (fun _ => law_awake) ?_
            simp
            exact hB
          | true =>
            have m1 := m1 hF
            have hgt : ¬ I.length < J.length := by omega
            have hgt' : ¬ (I.length : Int) < J.length := by omega
            by_cases hJI : J.length = I.length
            · have hJI' : (J.length : Int) = I.length := by omega
              have m2 := m2 hF hJI
              rw [m2] at c5
              simp [-Int.natCast_add, e1, e2, e3, e7, e8, e9, e10, e57, e58, e59, hxf, hyf, hzf, hT3, hzl, hgt, hgt', hJI, hJI']
              refine callS.pure _ (fun _ => c5) ?_
              simp [-Int.natCast_add, e1, e2, e3, e7, e8, e9, e10, e57, e58, e59, hxf, hyf, hzf, hT3, hzl, hgt, hgt', hJI, hJI']
              refine callS.pure _ (fun _ => law_awake) ?_
              simp
              exact hB
            · have hJI' : ¬ (J.length : Int) = I.length := by omega
              have hJb : ((J.length : Int) == (I.length : Int)) = false := beq_eq_false_iff_ne.2 hJI'
              simp [-Int.natCast_add, e1, e2, e3, e7, e8, e9, e10, e57, e58, e59, hxf, hyf, hzf, hT3, hzl, hgt, hgt', hJI, hJI', hJb]
              refine callS.pure (.int .i64 0) (fun c => by cases c) ?_
              simp [-Int.natCast_add, e1, e2, e3, e7, e8, e9, e10, e57, e58, e59, hxf, hyf, hzf, hT3, hzl, hgt, hgt', hJI, hJI', hJb]
              refine callS.pure _ (fun _ => law_awake) ?_
              simp
              exact hB
        · have hI0 : ¬ I.length = 0 := fun e => hnot ⟨hl0, e⟩
          have hI0' : ¬ (I.length : Int) = 0 := by omega
          have hIb : ((I.length : Int) == 0) = false := beq_eq_false_iff_ne.2 hI0'
          have hIn : ¬ I = [] := fun e => hI0 (by rw [e]; rfl)
          simp [-Int.natCast_add, e1, e2, e3, e7, e8, e9, e10, e57, e58, e59, hxf, hyf, hzf, hT3, hzl, hl0, hI0, hI0', hIb, hIn]
          refine callS.pure _ (fun _ => c4) ?_
          cases hF : chnB (validT t).net (selL l J) with
          | false =>
            simp [-Int.natCast_add, e1, e2, e3, e7, e8, e9, e10, e57, e58, e59, hxf, hyf, hzf, hT3, hzl]
            refine callS.pure (.int .i64 0) (fun c => by cases c) ?_
            simp
            refine callS.pure _ (fun _ => law_awake) ?_
            simp
            exact hB
          | true =>
            have m1 := m1 hF
            have hgt : ¬ I.length < J.length := by omega
            have hgt' : ¬ (I.length : Int) < J.length := by omega
            by_cases hJI : J.length = I.length
            · have hJI' : (J.length : Int) = I.length := by omega
              have m2 := m2 hF hJI
              rw [m2] at c5
              simp [-Int.natCast_add, e1, e2, e3, e7, e8, e9, e10, e57, e58, e59, hxf, hyf, hzf, hT3, hzl, hgt, hgt', hJI, hJI']
              refine callS.pure _ (fun _ => c5) ?_
              simp [-Int.natCast_add, e1, e2, e3, e7, e8, e9, e10, e57, e58, e59, hxf, hyf, hzf, hT3, hzl, hgt, hgt', hJI, hJI']
              refine callS.pure _ (fun _ => law_awake) ?_
              simp
              exact hB
            · have hJI' : ¬ (J.length : Int) = I.length := by omega
              have hJb : ((J.length : Int) == (I.length : Int)) = false := beq_eq_false_iff_ne.2 hJI'
              simp [-Int.natCast_add, e1, e2, e3, e7, e8, e9, e10, e57, e58, e59, hxf, hyf, hzf, hT3, hzl, hgt, hgt', hJI, hJI', hJb]
              refine callS.pure (.int .i64 0) (fun c => by cases c) ?_
              simp [-Int.natCast_add, e1, e2, e3, e7, e8, e9, e10, e57, e58, e59, hxf, hyf, hzf, hT3, hzl, hgt, hgt', hJI, hJI', hJb]
              refine callS.pure _ (fun _ => law_awake) ?_
              simp
              exact hB
end Go.Proofs.Ytjdchnbjegddhaa
