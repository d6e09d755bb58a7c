/-
  Contracts: tables of costs of vehicles and loops, and the other telling of both tables.
-/
import Derived.Test.YtmnmbkcdjpidgaaProblem
set_option linter.unusedVariables false
set_option linter.unusedSimpArgs false
set_option maxRecDepth 100000
namespace Go.Proofs.Ytmnmbkcdjpidgaa
open Go Go.Abs Go.Toll
variable {gl : Globs} {h : AHeap}

def encN1 (n : Int) : List AV := [.int .i64 n]
theorem score_Loops1 (ps : List TPass) (ls : List Int) (l : List TSeen) (p q r i j : Nat) (hp : h[p]? = some (.cells 1 [[.ro (ls.map encI)]])) (hq : h[q]? = some (.cells 1 [[.ro (ps.map encPass)]])) (hr : h[r]? = some (.cells 1 [[.ro (l.map encSeen)]]))
    (hi : i < ps.length) (hj : j < l.length) (h1 : ∀ x ∈ ps, mid x.time) (h2 : ∀ s ∈ l, mid s.time) :
    ACalls Try.prog gl 45 [.int .i64 i, .int .i64 j, .ptr p 0 0, .ptr q 0 0, .ptr r 0 0] h fun v h' => v = .int .i64 (loopF ps ls l i j) ∧ h' = h := by
  refine ACalls.data (.int _ _) (ACalls.body Try.f45 _ mixed Try.func45 rfl rfl (by simp [Try.ntmps45]) ?_)
  obtain ⟨x, hx, hx'⟩ := get_lt hi
  obtain ⟨s, hs, hs'⟩ := get_lt hj
  have hpl := (List.getElem?_eq_some_iff.1 hp).1
  have hql := (List.getElem?_eq_some_iff.1 hq).1
  have hrl := (List.getElem?_eq_some_iff.1 hr).1
  have hp' := (List.getElem?_eq_some_iff.1 hp).2
  have hq' := (List.getElem?_eq_some_iff.1 hq).2
  have hr' := (List.getElem?_eq_some_iff.1 hr).2
  have hF : ∀ n, laneAt ls i = n → loopF ps ls l i j = axlesI x.point x.time n s := fun n e => by
    simp [loopF, List.getD_eq_getElem?_getD, hx, hs, e]
  rcases Nat.lt_or_ge i ls.length with c | c
  · obtain ⟨n, hn, hn'⟩ := get_lt c
    simp [hp, hp', hpl, hq, hq', hql, hr, hr', hrl, hx, hx', hs, hs', hn, hn', hi, hj, c]
    refine ⟨by decide, ?_⟩
    refine callS.pure _ (fun _ => score_Axles x n s (h1 x (List.mem_of_getElem? hx)) (h2 s (List.mem_of_getElem? hs))) ?_
    simp
    rw [hF n (by simp [laneAt, List.getD_eq_getElem?_getD, hn])]
  · simp [hp, hp', hpl, hq, hq', hql, hr, hr', hrl, hx, hx', hs, hs', hi, hj, Nat.not_lt.2 c]
    refine ⟨by decide, ?_⟩
    refine callS.pure _ (fun _ => score_Axles x 0 s (h1 x (List.mem_of_getElem? hx)) (h2 s (List.mem_of_getElem? hs))) ?_
    simp
    rw [hF 0 (by simp [laneAt, List.getD_eq_getElem?_getD, List.getElem?_eq_none (show ls.length ≤ i by omega)])]
theorem score_Loops (ps : List TPass) (ls : List Int) (l : List TSeen) (hps : ps.length ≤ 100000) (hl : l.length ≤ 100000) (h1 : ∀ x ∈ ps, mid x.time) (h2 : ∀ s ∈ l, mid s.time) :
    ACalls Try.prog gl 26 [.ro (ps.map encPass), .ro (ls.map encI), .ro (l.map encSeen)] h fun x h' => x = .agg (tabF (loopF ps ls l) ps.length l.length 100) ∧ h' = h := by
  refine ACalls.data (tab_data ..) (ACalls.body Try.f26 _ mixed Try.func26 rfl rfl (by simp [Try.ntmps26]) ?_)
  simp
  refine callS.pure _ (fun _ => score_problem ps.length l.length 100 _ _ (loopF ps ls l) hps hl fun i j hi hj g => ?_) ?_
  · have := score_Loops1 (gl := gl) (h := h ++ [.cells 1 [[.ro (ps.map encPass)]], .cells 1 [[.ro (ls.map encI)]], .cells 1 [[.ro (l.map encSeen)]], .cells 3 [[.nil, .nil, .nil]]] ++ g) ps ls l (h.length + 1) h.length (h.length + 2) i j (by simp) (by simp) (by simp) hi hj h1 h2
    simpa using this
  · simp [tabF, encMat]
set_option maxHeartbeats 1000000 in
theorem ref15_Matrix (T Q : List (List TSeen)) (hT : T.length ≤ 100000) (hQ : Q.length ≤ 100000) (h1 : ∀ g ∈ T, g.length ≤ 1000 ∧ ∀ s ∈ g, mid s.time) (h2 : ∀ g ∈ Q, g.length ≤ 1000 ∧ ∀ s ∈ g, mid s.time) :
    ACalls Try.prog gl 22 [encGs T, encGs Q] h fun x h' => x = .agg (tabF (crossF2 T Q) T.length Q.length 200) ∧ h' = h := by
  refine ACalls.fresh (ACalls.body Try.f22 _ mixed Try.func22 rfl rfl (by simp [Try.ntmps22]) ?_)
  simp [encGs]
  refine callS.pure _ (fun _ => ref15_same T.length 200 (by omega)) ?_
  simp
  refine callS.pure _ (fun _ => ref15_same Q.length 200 (by omega)) ?_
  simp
  generalize hA : (AV.ro (List.replicate T.length [AV.int .i64 200])) = A
  generalize hB : (AV.ro (List.replicate Q.length [AV.int .i64 200])) = B
  have hAf : A.core = A ∧ A.gd = true := by subst hA; exact ⟨rfl, rfl⟩
  have hBf : B.core = B ∧ B.gd = true := by subst hB; exact ⟨rfl, rfl⟩
  refine AWP.up mixed T.length (fun i fr H => fr 0 = encGs T ∧ fr 1 = encGs Q ∧ fr 4 = .ptr h.length 0 0 ∧ fr 5 = .ptr (h.length + 1) 0 0 ∧ fr 6 = .int .i64 i ∧
    ∃ cs y z, Nest 1 (h.length + 2) H y cs (rowsF (crossF2 T Q) Q.length i) ∧ H[h.length]? = some (.cells 3 [z]) ∧ z.length = 3 ∧ H[h.length + 1]? = some (.cells 3 [[y, A, B]]) ∧ ∃ t, H = h ++ t) 0 (by omega)
    ⟨by simp [encGs], by simp [encGs], by simp, by simp, by simp, [], .nil, [.nil, .nil, .nil], by simp [rowsF]; exact Nest.nil, by simp, by simp, by simp, _, rfl⟩ ?_
  rintro i fr H hi ⟨e0, e1, e4, e5, e6, cs, y, z, hN, hb0, hz, hb1, hpre⟩
  have hb0' := (List.getElem?_eq_some_iff.1 hb0).2
  have hb0l := (List.getElem?_eq_some_iff.1 hb0).1
  have hb1' := (List.getElem?_eq_some_iff.1 hb1).2
  have hb1l := (List.getElem?_eq_some_iff.1 hb1).1
  have hy := hN.rs.fix
  rcases Nat.lt_or_ge i T.length with hlt | hge
  · have ew := wrap_succ' (i := i) (by omega)
    obtain ⟨a, ha, ha'⟩ := get_lt hlt
    have ha1 := h1 a (List.mem_of_getElem? ha)
    simp [encGs, e0, e1, e4, e5, e6, hlt]
    refine AWP.up mixed Q.length (fun j fr H2 => fr 0 = encGs T ∧ fr 1 = encGs Q ∧ fr 4 = .ptr h.length 0 0 ∧ fr 5 = .ptr (h.length + 1) 0 0 ∧ fr 6 = .int .i64 i ∧ fr 8 = .int .i64 j ∧
      ∃ x, fr 7 = x ∧ Ls 1 H.length H2 x ((List.range j).map fun k => [.int .i64 (crossF2 T Q i k)]) ∧ ∃ t, H2 = H ++ t) 0 (by omega)
      ⟨by simp [encGs, e0], by simp [encGs, e1], by simp [e4], by simp [e5], by simp [e6], by simp, .nil, by simp, by simp; exact Ls.nil, [], by simp⟩ ?_
    clear e0 e1 e4 e5 e6
    rintro j fr H2 hj ⟨e0, e1, e4, e5, e6, e8, x, e7, hL, t2, rfl⟩
    have hxf := hL.rs.fix
    rcases Nat.lt_or_ge j Q.length with hltj | hgej
    · have ewj := wrap_succ' (i := j) (by omega)
      obtain ⟨b, hb, hb'⟩ := get_lt hltj
      have hb1x := h2 b (List.mem_of_getElem? hb)
      simp [-appendOk, -appendK, encGs, e0, e1, e4, e5, e6, e7, e8, hltj, hlt, ha, ha', hb, hb', hxf]
      refine ⟨by decide, ?_⟩
      refine callS.pure _ (fun _ => ref15_least a b ha1.1 hb1x.1 ha1.2 hb1x.2) ?_
      simp [-appendOk, -appendK, encGs, e0, e1, e4, e5, e6, e7, e8, hltj, hlt, hxf]
      have hval : crossF2 T Q i j = crossI a b := by simp [crossF2, List.getD_eq_getElem?_getD, ha, hb]
      refine append_new (lo := H.length) (n := 1) (es := (List.range j).map fun k => [.int .i64 (crossF2 T Q i k)]) (ys := [[.int .i64 (crossI a b)]]) (by simpa using hL.more [.cells 1 [[.int .i64 (crossI a b)]]]) (by simp) (by simp [appOk]) (by simp; omega) ?_
      intro x1 H3 hx1 hg1 hn1
      have hx1f := hx1.rs.fix
      obtain ⟨t3, rfl⟩ := hg1.base H (by simp) ⟨_, by simp; rfl⟩
      simp [encGs, e0, e1, e4, e5, e6, e8, hx1f, ewj]
      refine ⟨j + 1, by omega, by omega, by omega, ?_⟩
      rw [List.range_succ, List.map_append]
      simpa [hval] using hx1
    · obtain rfl : j = Q.length := by omega
      obtain ⟨row, hrow⟩ : ∃ r, r = (List.range Q.length).map (fun k => [AV.int .i64 (crossF2 T Q i k)]) := ⟨_, rfl⟩
      rw [← hrow] at hL
      have hN2 : Nest 1 (h.length + 2) (H ++ (t2 ++ [.cells 1 [[x]]])) y cs (rowsF (crossF2 T Q) Q.length i) := hN.more _
      have hcl : cs.length = i := by have := hN.len; simpa [rowsF] using this
      generalize hHH : H ++ t2 = H2 at *
      have hlen2 : H.length ≤ H2.length := by rw [← hHH]; simp
      have hb1b : H2[h.length + 1]? = some (.cells 3 [[y, A, B]]) := by rw [← hHH, List.getElem?_append_left hb1l]; exact hb1
      have hb0b : H2[h.length]? = some (.cells 3 [z]) := by rw [← hHH, List.getElem?_append_left hb0l]; exact hb0
      have hb1b' := (List.getElem?_eq_some_iff.1 hb1b).2
      have hb1bl := (List.getElem?_eq_some_iff.1 hb1b).1
      have hb0bl := (List.getElem?_eq_some_iff.1 hb0b).1
      simp [-appendOk, -appendK, -acells, -AV.solid, encGs, e0, e1, e4, e5, e6, e7, e8, hxf, hy, hb1b, hb1b', hb1bl]
      rw [← List.append_assoc, hHH] at hN2
      refine append_new (lo := h.length + 2) (n := 1) (es := cs.map fun c => [c]) (ys := [[x]]) hN2.out (by simp; omega) (by simp [appOk]) (by simp; omega) ?_
      intro y1 H1 hy1 hg1 hn1
      have hbb1 : H1[h.length + 1]? = some (.cells 3 [[y, A, B]]) := hg1.keep _ _ (by rw [List.getElem?_append_left hb1bl]; exact hb1b) (fun off len e => by have := hN.xlt e; omega)
      have hbb0 : H1[h.length]? = some (.cells 3 [z]) := hg1.keep _ _ (by rw [List.getElem?_append_left hb0bl]; exact hb0b) (fun off len e => by have := hN.xlt e; omega)
      have hbb1' := (List.getElem?_eq_some_iff.1 hbb1).2
      have hbb1l := (List.getElem?_eq_some_iff.1 hbb1).1
      have hbb0l := (List.getElem?_eq_some_iff.1 hbb0).1
      have hy1f := hy1.rs.fix
      have hN3 := hN2.add (c := x) (r := row) hg1 (by simpa using hy1) (hL.rs.append _) (fun b off len e => by
        have hbl : H.length ≤ b := by
          rcases hL.1 with ⟨e1, _⟩ | ⟨b1, e1, h1, _⟩
          · rw [e1] at e; cases e
          · rw [e1] at e; injection e with e2; omega
        refine ⟨by omega, fun off' len' e' => ?_, fun off' len' e' => ?_⟩
        · have := hN.xlt e'; omega
        · have := hN.lt e'; omega) hn1
      have hN4 := hN3.put0 (b := h.length + 1) (o := .cells 3 [[y1, A, B]]) (by omega)
      obtain ⟨t, ht⟩ := hpre
      obtain ⟨t1, ht1⟩ := hg1.base h (by omega) ⟨t ++ t2 ++ [.cells 1 [[x]]], by rw [← hHH, ht]; simp⟩
      simp [-appendOk, -appendK, -acells, -AV.solid, encGs, e0, e1, e4, e5, e6, e7, e8, hbb1, hbb1', hbb1l, hy1f, ew]
      refine ⟨i + 1, by omega, by omega, by omega, cs ++ [x], y1, by rw [rowsF_succ, ← hrow]; exact hN4, z, hbb0, hz, rfl, ?_⟩
      exact ⟨t1.set 1 (.cells 3 [[y1, A, B]]), by rw [ht1, List.set_append_right _ _ (by omega)]; simp⟩
  · obtain rfl : i = T.length := by omega
    simp [encGs, e0, e1, e4, e5, e6, hb0, hb0', hb0l, hb1, hb1', hb1l, hz, hy, hAf, hBf]
    obtain ⟨t, ht⟩ := hpre
    have hN2 := hN.low (lo' := h.length + 1) (by omega)
    have hN3 := hN2.put0 (b := h.length) (o := .cells 3 [y :: A :: B :: List.drop 3 z]) (by omega)
    have hpr : H.set h.length (.cells 3 [y :: A :: B :: List.drop 3 z]) = h ++ t.set 0 (.cells 3 [y :: A :: B :: List.drop 3 z]) := by rw [ht, List.set_append_right _ _ (by omega)]; simp
    refine ⟨_, hpr, ?_⟩
    rw [← hpr]
    subst hA hB
    exact tab_frz hN3 (by omega)
set_option maxHeartbeats 1000000 in
theorem ref15_Loops (T : List TPass) (ls : List Int) (Q : List TSeen) (hT : T.length ≤ 100000) (hQ : Q.length ≤ 100000) (h1 : ∀ x ∈ T, mid x.time) (h2 : ∀ s ∈ Q, mid s.time) :
    ACalls Try.prog gl 27 [.ro (T.map encPass), .ro (ls.map encI), .ro (Q.map encSeen)] h fun x h' => x = .agg (tabF (loopF T ls Q) T.length Q.length 100) ∧ h' = h := by
  refine ACalls.fresh (ACalls.body Try.f27 _ mixed Try.func27 rfl rfl (by simp [Try.ntmps27]) ?_)
  simp
  refine callS.pure _ (fun _ => ref15_same T.length 100 (by omega)) ?_
  simp
  refine callS.pure _ (fun _ => ref15_same Q.length 100 (by omega)) ?_
  simp
  generalize hA : (AV.ro (List.replicate T.length [AV.int .i64 100])) = A
  generalize hB : (AV.ro (List.replicate Q.length [AV.int .i64 100])) = B
  have hAf : A.core = A ∧ A.gd = true := by subst hA; exact ⟨rfl, rfl⟩
  have hBf : B.core = B ∧ B.gd = true := by subst hB; exact ⟨rfl, rfl⟩
  refine AWP.up mixed T.length (fun i fr H => fr 0 = .ro (T.map encPass) ∧ fr 1 = .ro (ls.map encI) ∧ fr 2 = .ro (Q.map encSeen) ∧ fr 6 = .ptr h.length 0 0 ∧ fr 7 = .ptr (h.length + 1) 0 0 ∧ fr 8 = .int .i64 i ∧
    ∃ cs y z, Nest 1 (h.length + 2) H y cs (rowsF (loopF T ls Q) Q.length i) ∧ H[h.length]? = some (.cells 3 [z]) ∧ z.length = 3 ∧ H[h.length + 1]? = some (.cells 3 [[y, A, B]]) ∧ ∃ t, H = h ++ t) 0 (by omega)
    ⟨by simp, by simp, by simp, by simp, by simp, by simp, [], .nil, [.nil, .nil, .nil], by simp [rowsF]; exact Nest.nil, by simp, by simp, by simp, _, rfl⟩ ?_
  rintro i fr H hi ⟨e0, e1, e2, e6, e7, e8, cs, y, z, hN, hb0, hz, hb1, hpre⟩
  have hb0' := (List.getElem?_eq_some_iff.1 hb0).2
  have hb0l := (List.getElem?_eq_some_iff.1 hb0).1
  have hb1' := (List.getElem?_eq_some_iff.1 hb1).2
  have hb1l := (List.getElem?_eq_some_iff.1 hb1).1
  have hy := hN.rs.fix
  rcases Nat.lt_or_ge i T.length with hlt | hge
  · have ew := wrap_succ' (i := i) (by omega)
    obtain ⟨a, ha, ha'⟩ := get_lt hlt
    have ha1 := h1 a (List.mem_of_getElem? ha)
    have hlv : (i < ls.length ∧ ls[i]? = some (laneAt ls i) ∧ ∀ hi : i < ls.length, ls[i] = laneAt ls i) ∨ (¬ i < ls.length ∧ laneAt ls i = 0 ∧ ls[i]? = none) := by
      rcases Nat.lt_or_ge i ls.length with c | c
      · obtain ⟨n, hn, hn'⟩ := get_lt c
        have e : laneAt ls i = n := by simp [laneAt, List.getD_eq_getElem?_getD, hn]
        rw [e]
        exact .inl ⟨c, hn, fun _ => hn'⟩
      · have hn : ls[i]? = none := List.getElem?_eq_none c
        exact .inr ⟨Nat.not_lt.2 c, by simp [laneAt, List.getD_eq_getElem?_getD, hn], hn⟩
    rcases hlv with ⟨c, hn, hn'⟩ | ⟨c, hn, hn'⟩
    all_goals
      simp [e0, e1, e2, e6, e7, e8, hlt, c, hn, hn']
      refine AWP.up mixed Q.length (fun j fr H2 => fr 0 = .ro (T.map encPass) ∧ fr 1 = .ro (ls.map encI) ∧ fr 2 = .ro (Q.map encSeen) ∧ fr 6 = .ptr h.length 0 0 ∧ fr 7 = .ptr (h.length + 1) 0 0 ∧ fr 8 = .int .i64 i ∧ fr 9 = .int .i64 (laneAt ls i) ∧ fr 11 = .int .i64 j ∧
        ∃ x, fr 10 = x ∧ Ls 1 H.length H2 x ((List.range j).map fun k => [.int .i64 (loopF T ls Q i k)]) ∧ ∃ t, H2 = H ++ t) 0 (by omega)
        ⟨by simp [e0], by simp [e1], by simp [e2], by simp [e6], by simp [e7], by simp [e8], by simp [hn], by simp, .nil, by simp, by simp; exact Ls.nil, [], by simp⟩ ?_
      clear e0 e1 e2 e6 e7 e8
      rintro j fr H2 hj ⟨e0, e1, e2, e6, e7, e8, e9, e11, x, e10, hL, t2, rfl⟩
      have hxf := hL.rs.fix
      rcases Nat.lt_or_ge j Q.length with hltj | hgej
      · have ewj := wrap_succ' (i := j) (by omega)
        obtain ⟨b, hb, hb'⟩ := get_lt hltj
        have hb1x := h2 b (List.mem_of_getElem? hb)
        simp [-appendOk, -appendK, e0, e1, e2, e6, e7, e8, e9, e10, e11, hltj, hlt, ha, ha', hb, hb', hxf]
        refine ⟨by decide, ?_⟩
        refine callS.pure _ (fun _ => ref15_Axles a (laneAt ls i) b ha1 hb1x) ?_
        simp [-appendOk, -appendK, e0, e1, e2, e6, e7, e8, e9, e10, e11, hltj, hlt, hxf]
        have hval : loopF T ls Q i j = axlesI a.point a.time (laneAt ls i) b := by simp [loopF, List.getD_eq_getElem?_getD, ha, hb]
        refine append_new (lo := H.length) (n := 1) (es := (List.range j).map fun k => [.int .i64 (loopF T ls Q i k)]) (ys := [[.int .i64 (axlesI a.point a.time (laneAt ls i) b)]]) (by simpa using hL.more [.cells 1 [[.int .i64 (axlesI a.point a.time (laneAt ls i) b)]]]) (by simp) (by simp [appOk]) (by simp; omega) ?_
        intro x1 H3 hx1 hg1 hn1
        have hx1f := hx1.rs.fix
        obtain ⟨t3, rfl⟩ := hg1.base H (by simp) ⟨_, by simp; rfl⟩
        simp [e0, e1, e2, e6, e7, e8, e9, e11, hx1f, ewj]
        refine ⟨j + 1, by omega, by omega, by omega, ?_⟩
        rw [List.range_succ, List.map_append]
        simpa [hval] using hx1
      · obtain rfl : j = Q.length := by omega
        obtain ⟨row, hrow⟩ : ∃ r, r = (List.range Q.length).map (fun k => [AV.int .i64 (loopF T ls Q i k)]) := ⟨_, rfl⟩
        rw [← hrow] at hL
        have hN2 : Nest 1 (h.length + 2) (H ++ (t2 ++ [.cells 1 [[x]]])) y cs (rowsF (loopF T ls Q) Q.length i) := hN.more _
        have hcl : cs.length = i := by have := hN.len; simpa [rowsF] using this
        generalize hHH : H ++ t2 = H2 at *
        have hlen2 : H.length ≤ H2.length := by rw [← hHH]; simp
        have hb1b : H2[h.length + 1]? = some (.cells 3 [[y, A, B]]) := by rw [← hHH, List.getElem?_append_left hb1l]; exact hb1
        have hb0b : H2[h.length]? = some (.cells 3 [z]) := by rw [← hHH, List.getElem?_append_left hb0l]; exact hb0
        have hb1b' := (List.getElem?_eq_some_iff.1 hb1b).2
        have hb1bl := (List.getElem?_eq_some_iff.1 hb1b).1
        have hb0bl := (List.getElem?_eq_some_iff.1 hb0b).1
        simp [-appendOk, -appendK, -acells, -AV.solid, e0, e1, e2, e6, e7, e8, e9, e10, e11, hxf, hy, hb1b, hb1b', hb1bl]
        rw [← List.append_assoc, hHH] at hN2
        refine append_new (lo := h.length + 2) (n := 1) (es := cs.map fun c => [c]) (ys := [[x]]) hN2.out (by simp; omega) (by simp [appOk]) (by simp; omega) ?_
        intro y1 H1 hy1 hg1 hn1
        have hbb1 : H1[h.length + 1]? = some (.cells 3 [[y, A, B]]) := hg1.keep _ _ (by rw [List.getElem?_append_left hb1bl]; exact hb1b) (fun off len e => by have := hN.xlt e; omega)
        have hbb0 : H1[h.length]? = some (.cells 3 [z]) := hg1.keep _ _ (by rw [List.getElem?_append_left hb0bl]; exact hb0b) (fun off len e => by have := hN.xlt e; omega)
        have hbb1' := (List.getElem?_eq_some_iff.1 hbb1).2
        have hbb1l := (List.getElem?_eq_some_iff.1 hbb1).1
        have hbb0l := (List.getElem?_eq_some_iff.1 hbb0).1
        have hy1f := hy1.rs.fix
        have hN3 := hN2.add (c := x) (r := row) hg1 (by simpa using hy1) (hL.rs.append _) (fun b off len e => by
          have hbl : H.length ≤ b := by
            rcases hL.1 with ⟨e1, _⟩ | ⟨b1, e1, h1, _⟩
            · rw [e1] at e; cases e
            · rw [e1] at e; injection e with e2; omega
          refine ⟨by omega, fun off' len' e' => ?_, fun off' len' e' => ?_⟩
          · have := hN.xlt e'; omega
          · have := hN.lt e'; omega) hn1
        have hN4 := hN3.put0 (b := h.length + 1) (o := .cells 3 [[y1, A, B]]) (by omega)
        obtain ⟨t, ht⟩ := hpre
        obtain ⟨t1, ht1⟩ := hg1.base h (by omega) ⟨t ++ t2 ++ [.cells 1 [[x]]], by rw [← hHH, ht]; simp⟩
        simp [-appendOk, -appendK, -acells, -AV.solid, e0, e1, e2, e6, e7, e8, e9, e10, e11, hbb1, hbb1', hbb1l, hy1f, ew]
        refine ⟨i + 1, by omega, by omega, by omega, cs ++ [x], y1, by rw [rowsF_succ, ← hrow]; exact hN4, z, hbb0, hz, rfl, ?_⟩
        exact ⟨t1.set 1 (.cells 3 [[y1, A, B]]), by rw [ht1, List.set_append_right _ _ (by omega)]; simp⟩
  · obtain rfl : i = T.length := by omega
    simp [e0, e1, e2, e6, e7, e8, hb0, hb0', hb0l, hb1, hb1', hb1l, hz, hy, hAf, hBf]
    obtain ⟨t, ht⟩ := hpre
    have hN2 := hN.low (lo' := h.length + 1) (by omega)
    have hN3 := hN2.put0 (b := h.length) (o := .cells 3 [y :: A :: B :: List.drop 3 z]) (by omega)
    have hpr : H.set h.length (.cells 3 [y :: A :: B :: List.drop 3 z]) = h ++ t.set 0 (.cells 3 [y :: A :: B :: List.drop 3 z]) := by rw [ht, List.set_append_right _ _ (by omega)]; simp
    refine ⟨_, hpr, ?_⟩
    rw [← hpr]
    subst hA hB
    exact tab_frz hN3 (by omega)
end Go.Proofs.Ytmnmbkcdjpidgaa
