/-
  Contracts: tables of costs of vehicles, plates and loops.
-/
import Derived.Test.YtmnmbkcdjpidgaaMatrixR
import Derived.Test.YtmnmbkcdjpidgaaInsert
import Derived.Test.YtmnmbkcdjpidgaaAbsList
set_option linter.unusedVariables false
set_option linter.unusedSimpArgs false
set_option maxRecDepth 100000
namespace Go.Proofs.Ytmnmbkcdjpidgaa
open Go Go.Abs Go.Toll
variable {gl : Globs} {h : AHeap}

def rowsF (c : Nat → Nat → Int) (m : Nat) (n : Nat) : List (List (List AV)) := (List.range n).map fun i => (List.range m).map fun j => [.int .i64 (c i j)]
def tabF (c : Nat → Nat → Int) (n m : Nat) (v : Int) : List AV := encMat ((List.range n).map fun i => (List.range m).map (c i)) (List.replicate n v) (List.replicate m v)
theorem rowsF_succ (c : Nat → Nat → Int) (m n : Nat) : rowsF c m (n + 1) = rowsF c m n ++ [(List.range m).map fun j => [.int .i64 (c n j)]] := by simp [rowsF, List.range_succ]
theorem rowsF_data (c : Nat → Nat → Int) (m n : Nat) : ∀ r ∈ rowsF c m n, ∀ e ∈ r, ∀ y ∈ e, y.Data := by
  intro r hr e he y hy
  obtain ⟨i, _, rfl⟩ := List.mem_map.1 hr
  obtain ⟨j, _, rfl⟩ := List.mem_map.1 he
  simp at hy; subst hy; simp
theorem tab_frz {lo n m : Nat} {H : AHeap} {y : AV} {cs : List AV} {c : Nat → Nat → Int} {v : Int} {k : Nat} (q : Nest 1 lo H y cs (rowsF c m n)) (hk : k ≤ lo) :
    Frz k H (.agg [y, .ro (List.replicate n [.int .i64 v]), .ro (List.replicate m [.int .i64 v])]) (.agg (tabF c n m v)) := by
  have h1 := q.frz hk (rowsF_data c m n)
  have e : (rowsF c m n).map (fun r => [AV.ro r]) = ((List.range n).map fun i => (List.range m).map (c i)).map fun w => [.ro (w.map fun n => [.int .i64 n])] := by
    simp [rowsF]
  rw [e] at h1
  refine .agg' (.cons h1 (.cons ?_ (.cons ?_ .nil))) <;> rw [List.map_replicate]
  · exact .data _ (.ro _ (by simp))
  · exact .data _ (.ro _ (by simp))
set_option maxHeartbeats 1000000 in
theorem score_problem (n m : Nat) (v : Int) (f : FuncId) (caps : List AV) (c : Nat → Nat → Int) (hn : n ≤ 100000) (hm : m ≤ 100000)
    (hc : ∀ i j, i < n → j < m → ∀ g, ACalls Try.prog gl f ([.int .i64 i, .int .i64 j] ++ caps) (h ++ g) fun w h' => w = .int .i64 (c i j) ∧ h' = h ++ g) :
    ACalls Try.prog gl 42 [.int .i64 n, .int .i64 m, .int .i64 v, .fn (.func f) [] caps] h fun x h' => x = .agg (tabF c n m v) ∧ h' = h := by
  refine ACalls.fresh (ACalls.body Try.f42 _ mixed Try.func42 rfl rfl (by simp [Try.ntmps42]) ?_)
  simp
  refine callS.pure _ (fun _ => score_constants n v (by omega)) ?_
  simp
  refine callS.pure _ (fun _ => score_constants m v (by omega)) ?_
  simp
  generalize hA : (AV.ro (List.replicate n [AV.int .i64 v])) = A
  generalize hB : (AV.ro (List.replicate m [AV.int .i64 v])) = B
  have hAf : A.core = A ∧ A.gd = true := by subst hA; exact ⟨rfl, rfl⟩
  have hBf : B.core = B ∧ B.gd = true := by subst hB; exact ⟨rfl, rfl⟩
  refine AWP.up mixed n (fun i fr H => fr 0 = .int .i64 n ∧ fr 1 = .int .i64 m ∧ fr 3 = .fn (.func f) [] caps ∧ fr 8 = .ptr h.length 0 0 ∧ fr 9 = .ptr (h.length + 1) 0 0 ∧ fr 20 = .int .i64 n ∧ fr 21 = .int .i64 i ∧
    ∃ cs y z, Nest 1 (h.length + 2) H y cs (rowsF c m i) ∧ H[h.length]? = some (.cells 3 [z]) ∧ z.length = 3 ∧ H[h.length + 1]? = some (.cells 3 [[y, A, B]]) ∧ ∃ t, H = h ++ t) 0 (by omega)
    ⟨by simp, by simp, by simp, by simp, by simp, by simp, by simp, [], .nil, [.nil, .nil, .nil], by simp [rowsF]; exact Nest.nil, by simp, by simp, by simp, _, rfl⟩ ?_
  rintro i fr H hi ⟨e0, e1, e3, e8, e9, e20, e21, cs, y, z, hN, hb0, hz, hb1, hpre⟩
  have hb0' := (List.getElem?_eq_some_iff.1 hb0).2
  have hb0l := (List.getElem?_eq_some_iff.1 hb0).1
  have hb1' := (List.getElem?_eq_some_iff.1 hb1).2
  have hb1l := (List.getElem?_eq_some_iff.1 hb1).1
  have hy := hN.rs.fix
  rcases Nat.lt_or_ge i n with hlt | hge
  · have ew := wrap_succ' (i := i) (by omega)
    simp [e0, e1, e3, e8, e9, e20, e21, hlt]
    refine ⟨⟨by omega, by omega⟩, ?_⟩
    refine AWP.up mixed m (fun j fr H2 => fr 0 = .int .i64 n ∧ fr 1 = .int .i64 m ∧ fr 3 = .fn (.func f) [] caps ∧ fr 8 = .ptr h.length 0 0 ∧ fr 9 = .ptr (h.length + 1) 0 0 ∧ fr 10 = .int .i64 i ∧ fr 11 = .own H.length 0 m ∧ fr 20 = .int .i64 n ∧ fr 21 = .int .i64 i ∧ fr 27 = .int .i64 m ∧ fr 28 = .int .i64 j ∧
      H2 = H ++ [.cells 1 (fillC (fun j => [AV.int .i64 (c i j)]) zN m j)]) 0 (by omega)
      ⟨by simp [e0], by simp [e1], by simp [e3], by simp [e8], by simp [e9], by simp, by simp, by simp [e20], by simp [e21], by simp, by simp, by rw [← fillC_zero]; rfl⟩ ?_
    clear e0 e1 e3 e8 e9 e20 e21
    rintro j fr H2 hj ⟨e0, e1, e3, e8, e9, e10, e11, e20, e21, e27, e28, rfl⟩
    have hfl := fillC_len (fun j => [AV.int .i64 (c i j)]) zN (n := m) (i := j) (by omega)
    rcases Nat.lt_or_ge j m with hltj | hgej
    · have ewj := wrap_succ' (i := j) (by omega)
      have ha := fillC_at (fun j => [AV.int .i64 (c i j)]) zN (n := m) (i := j) (by omega)
      have ha' := (List.getElem?_eq_some_iff.1 ha).2
      have hset := fillC_set (fun j => [AV.int .i64 (c i j)]) zN hltj
      obtain ⟨t, ht⟩ := hpre
      simp [e0, e1, e3, e8, e9, e10, e11, e20, e21, e27, e28, hltj]
      refine callS.pure (.int .i64 (c i j)) (fun _ => by
        have := hc i j hlt hltj (t ++ [.cells 1 (fillC (fun j => [AV.int .i64 (c i j)]) zN m j)])
        rw [← List.append_assoc, ← ht] at this
        simpa using this) ?_
      simp [e0, e1, e3, e8, e9, e10, e11, e20, e21, e27, e28, hltj, ewj, hfl, ha, ha', zN_len, zN_tail]
      exact ⟨j + 1, by omega, by omega, by omega, hset⟩
    · obtain rfl : j = m := by omega
      have hall := fillC_all (fun j => [AV.int .i64 (c i j)]) zN j
      have hone : ∀ e ∈ (List.range j).map (fun j => [AV.int .i64 (c i j)]), e.length = 1 := by
        intro e he
        obtain ⟨_, _, rfl⟩ := List.mem_map.1 he
        rfl
      rw [hall] at *
      simp [-appendOk, -appendK, e0, e1, e3, e8, e9, e10, e11, e20, e21, e27, e28, hb1, hb1', hb1l, hy]
      obtain ⟨row, hrow⟩ : ∃ r, r = (List.range j).map (fun k => [AV.int .i64 (c i k)]) := ⟨_, rfl⟩
      rw [← hrow] at hone ⊢
      have hrl : row.length = j := by rw [hrow]; simp
      have hN2 : Nest 1 (h.length + 2) (H ++ [.cells 1 row, .cells 1 [[.own H.length 0 j]]]) y cs (rowsF c j i) := hN.more _
      refine append_new (lo := h.length + 2) (n := 1) (es := cs.map fun c => [c]) (ys := [[.own H.length 0 j]]) hN2.out (by simp; omega) (by simp [appOk]) (by have := hN.len; simp [rowsF] at this; simp; omega) ?_
      intro y1 H1 hy1 hg1 hn1
      have hbb1 : H1[h.length + 1]? = some (.cells 3 [[y, A, B]]) := hg1.keep _ _ (by rw [List.getElem?_append_left hb1l]; exact hb1) (fun off len e => by have := hN.xlt e; omega)
      have hbb0 : H1[h.length]? = some (.cells 3 [z]) := hg1.keep _ _ (by rw [List.getElem?_append_left hb0l]; exact hb0) (fun off len e => by have := hN.xlt e; omega)
      have hbb1' := (List.getElem?_eq_some_iff.1 hbb1).2
      have hbb1l := (List.getElem?_eq_some_iff.1 hbb1).1
      have hbb0l := (List.getElem?_eq_some_iff.1 hbb0).1
      have hy1f := hy1.rs.fix
      have hN3 := hN2.add (c := .own H.length 0 j) (r := row) hg1 (by simpa using hy1) (by
          rw [show j = row.length from hrl.symm]
          exact Rs.own (by simp) hone) (fun b off len e => by
        injection e with e1 e2 e3
        refine ⟨by omega, fun off' len' e' => ?_, fun off' len' e' => ?_⟩
        · have := hN.xlt e'; omega
        · have := hN.lt e'; omega) hn1
      have hN4 := hN3.put0 (b := h.length + 1) (o := .cells 3 [[y1, A, B]]) (by omega)
      obtain ⟨t, ht⟩ := hpre
      obtain ⟨t1, ht1⟩ := hg1.base h (by omega) ⟨t ++ [.cells 1 row, .cells 1 [[.own H.length 0 j]]], by rw [ht]; simp⟩
      simp [-appendOk, -appendK, -acells, -AV.solid, e0, e1, e3, e8, e9, e10, e11, e20, e21, e27, e28, hbb1, hbb1', hbb1l, hy1f, ew]
      refine ⟨i + 1, by omega, by omega, by omega, cs ++ [.own H.length 0 j], y1, by rw [rowsF_succ, ← hrow]; exact hN4, z, hbb0, hz, rfl, ?_⟩
      exact ⟨t1.set 1 (.cells 3 [[y1, A, B]]), by rw [ht1, List.set_append_right _ _ (by omega)]; simp⟩
  · obtain rfl : i = n := by omega
    simp [e0, e1, e3, e8, e9, e20, e21, hb0, hb0', hb0l, hb1, hb1', hb1l, hz, hy, hAf, hBf]
    obtain ⟨t, ht⟩ := hpre
    have hN2 := hN.low (lo' := h.length + 1) (by omega)
    have hN3 := hN2.put0 (b := h.length) (o := .cells 3 [y :: A :: B :: List.drop 3 z]) (by omega)
    have hpr : H.set h.length (.cells 3 [y :: A :: B :: List.drop 3 z]) = h ++ t.set 0 (.cells 3 [y :: A :: B :: List.drop 3 z]) := by rw [ht, List.set_append_right _ _ (by omega)]; simp
    refine ⟨_, hpr, ?_⟩
    rw [← hpr]
    subst hA hB
    exact tab_frz hN3 (by omega)
theorem tab_data (c : Nat → Nat → Int) (n m : Nat) (v : Int) : (AV.agg (tabF c n m v)).Data := by
  refine .agg _ fun x hx => ?_
  simp [tabF, encMat] at hx
  rcases hx with rfl | rfl | rfl
  · refine .ro _ fun e he y hy => ?_
    simp at he
    obtain ⟨i, _, rfl⟩ := he
    simp at hy; subst hy
    exact .ro _ (by simp)
  · exact .ro _ (by simp)
  · exact .ro _ (by simp)
def crossF2 (T Q : List (List TSeen)) (i j : Nat) : Int := crossI (T.getD i []) (Q.getD j [])
def laneAt (l : List Int) (i : Nat) : Int := l.getD i 0
def loopF (ps : List TPass) (ls : List Int) (l : List TSeen) (i j : Nat) : Int := axlesI ((ps.map TPass.point).getD i []) ((ps.map TPass.time).getD i 0) (laneAt ls i) (l.getD j seen0)
theorem score_Matrix (T Q : List (List TSeen)) (hT : T.length ≤ 100000) (hQ : Q.length ≤ 100000) (h1 : ∀ g ∈ T, g.length ≤ 1000 ∧ ∀ s ∈ g, mid s.time) (h2 : ∀ g ∈ Q, g.length ≤ 1000 ∧ ∀ s ∈ g, mid s.time) :
    ACalls Try.prog gl 21 [encGs T, encGs Q] h fun x h' => x = .agg (tabF (crossF2 T Q) T.length Q.length 200) ∧ h' = h := by
  refine ACalls.data (tab_data ..) (ACalls.body Try.f21 _ mixed Try.func21 rfl rfl (by simp [Try.ntmps21]) ?_)
  simp [encGs]
  refine callS.pure _ (fun _ => score_problem T.length Q.length 200 _ _ (crossF2 T Q) hT hQ fun i j hi hj g => ?_) ?_
  · obtain ⟨a, ha, _⟩ := get_lt hi
    obtain ⟨b, hb, _⟩ := get_lt hj
    have ha1 := h1 a (List.mem_of_getElem? ha)
    have hb1 := h2 b (List.mem_of_getElem? hb)
    have := score_Matrix1 (gl := gl) (h := h ++ [.cells 1 [[encGs T]], .cells 1 [[encGs Q]], .cells 3 [[.nil, .nil, .nil]]] ++ g) T Q h.length (h.length + 1) i j a b (by simp) (by simp) ha hb ha1.1 hb1.1 ha1.2 hb1.2
    simpa [crossF2, List.getD_eq_getElem?_getD, ha, hb, encGs] using this
  · simp [tabF, encMat]
end Go.Proofs.Ytmnmbkcdjpidgaa
