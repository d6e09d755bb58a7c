/-
  Contracts: which passages follow which; the time needed between two; copies of passages.
-/
import Derived.Test.YtjdchnbjegddhaaMoveB
import Derived.Test.YtjdchnbjegddhaaTollChain
set_option linter.unusedVariables false
set_option linter.unusedSimpArgs false
set_option maxRecDepth 100000
namespace Go.Proofs.Ytjdchnbjegddhaa
open Go Go.Abs Go.Toll
variable {gl : Globs} {h : AHeap}

/-- A block that stands in the heap. -/
theorem at3 {H : AHeap} {b : Nat} {o : AObj} (h : H[b]? = some o) : H[b]? = some o ∧ b < H.length ∧ ∀ hl : b < H.length, H[b] = o := ⟨h, (List.getElem?_eq_some_iff.1 h).1, fun _ => (List.getElem?_eq_some_iff.1 h).2⟩
theorem at_more {H : AHeap} {b : Nat} {o : AObj} (h : H[b]? = some o) (g : AHeap) : (H ++ g)[b]? = some o := by rw [List.getElem?_append_left (lt_of_get h)]; exact h
set_option maxHeartbeats 1000000 in
theorem chain_Feasible (t : Topo) (l : List TPass) (x : AV) (hx : Rs 8 h x (l.map encPass)) (hn : l.length ≤ 1000000) (hp : t.net.pts.length ≤ 1000) (hl : t.net.lks.length ≤ 1000) (hs : t.sys.length ≤ 1000) : ACalls Try.prog gl 13 [.agg (encTopo t), x] h fun v h' => v = .bool (chnB (validT t).net l) ∧ h' = h := by
  refine ACalls.data (.bool _) (ACalls.body Try.f13 _ mixed Try.func13 rfl rfl (by simp [Try.ntmps13]) ?_)
  have fx := hx.fix
  have hxm : ∀ g, Rs 8 (h ++ g) x (l.map encPass) := hx.append
  simp [fx]
  refine AWP.up mixed (l.length + 1) (fun i fr H => fr 1 = x ∧ fr 2 = .ptr h.length 0 0 ∧ fr 5 = .int .i64 (i + 1 : Nat) ∧ chnB (validT t).net l = chnB (validT t).net (l.drop i) ∧ H = h ++ [.cells 3 [encTopo t]]) 0 (by omega) ⟨by simp, by simp, by simp, by simp, by simp⟩ ?_
  rintro i fr H hi ⟨e1, e2, e5, hf, rfl⟩
  have hy := hxm [.cells 3 [encTopo t]]
  simp only [encTopo] at hy
  rcases Nat.lt_or_ge (i + 1) l.length with hlt | hge
  · obtain ⟨a, ha, ha'⟩ := get_lt (l := l) (i := i) (by omega)
    obtain ⟨b, hb, hb'⟩ := get_lt hlt
    rw [chnB_drop ha hb] at hf
    have hlt' : ((i + 1 : Nat) : Int) < l.length := by omega
    have ew : IntKind.i64.wrap (((i + 1 : Nat) : Int) + 1) = ((i + 1 + 1 : Nat) : Int) := by rw [wrap64_of (by omega) (by omega)]; omega
    have ew2 : IntKind.i64.wrap (((i + 1 : Nat) : Int) - 1) = (i : Int) := by rw [wrap64_of (by omega) (by omega)]; omega
    have r1 := Rs.ix Try.prog hy i (by omega) (y := encPass a) (by simp [ha])
    have r2 := Rs.ix Try.prog hy (i + 1 : Nat) (by omega) (y := encPass b) (by simp [hb])
    simp [-Int.natCast_add, e1, e2, e5, hlt', hlt, fx, hy.len2, ew, ew2, r1, r2]
    refine ⟨by decide, ?_⟩
    refine callS.pure _ (fun _ => topology_Feasible t a b hp hl hs) ?_
    simp [-Int.natCast_add, e1, e2, e5, ew, fx]
    have hfe : feasM (validT t).net a.point b.point a.time b.time = fe (validT t).net a b := rfl
    rw [hfe]
    refine ⟨fun q => ?_, fun q => ⟨i + 1, by omega, by omega, by omega, ?_⟩⟩
    · rw [hf, q]; rfl
    · rw [hf, q]; rfl
  · have hlt' : ¬ ((i + 1 : Nat) : Int) < l.length := by omega
    rw [chnB_end (by omega)] at hf
    simp [-Int.natCast_add, e1, e2, e5, hlt', Nat.not_lt.2 hge, fx, hy.len2, hf]
set_option maxHeartbeats 1000000 in
theorem ref19_Feasible (t : Topo) (l : List TPass) (x : AV) (hx : Rs 8 h x (l.map encPass)) (hn : l.length ≤ 1000000) (hp : t.net.pts.length ≤ 1000) (hl : t.net.lks.length ≤ 1000) (hs : t.sys.length ≤ 1000) : ACalls Try.prog gl 14 [.agg (encTopo t), x] h fun v h' => v = .bool (chnB (validT t).net l) ∧ h' = h := by
  refine ACalls.data (.bool _) (ACalls.body Try.f14 _ mixed Try.func14 rfl rfl (by simp [Try.ntmps14]) ?_)
  have fx := hx.fix
  have hxm : ∀ g, Rs 8 (h ++ g) x (l.map encPass) := hx.append
  simp [fx]
  refine AWP.up mixed (l.length + 1) (fun i fr H => fr 1 = x ∧ fr 2 = .ptr h.length 0 0 ∧ fr 5 = .int .i64 (i + 1 : Nat) ∧ chnB (validT t).net l = chnB (validT t).net (l.drop i) ∧ H = h ++ [.cells 3 [encTopo t]]) 0 (by omega) ⟨by simp, by simp, by simp, by simp, by simp⟩ ?_
  rintro i fr H hi ⟨e1, e2, e5, hf, rfl⟩
  have hy := hxm [.cells 3 [encTopo t]]
  simp only [encTopo] at hy
  rcases Nat.lt_or_ge (i + 1) l.length with hlt | hge
  · obtain ⟨a, ha, ha'⟩ := get_lt (l := l) (i := i) (by omega)
    obtain ⟨b, hb, hb'⟩ := get_lt hlt
    rw [chnB_drop ha hb] at hf
    have hlt' : ((i + 1 : Nat) : Int) < l.length := by omega
    have ew : IntKind.i64.wrap (((i + 1 : Nat) : Int) + 1) = ((i + 1 + 1 : Nat) : Int) := by rw [wrap64_of (by omega) (by omega)]; omega
    have ew2 : IntKind.i64.wrap (((i + 1 : Nat) : Int) - 1) = (i : Int) := by rw [wrap64_of (by omega) (by omega)]; omega
    have r1 := Rs.ix Try.prog hy i (by omega) (y := encPass a) (by simp [ha])
    have r2 := Rs.ix Try.prog hy (i + 1 : Nat) (by omega) (y := encPass b) (by simp [hb])
    simp [-Int.natCast_add, e1, e2, e5, hlt', hlt, fx, hy.len2, ew, ew2, r1, r2]
    refine ⟨by decide, ?_⟩
    refine callS.pure _ (fun _ => ref18_Feasible t a b hp hl hs) ?_
    simp [-Int.natCast_add, e1, e2, e5, ew, fx]
    have hfe : feasM (validT t).net a.point b.point a.time b.time = fe (validT t).net a b := rfl
    rw [hfe]
    refine ⟨fun q => ?_, fun q => ⟨i + 1, by omega, by omega, by omega, ?_⟩⟩
    · rw [hf, q]; rfl
    · rw [hf, q]; rfl
  · have hlt' : ¬ ((i + 1 : Nat) : Int) < l.length := by omega
    rw [chnB_end (by omega)] at hf
    simp [-Int.natCast_add, e1, e2, e5, hlt', Nat.not_lt.2 hge, fx, hy.len2, hf]
def rowsF (v : Net) (l : List TPass) (i : Nat) : List (List AV) := (List.range i).map fun i => [AV.ro ((folL (gL v l) l.length i).map encIx)]
theorem rowsF_succ (v : Net) (l : List TPass) (i : Nat) : rowsF v l (i + 1) = rowsF v l i ++ [[AV.ro ((folL (gL v l) l.length i).map encIx)]] := by rw [rowsF, List.range_succ, List.map_append, rowsF]; rfl
theorem rowsF_len (v : Net) (l : List TPass) (i : Nat) : (rowsF v l i).length = i := by simp [rowsF]
theorem rowsF_get {v : Net} {l : List TPass} {n i : Nat} (h : i < n) : (rowsF v l n)[i]? = some [AV.ro ((folL (gL v l) l.length i).map encIx)] := by simp [rowsF, h]
theorem rowsF_data (v : Net) (l : List TPass) (i : Nat) : ∀ e ∈ rowsF v l i, ∀ y ∈ e, y.Data := by
  intro e he y hy
  obtain ⟨k, _, rfl⟩ := List.mem_map.1 he
  simp at hy
  subst hy
  exact .ro _ fun e he y hy => by
    obtain ⟨m, _, rfl⟩ := List.mem_map.1 he
    simp [encIx] at hy
    subst hy
    simp
theorem nums_data (l : List Nat) : ∀ e ∈ l.map encIx, ∀ y ∈ e, y.Data := by
  intro e he y hy
  obtain ⟨m, _, rfl⟩ := List.mem_map.1 he
  simp [encIx] at hy
  subst hy
  simp
set_option maxHeartbeats 4000000 in
theorem chain_Follows (t : Topo) (l : List TPass) (hn : l.length ≤ 1000000) (hp : t.net.pts.length ≤ 1000) (hl : t.net.lks.length ≤ 1000) (hs : t.sys.length ≤ 1000) : ACalls Try.prog gl 11 [.agg (encTopo t), .ro (l.map encPass)] h fun v h' => v = .ro (rowsF (validT t).net l l.length) ∧ h' = h := by
  refine ACalls.fresh' (ACalls.body Try.f11 _ mixed Try.func11 rfl rfl (by simp [Try.ntmps11]) ?_)
  obtain ⟨n, hnn⟩ : ∃ n, n = l.length := ⟨_, rfl⟩
  simp [← hnn]
  refine AWP.upF 12 mixed n (fun i fr H => fr 1 = .ro (l.map encPass) ∧ fr 2 = .ptr h.length 0 0 ∧ fr 11 = .ro (l.map encPass) ∧ fr 12 = .int .i64 n ∧ fr 13 = .int .i64 i ∧ H[h.length]? = some (.cells 3 [encTopo t]) ∧ (∃ g, H = h ++ g) ∧ ∃ x, fr 5 = x ∧ Ls 1 (h.length + 1) H x (rowsF (validT t).net l i)) 0 (by omega)
    ⟨by simp, by simp, by simp, by simp, by simp, by simp, by simp, .nil, by simp, by simpa [rowsF] using Ls.nil⟩ ?_
  rintro i fr H hi ⟨e1, e2, e11, e12, e13, hT, hB, x, e5, hx⟩
  have hxf := hx.rs.fix
  have hT3 := at3 hT
  simp only [encTopo] at hT3
  have hlen := base_len hB
  rcases Nat.lt_or_ge i n with hlt | hge
  · obtain ⟨a, ha, ha'⟩ := get_lt (l := l) (i := i) (by omega)
    have hil : i < l.length := by omega
    have ew := wrap_succ' (i := i) (by omega)
    obtain ⟨p0, hp0⟩ : ∃ p0, p0 = H.length := ⟨_, rfl⟩
    have hxin := hx.inside
    have hph : h.length < p0 := by rw [hp0]; exact hT3.2.1
    simp [← hnn, e1, e2, e5, e11, e12, e13, hlt, hil, ha, ha', hxf]
    refine AWP.up mixed n (fun j fr H' => fr 1 = .ro (l.map encPass) ∧ fr 2 = .ptr h.length 0 0 ∧ fr 11 = .ro (l.map encPass) ∧ fr 12 = .int .i64 n ∧ fr 13 = .int .i64 i ∧ fr 5 = x ∧ fr 7 = .ptr p0 0 0 ∧ fr 18 = .ro (l.map encPass) ∧ fr 19 = .int .i64 n ∧ fr 20 = .int .i64 j ∧
        H'[h.length]? = some (.cells 3 [encTopo t]) ∧ H'[p0]? = some (.cells 8 [encPass a]) ∧ (∃ g, H' = h ++ g) ∧ p0 + 1 ≤ H'.length ∧ Ls 1 (h.length + 1) H' x (rowsF (validT t).net l i) ∧ ∃ y, fr 8 = y ∧ Lz 1 (p0 + 1) H' y ((folI (gL (validT t).net l) i j).map encIx)) 0 (by omega)
      ⟨by simp [e1], by simp [e2], by simp [e11], by simp [e12], by simp [e13], by simp [e5], by simp [hp0], by simp, by simp, by simp, at_more hT _, by simp [hp0], base_more hB _, by simp [hp0], hx.more _, .own (p0 + 1) 0 0, by simp [hp0], .inl (Ls.own (by simp [hp0, folI]) (by omega) (by simp [folI]) (by simp [folI]))⟩ ?_
    clear e1 e2 e5 e11 e12 e13 hT hT3 hB hx hlen
    rintro j fr H' hj ⟨e1, e2, e11, e12, e13, e5, e7, e18, e19, e20, hT, hA, hB, hpl, hx, y, e8, hy⟩
    have hlen := base_len hB
    have hT3 := at3 hT
    have hA3 := at3 hA
    simp only [encTopo, encPass_eq] at hT3 hA3
    have hyf := hy.rs.fix
    have hfl := folI_len (gL (validT t).net l) i j
    rcases Nat.lt_or_ge j n with hjlt | hjge
    · obtain ⟨b, hb, hb'⟩ := get_lt (l := l) (i := j) (by omega)
      have hjl : j < l.length := by omega
      have ewj := wrap_succ' (i := j) (by omega)
      have hsuc := folI_succ (gL (validT t).net l) i j
      have hfe : feasM (validT t).net a.point b.point a.time b.time = gL (validT t).net l i j := (gL_at ha hb).symm
      have hne : h.length ≠ H'.length := by omega
      have hne2 : p0 ≠ H'.length := by omega
      simp [-appendOk, -appendK, -acells, -AV.solid, ← hnn, e1, e2, e5, e7, e11, e12, e13, e18, e19, e20, e8, hjlt, hjl, hb, hb', hxf, hyf, hT3, hA3]
      refine callS.pure _ (fun _ => topology_Feasible t a b hp hl hs) ?_
      simp [-appendOk, -appendK, -acells, -AV.solid, e1, e2, e5, e7, e11, e12, e13, e18, e19, e20, e8, hxf, hyf, hfe]
      refine ⟨fun c => ?_, fun c => ?_⟩
      · rw [if_pos c] at hsuc
        refine append_lz (lo := p0 + 1) (n := 1) (es := (folI (gL (validT t).net l) i j).map encIx) (ys := [encIx j]) (by simpa [encIx] using hy.more _) (by simp; omega) (by simp [appOk, encIx]) (by simp; omega) ?_
        intro s1 H1 hs1 hg1 hn1
        have hs1f := hs1.rs.fix
        have hk1 : ∀ b o, b < p0 + 1 → H'[b]? = some o → H1[b]? = some o := fun b o hb ho => hg1.keep b o (at_more ho _) fun off len e => by have := hy.above _ _ _ e; omega
        have hB1 := hg1.base h (by omega) (base_more hB _)
        have hx1 : Ls 1 (h.length + 1) H1 x (rowsF (validT t).net l i) := (hx.more _).grow hg1 fun b eb hbl off len e => by have := hxin _ _ _ eb; have := hy.above _ _ _ e; omega
        have hl1 := hg1.len
        simp [-appendOk, -appendK, -acells, -AV.solid, e1, e2, e5, e7, e11, e12, e13, e18, e19, e20, hs1f, hxf, ewj]
        simp at hl1
        exact ⟨j + 1, by omega, by omega, by omega, hk1 _ _ (by omega) hT, hk1 _ _ (by omega) hA, hB1, by omega, hx1, by rw [hsuc]; simpa using hs1⟩
      · rw [if_neg (by simp [c])] at hsuc
        simp [-appendOk, -appendK, -acells, -AV.solid, e1, e2, e5, e7, e11, e12, e13, e18, e19, e20, e8, hxf, hyf, ewj, hT3, hA3]
        exact ⟨j + 1, by omega, by omega, by omega, base_more hB _, by omega, hx.more _, by rw [hsuc]; exact hy.more _⟩
    · obtain rfl : n = j := by omega
      have hfa : folI (gL (validT t).net l) i n = folL (gL (validT t).net l) l.length i := by rw [hnn]; rfl
      rw [hfa] at hy hfl
      simp [e1, e2, e5, e7, e11, e12, e13, e18, e19, e20, e8, hxf, hyf]
      refine AWP.freezeL 8 (by simp [e8]) hy ?_
      intro fr1 H1 q8 qf hg1 hl1
      have f1 : fr1 1 = .ro (l.map encPass) := by rw [qf 1 (by decide)]; simp [e1]
      have f2 : fr1 2 = .ptr h.length 0 0 := by rw [qf 2 (by decide)]; simp [e2]
      have f5 : fr1 5 = x := by rw [qf 5 (by decide)]; simp [e5]
      have f11 : fr1 11 = .ro (l.map encPass) := by rw [qf 11 (by decide)]; simp [e11]
      have f12 : fr1 12 = .int .i64 n := by rw [qf 12 (by decide)]; simp [e12]
      have f13 : fr1 13 = .int .i64 i := by rw [qf 13 (by decide)]; simp [e13]
      have hk1 : ∀ b o, b < p0 + 1 → H'[b]? = some o → H1[b]? = some o := fun b o hb ho => hg1.keep b o ho fun off len e => by have := hy.above _ _ _ e; omega
      have hB1 := hg1.base h (by omega) hB
      have hx1 : Ls 1 (h.length + 1) H1 x (rowsF (validT t).net l i) := hx.grow hg1 fun b eb hbl off len e => by have := hxin _ _ _ eb; have := hy.above _ _ _ e; omega
      have hT1 := hk1 _ _ (by omega) hT
      have hrl := rowsF_len (validT t).net l i
      have hsuc := rowsF_succ (validT t).net l i
      refine AWP.of_awp mixed _ _ _ _ ?_
      simp [-appendOk, -appendK, -acells, -AV.solid, f1, f2, f5, f11, f12, f13, q8, hxf]
      refine append_new (lo := h.length + 1) (n := 1) (es := rowsF (validT t).net l i) (ys := [[AV.ro ((folL (gL (validT t).net l) l.length i).map encIx)]]) (by simpa using hx1.more _) (by simp; omega) (by simp [appOk]) (by simp; omega) ?_
      intro s2 H2 hs2 hg2 hn2
      have hs2f := hs2.rs.fix
      have hB2 := hg2.base h (by omega) (base_more hB1 _)
      have hT2 := hg2.keep _ _ (at_more hT1 _) fun off len e => by have := hx1.above _ _ _ e; omega
      simp [-appendOk, -appendK, -acells, -AV.solid, f1, f2, f11, f12, f13, hs2f, ew]
      exact ⟨i + 1, by omega, by omega, by omega, hT2, hB2, by rw [hsuc]; exact hs2⟩
  · obtain rfl : n = i := by omega
    simp [e1, e2, e5, e11, e12, e13, hxf]
    exact ⟨hB, hx.frz (by omega) (rowsF_data _ _ _)⟩
set_option maxHeartbeats 4000000 in
theorem ref19_Follows (t : Topo) (l : List TPass) (hn : l.length ≤ 1000000) (hp : t.net.pts.length ≤ 1000) (hl : t.net.lks.length ≤ 1000) (hs : t.sys.length ≤ 1000) : ACalls Try.prog gl 12 [.agg (encTopo t), .ro (l.map encPass)] h fun v h' => v = .ro (rowsF (validT t).net l l.length) ∧ h' = h := by
  refine ACalls.fresh' (ACalls.body Try.f12 _ mixed Try.func12 rfl rfl (by simp [Try.ntmps12]) ?_)
  obtain ⟨n, hnn⟩ : ∃ n, n = l.length := ⟨_, rfl⟩
  simp [← hnn]
  refine AWP.upF 11 mixed n (fun i fr H => fr 1 = .ro (l.map encPass) ∧ fr 2 = .ptr h.length 0 0 ∧ fr 6 = .int .i64 i ∧ H[h.length]? = some (.cells 3 [encTopo t]) ∧ (∃ g, H = h ++ g) ∧ ∃ x, fr 5 = x ∧ Ls 1 (h.length + 1) H x (rowsF (validT t).net l i)) 0 (by omega)
    ⟨by simp, by simp, by simp, by simp, by simp, .nil, by simp, by simpa [rowsF] using Ls.nil⟩ ?_
  rintro i fr H hi ⟨e1, e2, e6, hT, hB, x, e5, hx⟩
  have hxf := hx.rs.fix
  have hT3 := at3 hT
  simp only [encTopo] at hT3
  have hlen := base_len hB
  rcases Nat.lt_or_ge i n with hlt | hge
  · obtain ⟨a, ha, ha'⟩ := get_lt (l := l) (i := i) (by omega)
    have hil : i < l.length := by omega
    have ew := wrap_succ' (i := i) (by omega)
    obtain ⟨p0, hp0⟩ : ∃ p0, p0 = H.length := ⟨_, rfl⟩
    have hph : h.length < p0 := by rw [hp0]; exact hT3.2.1
    have hxin := hx.inside
    simp [← hnn, e1, e2, e5, e6, hlt, hil, ha, ha', hxf]
    refine AWP.up mixed n (fun j fr H' => fr 1 = .ro (l.map encPass) ∧ fr 2 = .ptr h.length 0 0 ∧ fr 6 = .int .i64 i ∧ fr 5 = x ∧ fr 8 = .int .i64 j ∧
        H'[h.length]? = some (.cells 3 [encTopo t]) ∧ (∃ g, H' = h ++ g) ∧ p0 ≤ H'.length ∧ Ls 1 (h.length + 1) H' x (rowsF (validT t).net l i) ∧ ∃ y, fr 7 = y ∧ Lz 1 p0 H' y ((folI (gL (validT t).net l) i j).map encIx)) 0 (by omega)
      ⟨by simp [e1], by simp [e2], by simp [e6], by simp [e5], by simp, hT, hB, by omega, hx, .nil, by simp, by simpa [folI] using Lz.nil⟩ ?_
    clear e1 e2 e5 e6 hT hT3 hB hx hlen
    rintro j fr H' hj ⟨e1, e2, e6, e5, e8, hT, hB, hpl, hx, y, e7, hy⟩
    have hlen := base_len hB
    have hT3 := at3 hT
    simp only [encTopo] at hT3
    have hyf := hy.rs.fix
    have hfl := folI_len (gL (validT t).net l) i j
    rcases Nat.lt_or_ge j n with hjlt | hjge
    · obtain ⟨b, hb, hb'⟩ := get_lt (l := l) (i := j) (by omega)
      have hjl : j < l.length := by omega
      have ewj := wrap_succ' (i := j) (by omega)
      have hsuc := folI_succ (gL (validT t).net l) i j
      have hfe : feasM (validT t).net a.point b.point a.time b.time = gL (validT t).net l i j := (gL_at ha hb).symm
      simp [-appendOk, -appendK, -acells, -AV.solid, ← hnn, e1, e2, e5, e6, e7, e8, hlt, hil, ha, ha', hjlt, hjl, hb, hb', hxf, hyf, hT3]
      refine ⟨by decide, ?_⟩
      refine callS.pure _ (fun _ => ref18_Feasible t a b hp hl hs) ?_
      simp [-appendOk, -appendK, -acells, -AV.solid, e1, e2, e5, e6, e7, e8, hxf, hyf, hfe]
      refine ⟨fun c => ?_, fun c => ?_⟩
      · rw [if_pos c] at hsuc
        refine append_lz (lo := p0) (n := 1) (es := (folI (gL (validT t).net l) i j).map encIx) (ys := [encIx j]) (by simpa [encIx] using hy.more _) (by simp; omega) (by simp [appOk, encIx]) (by simp; omega) ?_
        intro s1 H1 hs1 hg1 hn1
        have hs1f := hs1.rs.fix
        have hk1 : ∀ b o, b < p0 → H'[b]? = some o → H1[b]? = some o := fun b o hb ho => hg1.keep b o (at_more ho _) fun off len e => by have := hy.above _ _ _ e; omega
        have hB1 := hg1.base h (by omega) (base_more hB _)
        have hx1 : Ls 1 (h.length + 1) H1 x (rowsF (validT t).net l i) := (hx.more _).grow hg1 fun b eb hbl off len e => by have := hxin _ _ _ eb; have := hy.above _ _ _ e; omega
        have hl1 := hg1.len
        simp [-appendOk, -appendK, -acells, -AV.solid, e1, e2, e5, e6, e8, hs1f, hxf, ewj]
        simp at hl1
        exact ⟨j + 1, by omega, by omega, by omega, hk1 _ _ (by omega) hT, hB1, by omega, hx1, by rw [hsuc]; simpa using hs1⟩
      · rw [if_neg (by simp [c])] at hsuc
        simp [-appendOk, -appendK, -acells, -AV.solid, e1, e2, e5, e6, e7, e8, hxf, hyf, ewj, hT3]
        exact ⟨j + 1, by omega, by omega, by omega, hB, by omega, hx, by rw [hsuc]; exact hy⟩
    · obtain rfl : n = j := by omega
      have hfa : folI (gL (validT t).net l) i n = folL (gL (validT t).net l) l.length i := by rw [hnn]; rfl
      rw [hfa] at hy hfl
      simp [← hnn, e1, e2, e5, e6, e7, e8, hxf, hyf]
      refine AWP.freezeL 7 (by simp [e7]) hy ?_
      intro fr1 H1 q7 qf hg1 hl1
      have f1 : fr1 1 = .ro (l.map encPass) := by rw [qf 1 (by decide)]; simp [e1]
      have f2 : fr1 2 = .ptr h.length 0 0 := by rw [qf 2 (by decide)]; simp [e2]
      have f5 : fr1 5 = x := by rw [qf 5 (by decide)]; simp [e5]
      have f6 : fr1 6 = .int .i64 i := by rw [qf 6 (by decide)]; simp [e6]
      have hk1 : ∀ b o, b < p0 → H'[b]? = some o → H1[b]? = some o := fun b o hb ho => hg1.keep b o ho fun off len e => by have := hy.above _ _ _ e; omega
      have hB1 := hg1.base h (by omega) hB
      have hx1 : Ls 1 (h.length + 1) H1 x (rowsF (validT t).net l i) := hx.grow hg1 fun b eb hbl off len e => by have := hxin _ _ _ eb; have := hy.above _ _ _ e; omega
      have hT1 := hk1 _ _ (by omega) hT
      have hrl := rowsF_len (validT t).net l i
      have hsuc := rowsF_succ (validT t).net l i
      refine AWP.of_awp mixed _ _ _ _ ?_
      simp [-appendOk, -appendK, -acells, -AV.solid, f1, f2, f5, f6, q7, hxf]
      refine append_new (lo := h.length + 1) (n := 1) (es := rowsF (validT t).net l i) (ys := [[AV.ro ((folL (gL (validT t).net l) l.length i).map encIx)]]) (by simpa using hx1.more _) (by simp; omega) (by simp [appOk]) (by simp; omega) ?_
      intro s2 H2 hs2 hg2 hn2
      have hs2f := hs2.rs.fix
      have hB2 := hg2.base h (by omega) (base_more hB1 _)
      have hT2 := hg2.keep _ _ (at_more hT1 _) fun off len e => by have := hx1.above _ _ _ e; omega
      simp [-appendOk, -appendK, -acells, -AV.solid, f1, f2, f6, hs2f, ew]
      exact ⟨i + 1, by omega, by omega, by omega, hT2, hB2, by rw [hsuc]; exact hs2⟩
  · obtain rfl : n = i := by omega
    simp [← hnn, e1, e2, e5, e6, hxf]
    exact ⟨hB, hx.frz (by omega) (rowsF_data _ _ _)⟩
/-- What 'needed' hands back. -/
def needV (v : Net) (a b : Bytes) : AV := match needM v a b with
  | some n => .tup [.int .i64 n, .bool true]
  | none => .tup [.int .i64 0, .bool false]
theorem chain_needed (t : Topo) (hz : topoErr t = 0) (a b : Bytes) (hp : t.net.pts.length ≤ 1000) (hl : t.net.lks.length ≤ 1000) : ACalls Try.prog gl 31 [.agg (encTopo t), .str a, .str b] h fun v h' => v = needV t.net a b ∧ h' = h := by
  have hd : (needV t.net a b).Data := by unfold needV; split <;> simp
  refine ACalls.data hd (ACalls.body Try.f31 _ mixed Try.func31 rfl rfl (by simp [Try.ntmps31]) ?_)
  have ok : NetOk t.net := netErr_ok (topoErr_net hz).1
  have hvn : validN t.net = t.net := by rw [validN, if_pos (topoErr_net hz).1]
  have c1 := fun H : AHeap => graph_Shortest (gl := gl) (h := H) t.net a b hp hl
  rw [hvn] at c1
  unfold bestV at c1
  unfold needV needM
  by_cases e : a = b
  · simp [e]
  · simp [e]
    rcases hb : bestP t.net a b with _ | ⟨p, d⟩
    · rw [hb] at c1
      refine callS.pure _ (fun _ => c1 _) ?_
      simp
    · rw [hb] at c1
      obtain ⟨q1, q2, q3, q4⟩ := best_fits ok hb
      have c2 := fun H : AHeap => graph_Bounds (gl := gl) (h := H) t.net p hp hl (by omega)
      rw [hvn, q2] at c2
      refine callS.pure _ (fun _ => c1 _) ?_
      simp
      refine callS.pure _ (fun _ => c2 _) ?_
      simp
set_option maxHeartbeats 1000000 in
theorem ref19_pauses (t : Topo) (hz : topoErr t = 0) (a b : TPass) (g : Int) (hg : 0 ≤ g ∧ g ≤ 68719476736) (ha : isTimeB a.time = true) (hb : isTimeB b.time = true) (hp : t.net.pts.length ≤ 1000) (hl : t.net.lks.length ≤ 1000) : ACalls Try.prog gl 32 [.agg (encTopo t), .agg (encPass a), .agg (encPass b), .int .i64 g] h fun v h' => v = .bool (pauseM t.net a b g) ∧ h' = h := by
  refine ACalls.data (.bool _) (ACalls.body Try.f32 _ mixed Try.func32 rfl rfl (by simp [Try.ntmps32]) ?_)
  have ok : NetOk t.net := netErr_ok (topoErr_net hz).1
  have hvn : validN t.net = t.net := by rw [validN, if_pos (topoErr_net hz).1]
  have c1 := fun H : AHeap => ref07_Shortest (gl := gl) (h := H) t.net a.point b.point hp hl
  rw [hvn] at c1
  unfold bestV at c1
  have r1 := isTime_range ha
  have r2 := isTime_range hb
  have ewd : IntKind.i64.wrap (b.time - a.time) = b.time - a.time := wrap64_of (by omega) (by omega)
  have ewg : IntKind.i64.wrap g = g := wrap64_of (by omega) (by omega)
  unfold pauseM needM
  by_cases e : a.point = b.point
  · simp [e, ewd, ewg]
  · simp [e]
    rcases hbp : bestP t.net a.point b.point with _ | ⟨p, d⟩
    · rw [hbp] at c1
      refine callS.pure _ (fun _ => c1 _) ?_
      simp
    · rw [hbp] at c1
      obtain ⟨q1, q2, q3, q4⟩ := best_fits ok hbp
      have c2 := fun H : AHeap => ref07_Bounds (gl := gl) (h := H) t.net p hp hl (by omega)
      rw [hvn, q2] at c2
      have ews : IntKind.i64.wrap ((boundsM t.net p).2.1 + g) = (boundsM t.net p).2.1 + g := wrap64_of (by omega) (by omega)
      refine callS.pure _ (fun _ => c1 _) ?_
      simp
      refine callS.pure _ (fun _ => c2 _) ?_
      simp [ewd, ews]
end Go.Proofs.Ytjdchnbjegddhaa
