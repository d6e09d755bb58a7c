/-
  Contracts: the segments of a chain.
-/
import Derived.Test.YtjdchnbjegddhaaChainC
set_option linter.unusedVariables false
set_option linter.unusedSimpArgs false
set_option maxRecDepth 100000
namespace Go.Proofs.Ytjdchnbjegddhaa
open Go Go.Abs Go.Toll
variable {gl : Globs} {h : AHeap}

def encRows (L : List (List TPass)) : List (List (List AV)) := L.map fun r => r.map encPass
def segV (L : List (List TPass)) : AV := .ro (L.map fun r => [.ro (r.map encPass)])
theorem NL.add {n lo lo' : Nat} {h h' : AHeap} {x c : AV} {cs : List AV} {rows : List (List (List AV))} {r : List (List AV)} (l : NL n lo h cs rows) (q : Nest n lo h x cs rows) (g : Grow lo' h x h') (hd : Ls n lo h' c r) : NL n lo h' (cs ++ [c]) (rows ++ [r]) := by
  intro k d s h1 h2
  rcases Nat.lt_or_ge k cs.length with hlt | hge
  · rw [List.getElem?_append_left hlt] at h1
    rw [List.getElem?_append_left (by rw [← q.len]; exact hlt)] at h2
    exact (l k d s h1 h2).grow g fun b e _ => ((q.each k d s h1 h2).2 b _ _ e).2
  · have hk : k = cs.length := by have := (List.getElem?_eq_some_iff.1 h1).1; simp at this; omega
    subst hk
    rw [List.getElem?_append_right (by omega), Nat.sub_self] at h1
    rw [List.getElem?_append_right (by rw [q.len]; omega), q.len, Nat.sub_self] at h2
    obtain rfl : c = d := by simpa using h1
    obtain rfl : r = s := by simpa using h2
    exact hd
theorem NL.keep {n lo : Nat} {h h' : AHeap} {cs : List AV} {rows : List (List (List AV))} (l : NL n lo h cs rows) (hk : ∀ (b : Nat) (o : AObj), h[b]? = some o → h'[b]? = some o) : NL n lo h' cs rows :=
  fun k c r h1 h2 => (l k c r h1 h2).keep' fun b _ o _ ho => hk b o ho
theorem NL.grow {n lo lo' : Nat} {t : AV} {h h' : AHeap} {cs : List AV} {rows : List (List (List AV))} (l : NL n lo h cs rows) (g : Grow lo' h t h') (hi : ∀ c ∈ cs, ∀ b off len, c = .own b off len → ∀ off' len', t ≠ .own b off' len') : NL n lo h' cs rows :=
  fun k c r h1 h2 => (l k c r h1 h2).grow g fun b e _ => hi c (List.mem_of_getElem? h1) b _ _ e
theorem seg_frz {lo m : Nat} {H : AHeap} {x : AV} {cs : List AV} {L : List (List TPass)} (hN : Nest 8 lo H x cs (encRows L)) (hm : m ≤ lo) (hok : ∀ r ∈ L, ∀ p ∈ r, p.Ok) : Frz m H x (segV L) := by
  have := hN.frz hm (fun r hr e he => by
    obtain ⟨q, hq, rfl⟩ := List.mem_map.1 hr
    exact pass_data (hok q hq) e he)
  rw [encRows, List.map_map] at this
  exact this
theorem segsI_ok {v : Net} {l : List TPass} {g : Int} {Q : TPass → Prop} (hok : ∀ p ∈ l, Q p) {i : Nat} (hi : i ≤ l.length) : ∀ r ∈ segsI v l g i, ∀ p ∈ r, Q p := fun r hr p hp =>
  hok p (List.mem_of_mem_take (i := i) (by rw [← segsI_join (v := v) (g := g) i hi]; exact List.mem_flatten.2 ⟨r, hr, hp⟩))
def lxSeg : Nat → Option (List (Nat × Nat)) := fun i => if i = 10 then some [(2, 12), (2, 13), (6, 12), (8, 12), (9, 12)] else none
set_option maxHeartbeats 16000000 in
theorem chain_Segments (t : Topo) (hz : topoErr t = 0) (l : List TPass) (g : Int) (hok : ∀ p ∈ l, p.Ok ∧ p.sources.length ≤ 1000 ∧ isTimeB p.time = true) (hn : l.length ≤ 1000000) (hp : t.net.pts.length ≤ 1000) (hl : t.net.lks.length ≤ 1000) : ACalls Try.prog gl 22 [.agg (encTopo t), .ro (l.map encPass), .int .i64 g] h fun v h' => v = segV (segsM t.net l (gapM g)) ∧ h' = h := by
  refine ACalls.fresh' (ACalls.body Try.f22 _ mixed Try.func22 rfl rfl (by simp [Try.ntmps22]) ?_)
  obtain ⟨G, hG⟩ : ∃ G, G = gapM g := ⟨_, rfl⟩
  have hGr := gapM_rng g
  have hGm := gapM_min g
  rw [← hG] at hGr hGm
  obtain ⟨n, hnn⟩ : ∃ n, n = l.length := ⟨_, rfl⟩
  have hok1 : ∀ p ∈ l, p.Ok := fun p hp => (hok p hp).1
  have ok : NetOk t.net := netErr_ok (topoErr_net hz).1
  simp [← hnn, ← hGm]
  rw [← hG]
  refine AWP.upF 7 mixed n (fun i fr H => fr 1 = .ro (l.map encPass) ∧ fr 2 = .int .i64 G ∧ fr 3 = .ptr h.length 0 0 ∧ fr 15 = .ro (l.map encPass) ∧ fr 16 = .int .i64 n ∧ fr 17 = .int .i64 i ∧ H[h.length]? = some (.cells 3 [encTopo t]) ∧ (∃ g, H = h ++ g) ∧ ∃ x cs, fr 7 = x ∧ Nest 8 (h.length + 1) H x cs (encRows (segsI t.net l G i)) ∧ NL 8 (h.length + 1) H cs (encRows (segsI t.net l G i))) 0 (by omega)
    ⟨by simp, by simp, by simp, by simp, by simp, by simp, by simp, by simp, .nil, [], by simp, by simpa [segsI, encRows] using Nest.nil, by simpa [segsI, encRows] using NL.nil⟩ ?_
  rintro i fr H hi ⟨e1, e2, e3, e15, e16, e17, hT, hB, x, cs, e7, hN, hNL⟩
  have hxf := hN.out.rs.fix
  have hlen := base_len hB
  have hT3 := at3 hT
  simp only [encTopo] at hT3
  rcases Nat.lt_or_ge i n with hlt | hge
  · obtain ⟨p, hpp, hpp'⟩ := get_lt (l := l) (i := i) (by omega)
    have hil : i < l.length := by omega
    have ew := wrap_succ' (i := i) (by omega)
    obtain ⟨hpo, hps, hpt⟩ := hok p (List.mem_of_getElem? hpp)
    have hrt := isTime_range hpt
    obtain ⟨q0, hq0⟩ : ∃ q0, q0 = H.length := ⟨_, rfl⟩
    have hsuc := segsI_succ (v := t.net) (g := G) hpp
    have hLlen := segsI_len (v := t.net) (l := l) (g := G) i
    simp [-appendOk, -appendK, -acells, -AV.solid, e1, e2, e3, e7, e15, e16, e17, hlt, hil, hpp, hpp', hxf, ← hnn, ← hq0]
    refine append_new (lo := q0 + 1) (n := 2) (es := []) (ys := p.sources) (Ls.own (by simp [hq0]) (by omega) rfl (by simp)) (by simp; omega) (by simp [appOk]; exact srcs_n hpo) (by simp; omega) ?_
    intro s1 H1 hs1' hg1 hn1
    have hs1f := hs1'.rs.fix
    have hs1ab := hs1'.above
    have hk1 : ∀ b o, H[b]? = some o → H1[b]? = some o := fun b o ho => hg1.keep b o (at_more ho _) fun off len e => by injection e with e; have := lt_of_get ho; omega
    have hB1 := hg1.base h (by omega) (base_more hB _)
    have hP1 : H1[q0]? = some (.cells 8 [encPass p]) := hg1.keep q0 _ (by simp [hq0]) fun off len e => by injection e with e; omega
    have hP3 := at3 hP1
    simp only [encPass_eq] at hP3
    have hl1 := hg1.len
    simp at hl1
    have hq0h : h.length < q0 := by rw [hq0]; exact hT3.2.1
    simp [-appendOk, -appendK, -acells, -AV.solid, e1, e2, e3, e7, e15, e16, e17, hs1f, hxf, hP3]
    have hs1p := hs1'.put (b := q0) (o := .cells 8 [[.str p.id, .str p.point, .int .i64 p.time, .str p.tag, .str p.plate, .int .i64 p.cls, .int .i64 p.score, s1]]) (by omega)
    refine AWP.freezeF (lo := q0 + 1) (n := 2) (es := [] ++ p.sources) 25 q0 8 [.str p.id, .str p.point, .int .i64 p.time, .str p.tag, .str p.plate, .int .i64 p.cls, .int .i64 p.score] [] (by simp) hs1p.z (by simp [hP3]) (fun off len e => by have := hs1ab _ _ _ e; omega) ?_
    intro fr2 H2 _ qf hP2 hk2 hb2 hl2
    rw [List.length_set] at hl2
    have f1 : fr2 1 = .ro (l.map encPass) := by rw [qf 1 (by decide)]; simp [e1]
    have f2 : fr2 2 = .int .i64 G := by rw [qf 2 (by decide)]; simp [e2]
    have f3 : fr2 3 = .ptr h.length 0 0 := by rw [qf 3 (by decide)]; simp [e3]
    have f7 : fr2 7 = x := by rw [qf 7 (by decide)]; simp [e7]
    have f8 : fr2 8 = .int .i64 i := by rw [qf 8 (by decide)]; simp
    have f9 : fr2 9 = .ptr q0 0 0 := by rw [qf 9 (by decide)]; simp
    have f15 : fr2 15 = .ro (l.map encPass) := by rw [qf 15 (by decide)]; simp [e15]
    have f16 : fr2 16 = .int .i64 n := by rw [qf 16 (by decide)]; simp [e16]
    have f17 : fr2 17 = .int .i64 i := by rw [qf 17 (by decide)]; simp [e17]
    have hB2 := hb2 h (by omega) (by omega) (base_set hB1 (by omega) _)
    have hk : ∀ b o, H[b]? = some o → H2[b]? = some o := fun b o ho => by
      have hb := lt_of_get ho
      exact hk2 b o (by omega) (by rw [List.getElem?_set_ne (by omega)]; exact hk1 b o ho) fun off len e => by have := hs1ab _ _ _ e; omega
    have hT2 := hk _ _ hT
    have hN2 : Nest 8 (h.length + 1) H2 x cs (encRows (segsI t.net l G i)) := hN.keep fun b o _ ho => hk b o ho
    have hNL2 : NL 8 (h.length + 1) H2 cs (encRows (segsI t.net l G i)) := NL.keep hNL hk
    have hP3 := at3 hP2
    have hT3 := at3 hT2
    simp only [encTopo] at hT3
    have hH2 : q0 + 2 ≤ H2.length := by omega
    clear hs1p hs1' hs1ab hg1 hn1 hk1 hB1 hP1 hl1 hk2 hb2 qf hN hNL e1 e2 e3 e7 e15 e16 e17 hT hB
    have hcl : cs.length = (segsI t.net l G i).length := by rw [hN2.len]; simp [encRows]
    -- a new segment
    have new : segB t.net l G i = true → ∀ (K : AV → AHeap → Prop) (ts : List TypeId), appOk Try.prog (H2 ++ [.cells 8 [encPass p], .cells 1 [[.own H2.length 0 1]]]) ts 1 (.own (H2.length + 1) 0 1) [[.own H2.length 0 1]] →
        (∀ x3 H3 cs3, x3.core = x3 ∧ x3.gd = true ∧ x3.solid = true ∧ acells x3 = [x3] → H3[h.length]? = some (.cells 3 [encTopo t]) → (∃ g, H3 = h ++ g) → Nest 8 (h.length + 1) H3 x3 cs3 (encRows (segsI t.net l G (i + 1))) → NL 8 (h.length + 1) H3 cs3 (encRows (segsI t.net l G (i + 1))) → K x3 H3) →
        appendOk Try.prog (H2 ++ [.cells 8 [encPass p], .cells 1 [[.own H2.length 0 1]]]) ts x (.own (H2.length + 1) 0 1) ∧ appendK 1 (H2 ++ [.cells 8 [encPass p], .cells 1 [[.own H2.length 0 1]]]) x (.own (H2.length + 1) 0 1) K := by
      intro hb K ts hok0 hK
      have hNm := hN2.more [.cells 8 [encPass p], .cells 1 [[.own H2.length 0 1]]]
      have hNLm := hNL2.more [.cells 8 [encPass p], .cells 1 [[.own H2.length 0 1]]]
      refine append_new (lo := h.length + 1) (n := 1) (es := cs.map fun c => [c]) (ys := [[.own H2.length 0 1]]) hNm.out (by simp; omega) hok0 (by simp; omega) ?_
      intro x3 H3 hx3 hg3 hn3
      have hx3' : Ls 1 (h.length + 1) H3 x3 ((cs ++ [AV.own H2.length 0 1]).map fun c => [c]) := by simpa using hx3
      have hxl : ∀ b off len, x = .own b off len → b < H2.length := fun b off len e => (hN2.xlt e).2
      have hrow : H3[H2.length]? = some (.cells 8 [encPass p]) := hg3.keep _ _ (by simp) fun off len e => by have := hxl _ _ _ e; omega
      have hrs : Rs 8 (H2 ++ [.cells 8 [encPass p], .cells 1 [[.own H2.length 0 1]]]) (.own H2.length 0 1) [encPass p] := Rs.own (es := [encPass p]) (by simp) (by simp)
      have hN3 := hNm.add (c := .own H2.length 0 1) (r := [encPass p]) hg3 hx3' hrs (fun b off len e => by
        injection e with e1 e2 e3
        subst e1
        exact ⟨by omega, fun off' len' e => by have := hxl _ _ _ e; omega, fun off' len' hm => by have := hN2.lt hm; omega⟩) hn3
      have hNL3 := NL.add hNLm hNm hg3 (c := .own H2.length 0 1) (r := [encPass p]) (Ls.own hrow (by omega) rfl (by simp))
      have hT4 := hg3.keep _ _ (at_more hT2 _) fun off len e => by have := (hN2.xlt e).1; omega
      have hL : encRows (segsI t.net l G (i + 1)) = encRows (segsI t.net l G i) ++ [[encPass p]] := by rw [hsuc, hb, segAdd, if_pos rfl]; simp [encRows]
      exact hK x3 H3 _ hx3.rs.fix hT4 (hg3.base h (by omega) (base_more hB2 _)) (by rw [hL]; exact hN3) (by rw [hL]; exact hNL3)
    refine AWP.of_awpL lxSeg mixed _ _ _ _ ?_
    rcases Nat.eq_zero_or_pos i with hi0 | hi0
    · subst hi0
      have ew1 : IntKind.i64.wrap (1 : Int) = 1 := wrap64_of (by omega) (by omega)
      simp [-appendOk, -appendK, -acells, -AV.solid, lxSeg, f1, f2, f3, f7, f8, f9, f15, f16, f17, hxf, hP3]
      refine new rfl _ _ (by simp [appOk]) ?_
      intro x3 H3 cs3 hx3f hT4 hB4 hN4 hNL4
      simp [-appendOk, -appendK, -acells, -AV.solid, lxSeg, f1, f2, f3, f7, f8, f9, f15, f16, f17, hx3f, ew1]
      exact ⟨1, by omega, by omega, by omega, hT4, hB4, cs3, hN4, hNL4⟩
    · obtain ⟨j, rfl⟩ : ∃ j, i = j + 1 := ⟨i - 1, by omega⟩
      obtain ⟨a, ha, ha'⟩ := get_lt (l := l) (i := j) (by omega)
      have hjl : j < l.length := by omega
      obtain ⟨hao, has, hat⟩ := hok a (List.mem_of_getElem? ha)
      have hra := isTime_range hat
      have ewj : IntKind.i64.wrap ((j : Int) + 1 - 1) = (j : Int) := by rw [wrap64_of (by omega) (by omega)]; omega
      have ewj' : IntKind.i64.wrap (((j + 1 : Nat) : Int) - 1) = (j : Int) := by rw [wrap64_of (by omega) (by omega)]; omega
      have hj0 : (0 : Int) < ((j + 1 : Nat) : Int) := by omega
      have hseg : segB t.net l G (j + 1) = pauseM t.net a p G := by rw [segB]; simp only [ha, hpp]
      have ewd : IntKind.i64.wrap (p.time - a.time) = p.time - a.time := wrap64_of (by omega) (by omega)
      have c1 := fun H : AHeap => chain_needed (gl := gl) (h := H) t hz a.point p.point hp hl
      unfold needV at c1
      unfold pauseM at hseg
      simp [-Int.natCast_add, -appendOk, -appendK, -acells, -AV.solid, lxSeg, f1, f2, f3, f7, f8, f9, f15, f16, f17, hxf, hP3, hT3, hj0, ewj', hjl, ha, ha']
      refine ⟨by decide, ?_⟩
      rcases hnd : needM t.net a.point p.point with _ | d
      · rw [hnd] at c1 hseg
        refine callS.pure _ (fun _ => c1 _) ?_
        simp [-Int.natCast_add, -appendOk, -appendK, -acells, -AV.solid, lxSeg, f1, f2, f3, f7, f8, f9, f15, f16, f17, hxf, hP3, hT3, hj0, ewj', hjl, ha, ha']
        refine ⟨by decide, ?_⟩
        refine new hseg _ _ (by simp [appOk]) ?_
        intro x3 H3 cs3 hx3f hT4 hB4 hN4 hNL4
        simp [-Int.natCast_add, -appendOk, -appendK, -acells, -AV.solid, lxSeg, f1, f2, f3, f7, f8, f9, f15, f16, f17, hx3f, ew]
        exact ⟨j + 1 + 1, by omega, by omega, by omega, hT4, hB4, cs3, hN4, hNL4⟩
      · have hdr := need_rng ok hnd
        have ewg : IntKind.i64.wrap (d + G) = d + G := wrap64_of (by omega) (by omega)
        rw [hnd] at c1 hseg
        refine callS.pure _ (fun _ => c1 _) ?_
        by_cases hpz : d + G < p.time - a.time
        · have hpz' : ¬ p.time - a.time ≤ d + G := by omega
          simp [-Int.natCast_add, -appendOk, -appendK, -acells, -AV.solid, lxSeg, f1, f2, f3, f7, f8, f9, f15, f16, f17, hxf, hP3, hT3, hj0, ewj', hjl, ha, ha', ewd, ewg, hpz, hpz']
          refine ⟨by decide, ?_⟩
          refine new (by rw [hseg]; simpa using hpz) _ _ (by simp [appOk]) ?_
          intro x3 H3 cs3 hx3f hT4 hB4 hN4 hNL4
          simp [-Int.natCast_add, -appendOk, -appendK, -acells, -AV.solid, lxSeg, f1, f2, f3, f7, f8, f9, f15, f16, f17, hx3f, ew]
          exact ⟨j + 1 + 1, by omega, by omega, by omega, hT4, hB4, cs3, hN4, hNL4⟩
        · have hpz' : p.time - a.time ≤ d + G := by omega
          have hsb : segB t.net l G (j + 1) = false := by rw [hseg]; simpa using hpz'
          obtain ⟨bx, rfl⟩ : ∃ bx, x = .own bx 0 cs.length := by
            rcases hN2.out.1 with ⟨_, e⟩ | ⟨bx, e, h1, h2⟩
            · exfalso
              have := segsI_pos (v := t.net) (l := l) (g := G) (i := j) hjl
              simp at e
              rw [e] at hcl
              exact this (List.length_eq_zero_iff.1 hcl.symm)
            · exact ⟨bx, by rw [e]; simp⟩
          obtain ⟨M, r0, hM⟩ : ∃ M r0, segsI t.net l G (j + 1) = M ++ [r0] := by
            rcases List.eq_nil_or_concat (segsI t.net l G (j + 1)) with e | ⟨M, r0, e⟩
            · exact absurd e (segsI_pos (v := t.net) (l := l) (g := G) (i := j) hjl)
            · exact ⟨M, r0, by simpa using e⟩
          have hr0 : r0.length ≤ j + 1 := segsI_row (v := t.net) (l := l) (g := G) (i := j + 1) (by omega) (by rw [hM]; simp)
          rw [hM] at hcl hN2 hNL2
          have hk : M.length < cs.length := by rw [hcl]; simp
          obtain ⟨c, hc, hc'⟩ := get_lt hk
          have hrg : (encRows (M ++ [r0]))[M.length]? = some (r0.map encPass) := by simp [encRows]
          have hLc := hNL2 _ _ _ hc hrg
          have hcf := hLc.rs.fix
          have hBk := hN2.blk
          have hcl' : cs.length = M.length + 1 := by rw [hcl]; simp
          have ewc : IntKind.i64.wrap (((M.length + 1 : Nat) : Int) - 1) = (M.length : Int) := by rw [wrap64_of (by omega) (by rw [hM] at hLlen; simp at hLlen; omega)]; omega
          have hML : M.length ≤ j := by rw [hM] at hLlen; simp at hLlen; omega
          simp [-Int.natCast_add, -appendOk, -appendK, -acells, -AV.solid, lxSeg, f1, f2, f3, f7, f8, f9, f15, f16, f17, hxf, hP3, hT3, hj0, ewj', hjl, ha, ha', ewd, ewg, hpz, hpz', hcl', hBk, hc, hc', hcf, ewc]
          refine ⟨by decide, by decide, ?_⟩
          refine append_new (lo := h.length + 1) (n := 8) (es := r0.map encPass) (ys := [encPass p]) (by simpa using hLc.more [.cells 8 [encPass p]]) (by simp; omega) (by simp [appOk]) (by simp; omega) ?_
          intro d1 H3 hd1 hg3 hn3
          have hd1f := hd1.rs.fix
          obtain ⟨hN3, hNL3⟩ := nest_put (os := [.cells 8 [encPass p]]) hN2 hNL2 hc hrg hd1 (by simpa using hg3) (by simpa using hn3)
          have hB3 := hN2.blk1 (os := [.cells 8 [encPass p]]) hc hrg (by simpa using hg3)
          have hT4 := hg3.keep _ _ (at_more hT2 _) fun off len e => by have := hLc.above _ _ _ e; omega
          have hbx := (hN2.xlt rfl).1
          have hbase3 := hg3.base h (by omega) (base_more hB2 _)
          have hL : encRows (segsI t.net l G (j + 1 + 1)) = (encRows (M ++ [r0])).set M.length (r0.map encPass ++ [encPass p]) := by
            rw [hsuc, hsb, hM, segAdd, if_neg (by simp)]
            simp [encRows]
          simp [-Int.natCast_add, -appendOk, -appendK, -acells, -AV.solid, lxSeg, f1, f2, f3, f7, f8, f9, f15, f16, f17, hxf, hP3, hT3, hj0, ewj', hjl, ha, ha', ewd, ewg, hpz, hpz', hcl', hBk, hc, hc', hcf, ewc, hd1f, hB3, ew]
          refine ⟨j + 1 + 1, by omega, by omega, by omega, by rw [List.getElem?_set_ne (by omega)]; exact hT4, base_set hbase3 (by omega) _, cs.set M.length d1, ?_, ?_⟩
          · rw [hL]; simpa [hcl'] using hN3
          · rw [hL]; simpa using hNL3
  · obtain rfl : n = i := by omega
    simp [e1, e2, e3, e7, e15, e16, e17, hxf]
    rw [segsM, ← hnn]
    exact ⟨hB, seg_frz hN (by omega) (segsI_ok hok1 (by omega))⟩
theorem AWP.join3 {P : Program} {gl : Globs} {N : Nat} {c : Code} {Q : APost} {A B C D : Prop} {fr1 fr2 fr3 : AFrame} {h1 h2 h3 : AHeap} (I : AFrame → AHeap → Prop) (a : A → I fr1 h1) (b : B → C → I fr2 h2) (d : B → D → I fr3 h3) (k : ∀ fr h, I fr h → AWP P gl N c Q fr h) :
    (A → AWP P gl N c Q fr1 h1) ∧ (B → (C → AWP P gl N c Q fr2 h2) ∧ (D → AWP P gl N c Q fr3 h3)) := ⟨fun q => k _ _ (a q), fun q => ⟨fun q2 => k _ _ (b q q2), fun q2 => k _ _ (d q q2)⟩⟩
theorem not_lt_of_le {a b : Int} (h : a ≤ b) : ¬ b < a := by omega
def lxSegR : Nat → Option (List (Nat × Nat)) := fun i => if i = 13 then some [(4, 12), (5, 12)] else none
set_option maxHeartbeats 16000000 in
theorem ref19_Segments (t : Topo) (hz : topoErr t = 0) (l : List TPass) (g : Int) (hok : ∀ p ∈ l, p.Ok ∧ p.sources.length ≤ 1000 ∧ isTimeB p.time = true) (hn : l.length ≤ 1000000) (hp : t.net.pts.length ≤ 1000) (hl : t.net.lks.length ≤ 1000) : ACalls Try.prog gl 23 [.agg (encTopo t), .ro (l.map encPass), .int .i64 g] h fun v h' => v = segV (segsM t.net l (gapM g)) ∧ h' = h := by
  refine ACalls.fresh' (ACalls.bodyF 6 Try.f23 _ mixed Try.func23 rfl rfl (by simp [Try.ntmps23]) ?_)
  obtain ⟨G, hG⟩ : ∃ G, G = gapM g := ⟨_, rfl⟩
  have hGr := gapM_rng g
  rw [← hG] at hGr
  obtain ⟨n, hnn⟩ : ∃ n, n = l.length := ⟨_, rfl⟩
  have hok1 : ∀ p ∈ l, p.Ok := fun p hp => (hok p hp).1
  have ok : NetOk t.net := netErr_ok (topoErr_net hz).1
  simp [← hnn]
  refine AWP.join3 (fun fr H => fr 1 = .ro (l.map encPass) ∧ fr 3 = .ptr h.length 0 0 ∧ fr 7 = .int .i64 G ∧ H = h ++ [.cells 3 [encTopo t]]) (fun c => ⟨by simp, by simp, by simp [hG, gapM, c], by simp⟩) (fun c c2 => ⟨by simp, by simp, by simp [hG, gapM, c2, not_lt_of_le c], by simp⟩) (fun c c2 => ⟨by simp, by simp, by simp [hG, gapM, not_lt_of_le c, not_lt_of_le c2], by simp⟩) ?_
  rintro fr0 H0 ⟨f1, f3, f7, rfl⟩
  rw [← hG]
  refine AWP.of_awp mixed _ _ _ _ ?_
  simp [f1, f3, f7]
  refine AWP.upL lxSegR mixed n (fun i fr H => fr 1 = .ro (l.map encPass) ∧ fr 3 = .ptr h.length 0 0 ∧ fr 7 = .int .i64 G ∧ fr 9 = .int .i64 i ∧ H[h.length]? = some (.cells 3 [encTopo t]) ∧ (∃ g, H = h ++ g) ∧ ∃ x cs, fr 8 = x ∧ Nest 8 (h.length + 1) H x cs (encRows (segsI t.net l G i)) ∧ NL 8 (h.length + 1) H cs (encRows (segsI t.net l G i))) 0 (by omega)
    ⟨by simp [f1], by simp [f3], by simp [f7], by simp, by simp, by simp, .nil, [], by simp, by simpa [segsI, encRows] using Nest.nil, by simpa [segsI, encRows] using NL.nil⟩ ?_
  clear f1 f3 f7
  rintro i fr H hi ⟨f1, f3, f7, f9, hT, hB, x, cs, f8, hN, hNL⟩
  have hxf := hN.out.rs.fix
  have hlen := base_len hB
  have hT3 := at3 hT
  simp only [encTopo] at hT3
  rcases Nat.lt_or_ge i n with hlt | hge
  · obtain ⟨p, hpp, hpp'⟩ := get_lt (l := l) (i := i) (by omega)
    have hil : i < l.length := by omega
    have ew := wrap_succ' (i := i) (by omega)
    obtain ⟨hpo, hps, hpt⟩ := hok p (List.mem_of_getElem? hpp)
    have hrt := isTime_range hpt
    have hsuc := segsI_succ (v := t.net) (g := G) hpp
    have hLlen := segsI_len (v := t.net) (l := l) (g := G) i
    have hcl : cs.length = (segsI t.net l G i).length := by rw [hN.len]; simp [encRows]
    rcases Nat.eq_zero_or_pos i with hi0 | hi0
    · subst hi0
      have hsb : segB t.net l G 0 = true := rfl
      have ew0 : IntKind.i64.wrap (1 : Int) = 1 := wrap64_of (by omega) (by omega)
      have hlt0 : (0 : Int) < n := by omega
      simp [-appendOk, -appendK, -acells, -AV.solid, lxSegR, f1, f3, f7, f8, f9, hlt, hlt0, hil, hpp, hpp', hxf, hT3, ← hnn]
      refine ⟨by decide, ?_⟩
      refine callS.pure (.int .i64 0) (fun c => by cases c) ?_
      simp [-appendOk, -appendK, -acells, -AV.solid, lxSegR, f1, f3, f7, f8, f9, hlt, hil, hpp, hpp', hxf, hT3, ← hnn]
      have hNm := hN.more [.cells 1 [[.nil]]]
      have hNLm := hNL.more [.cells 1 [[.nil]]]
      refine append_new (lo := h.length + 1) (n := 1) (es := cs.map fun c => [c]) (ys := [[.nil]]) (by simpa using hNm.out) (by simp; omega) (by simp [appOk]) (by simp; omega) ?_
      intro x3 H3 hx3 hg3 hn3
      have hx3' : Ls 1 (h.length + 1) H3 x3 ((cs ++ [AV.nil]).map fun c => [c]) := by simpa using hx3
      have hx3f := hx3.rs.fix
      have hN3 := hNm.add (c := .nil) (r := []) hg3 hx3' Rs.nil (by simp) (by simpa using hn3)
      have hNL3 := hNLm.addNil hNm hg3
      have hT3' := hg3.keep _ _ (at_more hT _) fun off len e => by have := (hN.xlt e).1; omega
      have hB3 := hg3.base h (by omega) (base_more hB _)
      obtain ⟨bx, rfl⟩ : ∃ bx, x3 = .own bx 0 (cs ++ [AV.nil]).length := by
        rcases hx3'.1 with ⟨_, e⟩ | ⟨bx, e, _, _⟩
        · simp at e
        · exact ⟨bx, by rw [e]; simp⟩
      obtain ⟨M, hM⟩ : ∃ M, M = segsI t.net l G 0 := ⟨_, rfl⟩
      obtain ⟨r0, hr0⟩ : ∃ r0 : List TPass, r0 = [] := ⟨_, rfl⟩
      have hNa : Nest 8 (h.length + 1) H3 (.own bx 0 (cs ++ [AV.nil]).length) (cs ++ [AV.nil]) (encRows (M ++ [r0])) := by rw [hM, hr0]; simpa [encRows] using hN3
      have hNLa : NL 8 (h.length + 1) H3 (cs ++ [AV.nil]) (encRows (M ++ [r0])) := by rw [hM, hr0]; simpa [encRows] using hNL3
      have hcl3 : (cs ++ [AV.nil]).length = (M ++ [r0]).length := by rw [hM]; simp [hcl]
      have hseg3 : segsI t.net l G (0 + 1) = M ++ [r0 ++ [p]] := by rw [hsuc, hsb, segAdd, if_pos rfl, hM, hr0]; rfl
      have hMl : M.length ≤ 0 := by rw [hM]; exact hLlen
      have hr0l : r0.length ≤ 0 := by rw [hr0]; simp
      have hlen3 := base_len hB3
      generalize hcs3 : cs ++ [AV.nil] = cs3 at *
      have hk : M.length < cs3.length := by rw [hcl3]; simp
      obtain ⟨c, hc, hc'⟩ := get_lt hk
      have hrg : (encRows (M ++ [r0]))[M.length]? = some (r0.map encPass) := by simp [encRows]
      have hLc := hNLa _ _ _ hc hrg
      have hcf := hLc.rs.fix
      have hBk := hNa.blk
      have hcl' : cs3.length = M.length + 1 := by rw [hcl3]; simp
      have ewc : IntKind.i64.wrap (((M.length + 1 : Nat) : Int) - 1) = (M.length : Int) := by rw [wrap64_of (by omega) (by omega)]; omega
      have hbx := (hNa.xlt rfl).1
      simp [-Int.natCast_add, -appendOk, -appendK, -acells, -AV.solid, lxSegR, f1, f3, f7, f8, f9, hil, hlt, hpp, hpp', ← hnn, hcl', hBk, hc, hc', hcf, ewc]
      refine ⟨by decide, ?_⟩
      refine callS.pure _ (fun _ => ref19_copied p hpo hps) ?_
      simp [-Int.natCast_add, -appendOk, -appendK, -acells, -AV.solid, lxSegR, f1, f3, f7, f8, f9, hil, hlt, hpp, hpp', ← hnn, hcl', hBk, hc, hc', hcf, ewc]
      refine append_new (lo := h.length + 1) (n := 8) (es := r0.map encPass) (ys := [encPass p]) (by simpa using hLc.more [.cells 8 [encPass p]]) (by simp; omega) (by simp [appOk]) (by simp; omega) ?_
      intro d1 H5 hd1 hg5 hn5
      have hd1f := hd1.rs.fix
      obtain ⟨hN5, hNL5⟩ := nest_put (os := [.cells 8 [encPass p]]) hNa hNLa hc hrg hd1 (by simpa using hg5) (by simpa using hn5)
      have hB5 := hNa.blk1 (os := [.cells 8 [encPass p]]) hc hrg (by simpa using hg5)
      have hT5 := hg5.keep _ _ (at_more hT3' _) fun off len e => by have := hLc.above _ _ _ e; omega
      have hbase5 := hg5.base h (by omega) (base_more hB3 _)
      have hL : encRows (segsI t.net l G (0 + 1)) = (encRows (M ++ [r0])).set M.length (r0.map encPass ++ [encPass p]) := by
        rw [hseg3]; simp [encRows]
      simp [-Int.natCast_add, -appendOk, -appendK, -acells, -AV.solid, lxSegR, f1, f3, f7, f8, f9, hil, hlt, hpp, hpp', ← hnn, hcl', hBk, hc, hc', hcf, ewc, hd1f, hB5, ew0]
      refine ⟨1, by omega, by omega, by omega, by rw [List.getElem?_set_ne (by omega)]; exact hT5, base_set hbase5 (by omega) _, cs3.set M.length d1, ?_, ?_⟩
      · rw [hL]; simpa [hcl'] using hN5
      · rw [hL]; simpa using hNL5
    · obtain ⟨j, rfl⟩ : ∃ j, i = j + 1 := ⟨i - 1, by omega⟩
      obtain ⟨a, ha, ha'⟩ := get_lt (l := l) (i := j) (by omega)
      have hjl : j < l.length := by omega
      obtain ⟨hao, has, hat⟩ := hok a (List.mem_of_getElem? ha)
      have ewj' : IntKind.i64.wrap (((j + 1 : Nat) : Int) - 1) = (j : Int) := by rw [wrap64_of (by omega) (by omega)]; omega
      have hj0 : ¬ ((j + 1 : Nat) : Int) = 0 := by omega
      have hjb : (((j + 1 : Nat) : Int) == 0) = false := beq_eq_false_iff_ne.2 hj0
      have hjn : j < n := by omega
      have hseg : segB t.net l G (j + 1) = pauseM t.net a p G := by rw [segB]; simp only [ha, hpp]
      have c1 := fun H : AHeap => ref19_pauses (gl := gl) (h := H) t hz a p G hGr hat hpt hp hl
      simp [-Int.natCast_add, -appendOk, -appendK, -acells, -AV.solid, lxSegR, f1, f3, f7, f8, f9, hlt, hil, hpp, hpp', hxf, hT3, hj0, hjb, hjn, ewj', hjl, ha, ha', ← hnn]
      refine ⟨by decide, ?_⟩
      refine callS.pure _ (fun _ => c1 _) ?_
      rw [← hseg]
      cases hsb : segB t.net l G (j + 1) with
      | true =>
        simp [-Int.natCast_add, -appendOk, -appendK, -acells, -AV.solid, lxSegR, f1, f3, f7, f8, f9, hlt, hil, hpp, hpp', hxf, hT3, hj0, hjb, hjn, ewj', hjl, ha, ha', ← hnn]
        have hNm := hN.more [.cells 1 [[.nil]]]
        have hNLm := hNL.more [.cells 1 [[.nil]]]
        refine append_new (lo := h.length + 1) (n := 1) (es := cs.map fun c => [c]) (ys := [[.nil]]) (by simpa using hNm.out) (by simp; omega) (by simp [appOk]) (by simp; omega) ?_
        intro x3 H3 hx3 hg3 hn3
        have hx3' : Ls 1 (h.length + 1) H3 x3 ((cs ++ [AV.nil]).map fun c => [c]) := by simpa using hx3
        have hx3f := hx3.rs.fix
        have hN3 := hNm.add (c := .nil) (r := []) hg3 hx3' Rs.nil (by simp) (by simpa using hn3)
        have hNL3 := hNLm.addNil hNm hg3
        have hT3' := hg3.keep _ _ (at_more hT _) fun off len e => by have := (hN.xlt e).1; omega
        have hB3 := hg3.base h (by omega) (base_more hB _)
        obtain ⟨bx, rfl⟩ : ∃ bx, x3 = .own bx 0 (cs ++ [AV.nil]).length := by
          rcases hx3'.1 with ⟨_, e⟩ | ⟨bx, e, _, _⟩
          · simp at e
          · exact ⟨bx, by rw [e]; simp⟩
        obtain ⟨M, hM⟩ : ∃ M, M = segsI t.net l G (j + 1) := ⟨_, rfl⟩
        obtain ⟨r0, hr0⟩ : ∃ r0 : List TPass, r0 = [] := ⟨_, rfl⟩
        have hNa : Nest 8 (h.length + 1) H3 (.own bx 0 (cs ++ [AV.nil]).length) (cs ++ [AV.nil]) (encRows (M ++ [r0])) := by rw [hM, hr0]; simpa [encRows] using hN3
        have hNLa : NL 8 (h.length + 1) H3 (cs ++ [AV.nil]) (encRows (M ++ [r0])) := by rw [hM, hr0]; simpa [encRows] using hNL3
        have hcl3 : (cs ++ [AV.nil]).length = (M ++ [r0]).length := by rw [hM]; simp [hcl]
        have hseg3 : segsI t.net l G (j + 1 + 1) = M ++ [r0 ++ [p]] := by rw [hsuc, hsb, segAdd, if_pos rfl, hM, hr0]; rfl
        have hMl : M.length ≤ j + 1 := by rw [hM]; exact hLlen
        have hr0l : r0.length ≤ j + 1 := by rw [hr0]; simp
        have hlen3 := base_len hB3
        generalize hcs3 : cs ++ [AV.nil] = cs3 at *
        have hk : M.length < cs3.length := by rw [hcl3]; simp
        obtain ⟨c, hc, hc'⟩ := get_lt hk
        have hrg : (encRows (M ++ [r0]))[M.length]? = some (r0.map encPass) := by simp [encRows]
        have hLc := hNLa _ _ _ hc hrg
        have hcf := hLc.rs.fix
        have hBk := hNa.blk
        have hcl' : cs3.length = M.length + 1 := by rw [hcl3]; simp
        have ewc : IntKind.i64.wrap (((M.length + 1 : Nat) : Int) - 1) = (M.length : Int) := by rw [wrap64_of (by omega) (by omega)]; omega
        have hbx := (hNa.xlt rfl).1
        simp [-Int.natCast_add, -appendOk, -appendK, -acells, -AV.solid, lxSegR, f1, f3, f7, f8, f9, hil, hlt, hpp, hpp', ← hnn, hcl', hBk, hc, hc', hcf, ewc]
        refine ⟨by decide, ?_⟩
        refine callS.pure _ (fun _ => ref19_copied p hpo hps) ?_
        simp [-Int.natCast_add, -appendOk, -appendK, -acells, -AV.solid, lxSegR, f1, f3, f7, f8, f9, hil, hlt, hpp, hpp', ← hnn, hcl', hBk, hc, hc', hcf, ewc]
        refine append_new (lo := h.length + 1) (n := 8) (es := r0.map encPass) (ys := [encPass p]) (by simpa using hLc.more [.cells 8 [encPass p]]) (by simp; omega) (by simp [appOk]) (by simp; omega) ?_
        intro d1 H5 hd1 hg5 hn5
        have hd1f := hd1.rs.fix
        obtain ⟨hN5, hNL5⟩ := nest_put (os := [.cells 8 [encPass p]]) hNa hNLa hc hrg hd1 (by simpa using hg5) (by simpa using hn5)
        have hB5 := hNa.blk1 (os := [.cells 8 [encPass p]]) hc hrg (by simpa using hg5)
        have hT5 := hg5.keep _ _ (at_more hT3' _) fun off len e => by have := hLc.above _ _ _ e; omega
        have hbase5 := hg5.base h (by omega) (base_more hB3 _)
        have hL : encRows (segsI t.net l G (j + 1 + 1)) = (encRows (M ++ [r0])).set M.length (r0.map encPass ++ [encPass p]) := by
          rw [hseg3]; simp [encRows]
        simp [-Int.natCast_add, -appendOk, -appendK, -acells, -AV.solid, lxSegR, f1, f3, f7, f8, f9, hil, hlt, hpp, hpp', ← hnn, hcl', hBk, hc, hc', hcf, ewc, hd1f, hB5, ew]
        refine ⟨j + 1 + 1, by omega, by omega, by omega, by rw [List.getElem?_set_ne (by omega)]; exact hT5, base_set hbase5 (by omega) _, cs3.set M.length d1, ?_, ?_⟩
        · rw [hL]; simpa [hcl'] using hN5
        · rw [hL]; simpa using hNL5
      | false =>
        obtain ⟨bx, rfl⟩ : ∃ bx, x = .own bx 0 cs.length := by
          rcases hN.out.1 with ⟨_, e⟩ | ⟨bx, e, h1, h2⟩
          · exfalso
            have := segsI_pos (v := t.net) (l := l) (g := G) (i := j) hjl
            simp at e
            rw [e] at hcl
            exact this (List.length_eq_zero_iff.1 hcl.symm)
          · exact ⟨bx, by rw [e]; simp⟩
        obtain ⟨M, r0, hM⟩ : ∃ M r0, segsI t.net l G (j + 1) = M ++ [r0] := by
          rcases List.eq_nil_or_concat (segsI t.net l G (j + 1)) with e | ⟨M, r0, e⟩
          · exact absurd e (segsI_pos (v := t.net) (l := l) (g := G) (i := j) hjl)
          · exact ⟨M, r0, by simpa using e⟩
        have hr0l : r0.length ≤ j + 1 := segsI_row (v := t.net) (l := l) (g := G) (i := j + 1) (by omega) (by rw [hM]; simp)
        have hMl : M.length ≤ j + 1 := by rw [hM] at hLlen; simp at hLlen; omega
        rw [hM] at hcl hN hNL
        have hseg3 : segsI t.net l G (j + 1 + 1) = M ++ [r0 ++ [p]] := by rw [hsuc, hsb, hM, segAdd, if_neg (by simp)]; simp
        simp [-Int.natCast_add, -appendOk, -appendK, -acells, -AV.solid, lxSegR, f1, f3, f7, f8, f9, hlt, hil, hpp, hpp', hxf, hT3, hj0, hjb, hjn, ewj', hjl, ha, ha', ← hnn]
        have hk : M.length < cs.length := by rw [hcl]; simp
        obtain ⟨c, hc, hc'⟩ := get_lt hk
        have hrg : (encRows (M ++ [r0]))[M.length]? = some (r0.map encPass) := by simp [encRows]
        have hLc := hNL _ _ _ hc hrg
        have hcf := hLc.rs.fix
        have hBk := hN.blk
        have hcl' : cs.length = M.length + 1 := by rw [hcl]; simp
        have ewc : IntKind.i64.wrap (((M.length + 1 : Nat) : Int) - 1) = (M.length : Int) := by rw [wrap64_of (by omega) (by omega)]; omega
        have hbx := (hN.xlt rfl).1
        simp [-Int.natCast_add, -appendOk, -appendK, -acells, -AV.solid, lxSegR, f1, f3, f7, f8, f9, hil, hlt, hpp, hpp', ← hnn, hcl', hBk, hc, hc', hcf, ewc]
        refine ⟨by decide, ?_⟩
        refine callS.pure _ (fun _ => ref19_copied p hpo hps) ?_
        simp [-Int.natCast_add, -appendOk, -appendK, -acells, -AV.solid, lxSegR, f1, f3, f7, f8, f9, hil, hlt, hpp, hpp', ← hnn, hcl', hBk, hc, hc', hcf, ewc]
        refine append_new (lo := h.length + 1) (n := 8) (es := r0.map encPass) (ys := [encPass p]) (by simpa using hLc.more [.cells 8 [encPass p]]) (by simp; omega) (by simp [appOk]) (by simp; omega) ?_
        intro d1 H5 hd1 hg5 hn5
        have hd1f := hd1.rs.fix
        obtain ⟨hN5, hNL5⟩ := nest_put (os := [.cells 8 [encPass p]]) hN hNL hc hrg hd1 (by simpa using hg5) (by simpa using hn5)
        have hB5 := hN.blk1 (os := [.cells 8 [encPass p]]) hc hrg (by simpa using hg5)
        have hT5 := hg5.keep _ _ (at_more hT _) fun off len e => by have := hLc.above _ _ _ e; omega
        have hbase5 := hg5.base h (by omega) (base_more hB _)
        have hL : encRows (segsI t.net l G (j + 1 + 1)) = (encRows (M ++ [r0])).set M.length (r0.map encPass ++ [encPass p]) := by
          rw [hseg3]; simp [encRows]
        simp [-Int.natCast_add, -appendOk, -appendK, -acells, -AV.solid, lxSegR, f1, f3, f7, f8, f9, hil, hlt, hpp, hpp', ← hnn, hcl', hBk, hc, hc', hcf, ewc, hd1f, hB5, ew]
        refine ⟨j + 1 + 1, by omega, by omega, by omega, by rw [List.getElem?_set_ne (by omega)]; exact hT5, base_set hbase5 (by omega) _, cs.set M.length d1, ?_, ?_⟩
        · rw [hL]; simpa [hcl'] using hN5
        · rw [hL]; simpa using hNL5
  · obtain rfl : n = i := by omega
    simp [f1, f3, f7, f8, f9, hxf, ← hnn]
    rw [segsM, ← hnn]
    exact ⟨hB, seg_frz hN (by omega) (segsI_ok hok1 (by omega))⟩
end Go.Proofs.Ytjdchnbjegddhaa
