/-
  Contracts: the best path, as the reference finds it.
-/
import Derived.Test.YtjdchnbjegddhaaGrA
import Derived.Test.YtjdchnbjegddhaaAbsLax
set_option linter.unusedVariables false
set_option linter.unusedSimpArgs false
set_option maxRecDepth 100000
namespace Go.Proofs.Ytjdchnbjegddhaa
open Go Go.Abs Go.Toll
variable {gl : Globs} {h : AHeap}

theorem set_same {H : AHeap} {b : Nat} {o : AObj} (h : H[b]? = some o) : H.set b o = H := by
  refine List.ext_getElem? fun i => ?_
  by_cases e : b = i
  · subst e; rw [List.getElem?_set_self (List.getElem?_eq_some_iff.1 h).1, h]
  · rw [List.getElem?_set_ne e]
theorem Ls.isOwn {n lo : Nat} {H : AHeap} {x : AV} {es : List (List AV)} (r : Ls n lo H x es) (h : es ≠ []) : ∃ b, x = .own b 0 es.length ∧ lo ≤ b ∧ H[b]? = some (.cells n es) := by
  rcases r.1 with ⟨_, e⟩ | h1
  · exact absurd e h
  · exact h1
/-- The heap of the search: the network, the paths, the durations. -/
structure RefH (h H : AHeap) (q px lb M : Nat) (v : Net) (cs : List AV) (st : St) : Prop where
  net : H[q]? = some (.cells 2 [encNet v])
  least : H[lb]? = some (.cells 1 (stD st))
  nest : Nest 1 (q + 1) H (.own px 0 cs.length) cs (stP st)
  high : ∀ b off len, AV.own b off len ∈ cs → M ≤ b
  base : ∃ g, H = h ++ g
  mle : M ≤ H.length
  ne : px ≠ lb ∧ q < lb ∧ lb < M ∧ px < M ∧ q < px ∧ h.length ≤ q
section
variable {H H' : AHeap} {q px lb M : Nat} {v : Net} {cs : List AV} {st : St}
theorem RefH.all (r : RefH h H q px lb M v cs st) : (H[q]? = some (.cells 2 [encNet v]) ∧ q < H.length ∧ ∀ hl : q < H.length, H[q] = .cells 2 [encNet v]) ∧ (H[lb]? = some (.cells 1 (stD st)) ∧ lb < H.length ∧ ∀ hl : lb < H.length, H[lb] = .cells 1 (stD st)) ∧
    H[px]? = some (.cells 1 (cs.map fun c => [c])) ∧ px < H.length ∧ ∀ hl : px < H.length, H[px] = .cells 1 (cs.map fun c => [c]) :=
  ⟨⟨r.net, (List.getElem?_eq_some_iff.1 r.net).1, fun _ => (List.getElem?_eq_some_iff.1 r.net).2⟩, ⟨r.least, (List.getElem?_eq_some_iff.1 r.least).1, fun _ => (List.getElem?_eq_some_iff.1 r.least).2⟩, r.nest.blk.1, r.nest.blk.2.1, r.nest.blk.2.2.1⟩
theorem RefH.more (r : RefH h H q px lb M v cs st) (g : AHeap) : RefH h (H ++ g) q px lb M v cs st :=
  ⟨by rw [List.getElem?_append_left r.all.1.2.1]; exact r.net, by rw [List.getElem?_append_left r.all.2.1.2.1]; exact r.least, r.nest.more g, r.high, base_more r.base g, by have := r.mle; simp; omega, r.ne⟩
/-- A new list grows beside it. -/
theorem RefH.grow {lo : Nat} {s : AV} (r : RefH h H q px lb M v cs st) (g : Grow lo H s H') (hs : ∀ b off len, s = .own b off len → M ≤ b ∧ ∀ off' len', AV.own b off' len' ∉ cs) (hlo : h.length ≤ lo) : RefH h H' q px lb M v cs st := by
  obtain ⟨n1, n2, n3, n4, n5, n6⟩ := r.ne
  refine ⟨g.keep _ _ r.net fun off len e => by have := (hs _ _ _ e).1; omega, g.keep _ _ r.least fun off len e => by have := (hs _ _ _ e).1; omega, ?_, r.high, g.base h hlo r.base, Nat.le_trans r.mle g.len, r.ne⟩
  refine r.nest.grow g (fun b e off len e' => ?_) fun c hc b off len e off' len' e' => ?_
  · injection e with e1
    have := (hs _ _ _ e').1
    omega
  · exact (hs _ _ _ e').2 off len (e ▸ hc)
/-- A better path is kept. -/
theorem RefH.put (r : RefH h H q px lb M v cs st) {k : Nat} {d : AV} {p : List Bytes} {t : Int} (hk : k < cs.length) (hd : Ls 1 M H d (p.map encT)) (hn : ∀ b off len, d = .own b off len → ∀ off' len', AV.own b off' len' ∉ cs) :
    RefH h ((H.set px (.cells 1 ((cs.map fun c => [c]).set k [d]))).set lb (.cells 1 ((stD st).set k [.int .i64 t]))) q px lb M v (cs.set k d) (st.set k (p, t)) := by
  obtain ⟨n1, n2, n3, n4, n5, n6⟩ := r.ne
  obtain ⟨⟨a1, a2, a3⟩, ⟨b1, b2, b3⟩, c1, c2, c3⟩ := r.all
  have hdb := hd.above
  refine ⟨?_, ?_, ?_, fun b off len hm => ?_, base_set (base_set r.base (by omega) _) (by omega) _, by have := r.mle; simpa using this, r.ne⟩
  · rw [List.getElem?_set_ne (by omega), List.getElem?_set_ne (by omega)]; exact a1
  · rw [stD_set, List.getElem?_set_self (by simpa using b2)]
  · rw [stP_set, show (cs.set k d).length = cs.length by simp]
    have keep : ∀ b o, H[b]? = some o → b ≠ px → (H.set px (.cells 1 ((cs.map fun c => [c]).set k [d])))[b]? = some o := fun b o hb h1 => by
      rw [List.getElem?_set_ne (Ne.symm h1)]; exact hb
    have h1 := r.nest.put (h' := H.set px (.cells 1 ((cs.map fun c => [c]).set k [d]))) (d := d) (s := p.map encT) rfl hk (hd.keep' fun b len o e ho => keep b o ho (by have := hdb _ _ _ e; omega)).rs (fun b off len e => ⟨by have := hdb _ _ _ e; omega, by have := hdb _ _ _ e; omega, fun off' len' hm => absurd hm (hn b off len e off' len')⟩) (fun b o hb hne _ => keep b o hb hne) (List.getElem?_set_self c2)
    refine h1.keep fun b o hm ho => ?_
    rw [List.getElem?_set_ne]
    · exact ho
    · rcases hm with ⟨off, len, e⟩ | ⟨off, len, e⟩
      · injection e with e2; omega
      · rcases List.mem_or_eq_of_mem_set e with e | e
        · have := r.high b off len e; omega
        · have := hdb b off len e.symm; omega
  · rcases List.mem_or_eq_of_mem_set hm with hm | e
    · exact r.high b off len hm
    · exact hdb b off len e.symm
end
def lxD : Nat → Option (List (Nat × Nat)) := fun _ => none
set_option maxHeartbeats 8000000 in
theorem ref07_Shortest (n : Net) (a b : Bytes) (hp : n.pts.length ≤ 1000) (hl : n.lks.length ≤ 1000) : ACalls Try.prog gl 48 [.agg (encNet n), .str a, .str b] h fun x h' => x = bestV (validN n) a b ∧ h' = h := by
  refine ACalls.fresh' (ACalls.bodyL lxD Try.f48 _ mixed Try.func48 rfl rfl (by simp [Try.ntmps48]) ?_)
  simp
  refine callS.pure _ (fun _ => ref07_valid n hp hl) ?_
  have ok := validN_ok n
  generalize validN n = v at *
  have hlk := ok.llen
  have hpl := ok.plen
  simp
  refine ⟨by decide, callS.pure _ (fun _ => ref07_place v.pts 64 a (by omega)) ?_⟩
  rw [List.take_of_length_le (by omega)]
  simp
  refine callS.pure _ (fun _ => ref07_place v.pts 64 b (by omega)) ?_
  rw [List.take_of_length_le (by omega)]
  simp [idxPt_lt]
  refine ⟨fun q => ?_, fun qa qb => ?_⟩
  · have hnone : bestP v a b = none := by
      unfold bestP
      rw [if_neg]
      rintro ⟨c1, c2⟩
      rcases q with q | q <;> simp_all
    rw [bestV, hnone]
    exact .tup' (.cons .nil (.cons (.data _ (by simp)) (.cons (.data _ (by simp)) .nil)))
  · rw [idxI_pos qa, idxI_pos qb]
    obtain ⟨q, hq⟩ : ∃ q, q = h.length + 1 := ⟨_, rfl⟩
    rw [show h.length + 1 = q from hq.symm]
    refine AWP.upL lxD mixed v.pts.length (fun i fr H => fr 1 = .str a ∧ fr 9 = .ptr q 0 0 ∧ fr 10 = .int .i64 (posP v.pts a) ∧ fr 11 = .int .i64 (posP v.pts b) ∧ fr 14 = .int .i64 i ∧ H[q]? = some (.cells 2 [encNet v]) ∧ (∃ g, H = h ++ g) ∧ ∃ x y, fr 12 = x ∧ fr 13 = y ∧ Ls 1 (q + 1) H x (List.replicate i [.nil]) ∧ Ls 1 (q + 1) H y (List.replicate i [.int .i64 0]) ∧ ∀ b off len off' len', x = .own b off len → y ≠ .own b off' len') 0 (by omega)
      ⟨by simp, by simp, by simp, by simp, by simp, by simp [hq], by simp, .nil, .nil, by simp, by simp, by simpa using Ls.nil, by simpa using Ls.nil, by simp⟩ ?_
    rintro i fr H hi ⟨e1, e9, e10, e11, e14, hN, hB, x, y, e12, e13, hx, hy, hxy⟩
    have hxf := hx.rs.fix
    have hyf := hy.rs.fix
    have hqa : H[q]? = some (.cells 2 [encNet v]) ∧ q < H.length ∧ ∀ hl : q < H.length, H[q] = .cells 2 [encNet v] := ⟨hN, (List.getElem?_eq_some_iff.1 hN).1, fun _ => (List.getElem?_eq_some_iff.1 hN).2⟩
    have hbl := base_len hB
    rcases Nat.lt_or_ge i v.pts.length with hlt | hge
    · have ew := wrap_succ' (i := i) (by omega)
      simp [-appendOk, -appendK, -acells, -AV.solid, lxD, hqa, e1, e9, e10, e11, e12, e13, e14, hlt, hxf]
      refine append_new (lo := q + 1) (n := 1) (es := List.replicate i [.nil]) (ys := [[.nil]]) (by simpa using hx.more [.cells 1 [[.nil]]]) (by simp; omega) (by simp [appOk]) (by simp; omega) ?_
      intro s1 H1 hs1 hg1 hn1
      have hs1f := hs1.rs.fix
      have hN1 : H1[q]? = some (.cells 2 [encNet v]) := hg1.keep q _ (by rw [List.getElem?_append_left hqa.2.1]; exact hN) fun off len e => by have := hx.above _ _ _ e; omega
      have hB1 := hg1.base h (by omega) (base_more hB _)
      have hqa1 : H1[q]? = some (.cells 2 [encNet v]) ∧ q < H1.length ∧ ∀ hl : q < H1.length, H1[q] = .cells 2 [encNet v] := ⟨hN1, (List.getElem?_eq_some_iff.1 hN1).1, fun _ => (List.getElem?_eq_some_iff.1 hN1).2⟩
      have hy1 := (hy.more [.cells 1 [[.nil]]]).grow hg1 (fun b e _ off len e' => hxy b off len _ _ e' e)
      have hy1f := hy1.rs.fix
      simp [-appendOk, -appendK, -acells, -AV.solid, lxD, hqa1, e1, e9, e10, e11, e12, e13, e14, hlt, hs1f, hy1f]
      refine append_new (lo := q + 1) (n := 1) (es := List.replicate i [.int .i64 0]) (ys := [[.int .i64 0]]) (by simpa using hy1.more [.cells 1 [[.int .i64 0]]]) (by simp; omega) (by simp [appOk]) (by simp; omega) ?_
      intro s2 H2 hs2 hg2 hn2
      have hs2f := hs2.rs.fix
      have hl1 := hg1.len
      have hl2 := hg2.len
      have hN2 : H2[q]? = some (.cells 2 [encNet v]) := hg2.keep q _ (by rw [List.getElem?_append_left hqa1.2.1]; exact hN1) fun off len e => by have := hy.above _ _ _ e; omega
      have hB2 := hg2.base h (by omega) (base_more hB1 _)
      have hs12 := (hs1.more [.cells 1 [[.int .i64 0]]]).grow hg2 (fun b e _ off len e' => by have h1 := hn1 _ _ _ e; have h2 := hy.rs.lt e'; simp at h1; omega)
      have hqa2 : q < H2.length := (List.getElem?_eq_some_iff.1 hN2).1
      simp [-appendOk, -appendK, -acells, -AV.solid, lxD, e1, e9, e10, e11, e12, e13, e14, hlt, hs1f, hs2f, ew]
      refine ⟨i + 1, by omega, by omega, by omega, hN2, hB2, ?_, ?_, fun b off len off' len' e e' => ?_⟩
      · rw [List.replicate_succ']; exact hs12
      · rw [List.replicate_succ']; exact hs2
      · have h1 := hs1.rs.lt e
        have h2 := hn2 _ _ _ e'
        simp at h2
        omega
    · obtain rfl : i = v.pts.length := by omega
      have hnp : 0 < v.pts.length := Nat.lt_of_le_of_lt (Nat.zero_le _) (posP_lt qa)
      obtain ⟨px, rfl, hpx1, hpx2⟩ := Ls.isOwn hx (by rw [ne_eq, List.replicate_eq_nil_iff]; omega)
      obtain ⟨lb, rfl, hlb1, hlb2⟩ := Ls.isOwn hy (by rw [ne_eq, List.replicate_eq_nil_iff]; omega)
      rw [List.length_replicate] at *
      have hne : px ≠ lb := fun e => hxy px 0 _ 0 _ rfl (by rw [e])
      obtain ⟨M, hM⟩ : ∃ M, M = H.length := ⟨_, rfl⟩
      have hpxl := lt_of_get hpx2
      have hlbl := lt_of_get hlb2
      have hNest := Nest.ofNils (n := 1) hx
      have hpa := posP_lt qa
      have hpb := posP_lt qb
      have hR0 : RefH h (H ++ [.cells 1 [encT a]]) q px lb M v (List.replicate v.pts.length .nil) (st0 v.pts.length) := by
        refine ⟨by rw [List.getElem?_append_left hqa.2.1]; exact hN, by rw [List.getElem?_append_left hlbl, st0_D]; exact hlb2, ?_, fun b off len hm => ?_, base_more hB _, by simp; omega, ⟨hne, by omega, by omega, by omega, by omega, by omega⟩⟩
        · rw [st0_P, List.length_replicate]
          exact hNest.more _
        · simp at hm
      have hR1 := hR0.put (k := posP v.pts a) (d := .own M 0 1) (p := [a]) (t := 0) (by simpa using hpa) (Ls.own (es := [encT a]) (by simp [hM]) (Nat.le_refl _) (by simp) (by simp [encT])) (fun b off len _ off' len' hm => by simp at hm)
      rw [set_same (b := lb) (by
        rw [List.getElem?_set_ne hne, hR0.least]
        congr 2
        rw [st0_D]
        refine List.ext_getElem? fun i => ?_
        by_cases e : posP v.pts a = i
        · subst e; rw [List.getElem?_set_self (by simpa using hpa), List.getElem?_replicate, if_pos hpa]
        · rw [List.getElem?_set_ne e]), ← rInit_eq] at hR1
      simp [-appendOk, -appendK, -acells, -AV.solid, lxD, hqa, e1, e9, e10, e11, e12, e13, e14, hpx2, (List.getElem?_eq_some_iff.1 hpx2).2, hpxl, hpa]
      rw [← hM]
      refine AWP.upL lxD mixed v.pts.length (fun r fr H => fr 9 = .ptr q 0 0 ∧ fr 11 = .int .i64 (posP v.pts b) ∧ fr 12 = .own px 0 v.pts.length ∧ fr 13 = .own lb 0 v.pts.length ∧ fr 15 = .int .i64 r ∧ ∃ cs, RefH h H q px lb M v cs (rSt v a r 0) ∧ cs.length = v.pts.length) 0 (by omega)
        ⟨by simp [e9], by simp [e11], by simp [e12], by simp [e13], by simp, (List.replicate v.pts.length .nil).set (posP v.pts a) (.own M 0 1), ?_, by simp⟩ ?_
      · rw [rSt_zero]
        have e : (H.set px (.cells 1 (((List.replicate v.pts.length AV.nil).map fun c => [c]).set (posP v.pts a) [.own M 0 1]))) ++ [AObj.cells 1 [encT a]] = (H ++ [AObj.cells 1 [encT a]]).set px (.cells 1 (((List.replicate v.pts.length AV.nil).map fun c => [c]).set (posP v.pts a) [.own M 0 1])) := by
          rw [List.set_append_left _ _ hpxl]
        rw [← e] at hR1
        simpa [encT] using hR1
      clear hR0 hR1 hNest hx hy hxf hyf hpx2 hlb2 e1 e9 e10 e11 e12 e13 e14 hN hB hqa hbl hi hge hxy hpxl hlbl
      rintro r fr H hr ⟨e9, e11, e12, e13, e15, cs, hR, hcl⟩
      have hok := rSt_ok ok qa r 0
      rcases Nat.lt_or_ge r v.pts.length with hltr | hger
      · have ewr := wrap_succ' (i := r) (by omega)
        simp [-appendOk, -appendK, -acells, -AV.solid, lxD, hR.all, e9, e11, e12, e13, e15, hltr]
        refine AWP.upL lxD mixed v.lks.length (fun i fr H => fr 9 = .ptr q 0 0 ∧ fr 11 = .int .i64 (posP v.pts b) ∧ fr 12 = .own px 0 v.pts.length ∧ fr 13 = .own lb 0 v.pts.length ∧ fr 15 = .int .i64 r ∧ fr 16 = .int .i64 i ∧ ∃ cs, RefH h H q px lb M v cs (rSt v a r i) ∧ cs.length = v.pts.length) 0 (by omega)
          ⟨by simp [e9], by simp [e11], by simp [e12], by simp [e13], by simp [e15], by simp, cs, hR, hcl⟩ ?_
        clear hR hcl cs e9 e11 e12 e13 e15 hok
        rintro i fr H hi ⟨e9, e11, e12, e13, e15, e16, cs, hR, hcl⟩
        rcases Nat.lt_or_ge i v.lks.length with hlt | hge
        · obtain ⟨x, hx, hx'⟩ := get_lt hlt
          have hxm := List.mem_of_getElem? hx
          have ew := wrap_succ' (i := i) (by omega)
          obtain ⟨q1, q2, q3⟩ := ok.ends x hxm
          obtain ⟨r1, r2, r3⟩ := ok.rng x hxm
          have hsu := rSt_succ a r hx
          have hsl := rSt_len hlk a r i (by omega)
          have hst := rSt_ok ok qa r i
          generalize rSt v a r i = st at *
          have hstl := hst.len
          have p1 := posP_lt q1
          have p2 := posP_lt q2
          have g1 := stG_get hstl q1
          have g2 := stG_get hstl q2
          obtain ⟨cj, hcj, hcj'⟩ := get_lt (l := cs) (i := posP v.pts x.src) (by omega)
          obtain ⟨ck, hck, hck'⟩ := get_lt (l := cs) (i := posP v.pts x.dst) (by omega)
          have hRj := (hR.nest.each _ _ _ hcj (stP_get g1)).1
          have hRk := (hR.nest.each _ _ _ hck (stP_get g2)).1
          have hjf := hRj.fix
          have p1' : posP v.pts x.src < cs.length := by omega
          have p2' : posP v.pts x.dst < cs.length := by omega
          have hmle := hR.mle
          have hjl := (hRj.append [.cells 4 [encLk x]]).len2
          simp only [encLk] at hjl
          simp [-appendOk, -appendK, -acells, -AV.solid, lxD, hR.all, e9, e11, e12, e13, e15, e16, hlt, hx, hx']
          refine ⟨by decide, callS.pure _ (fun _ => ref07_place v.pts 64 x.src (by omega)) ?_⟩
          rw [List.take_of_length_le (by omega), idxI_pos q1]
          simp [-appendOk, -appendK, -acells, -AV.solid, lxD, hR.all, e9, e11, e12, e13, e15, e16, hlt, hx, hx']
          refine callS.pure _ (fun _ => ref07_place v.pts 64 x.dst (by omega)) ?_
          rw [List.take_of_length_le (by omega), idxI_pos q2]
          simp [-appendOk, -appendK, -acells, -AV.solid, lxD, hR.all, e9, e11, e12, e13, e15, e16, hlt, hx, hx', hcl, p1, p1', hcj, hcj', hjf, hjl, ew]
          by_cases hz : (stG v st x.src).1 = []
          · simp [hz]
            have hR1 := hR.more [.cells 4 [encLk x]]
            exact ⟨i + 1, by omega, by omega, by omega, cs, by rw [hsu, rStep, if_pos hz]; exact hR1, hcl⟩
          · obtain ⟨l, s, w1, w2, w3, w4⟩ := hst.walk x.src q1 hz
            have wr := wk_rng ok w2
            have wlen := stG_len (v := v) hsl x.src
            have wlen2 := stG_len (v := v) hsl x.dst
            have wl : l.length + 1 ≤ 1 + 128 * r + i := by rw [w1] at wlen; simpa using wlen
            simp [-appendOk, -appendK, hz]
            refine append_new (lo := M) (n := 1) (es := []) (ys := (stG v st x.src).1.map encT) Ls.nil (by simp; omega) (appOk_rs (by simpa using hRj.append [.cells 4 [encLk x]]) (by simp) (by simp) (by simp)) (by simp; omega) ?_
            intro s1 H1 hs1 hg1 hn1
            have hs1f := hs1.rs.fix
            have hR1 := (hR.more [.cells 4 [encLk x]]).grow (by simpa using hg1) (fun b off len e => by cases e) (by have := hR.ne; omega)
            have hx1 : H1[H.length]? = some (.cells 4 [encLk x]) := hg1.keep _ _ (by simp) fun off len e => by cases e
            have hx1' := List.getElem?_eq_some_iff.1 hx1
            obtain ⟨hx1a, hx1b⟩ := hx1'
            have hx1c : H.length < H1.length := hx1a
            have hmle1 := hR1.mle
            have hl1 := hg1.len
            rw [List.nil_append] at hs1
            simp [-appendOk, -appendK, -acells, -AV.solid, lxD, hR1.all, e9, e11, e12, e13, e15, e16, hs1f, hx1, hx1b, hx1c]
            refine append_new (lo := M) (n := 1) (es := (stG v st x.src).1.map encT) (ys := [encT x.dst]) (by simpa [encT] using hs1.more [.cells 1 [encT x.dst]]) (by simp; omega) (by simp [appOk, encT]) (by simp; omega) ?_
            intro s2 H2 hs2 hg2 hn2
            have hs2f := hs2.rs.fix
            have hnot1 : ∀ b off len, s1 = .own b off len → M ≤ b ∧ ∀ off' len', AV.own b off' len' ∉ cs := fun b off len e => by
              have h1 := hn1 b off len e
              simp at h1
              exact ⟨by omega, fun off' len' hm => by have := hR.nest.lt hm; omega⟩
            have hR2 := (hR1.more [.cells 1 [encT x.dst]]).grow (by simpa [encT] using hg2) hnot1 (by have := hR.ne; omega)
            have hx2 : H2[H.length]? = some (.cells 4 [encLk x]) := hg2.keep _ _ (by rw [List.getElem?_append_left hx1c]; exact hx1) fun off len e => by have h1 := hn1 _ _ _ e; simp at h1; omega
            obtain ⟨hx2c, hx2b⟩ := List.getElem?_eq_some_iff.1 hx2
            have hl2 := hg2.len
            have hRk2 := (hR2.nest.each _ _ _ hck (stP_get g2)).1
            have hkf := hRk2.fix
            have hd1 : (stD st)[posP v.pts x.src]? = some [.int .i64 (stG v st x.src).2] := stD_get g1
            have hd2 : (stD st)[posP v.pts x.dst]? = some [.int .i64 (stG v st x.dst).2] := stD_get g2
            obtain ⟨hd1l, hd1'⟩ := List.getElem?_eq_some_iff.1 hd1
            obtain ⟨hd2l, hd2'⟩ := List.getElem?_eq_some_iff.1 hd2
            have hdl := stD_len st
            have ewm : IntKind.i64.wrap ((stG v st x.src).2 + x.min) = (stG v st x.src).2 + x.min := wrap64_of (by omega) (by omega)
            have hs2' : Ls 1 M H2 s2 (((stG v st x.src).1 ++ [x.dst]).map encT) := by simpa using hs2
            simp [-appendOk, -appendK, -acells, -AV.solid, lxD, hR2.all, e9, e11, e12, e13, e15, e16, hs2f, hx2, hx2b, hx2c, hcl, p1, p1', p2, p2', hck, hck', hkf, hd1, hd1', hd1l, hd2, hd2', hd2l, hdl, hstl, ewm]
            refine ⟨by decide, callS.pure _ (fun _ => ref07_better ((stG v st x.src).2 + x.min) (stG v st x.dst).2 ((stG v st x.src).1 ++ [x.dst]) (stG v st x.dst).1 (by simp; omega) ?_ s2 ck hs2'.rs hRk2 (by omega)) ?_⟩
            · intro z hz2
              rcases List.mem_append.1 hz2 with hz2 | hz2
              · rw [w1] at hz2
                rcases List.mem_cons.1 hz2 with rfl | hz2
                · exact shortN ok qa
                · exact shortN ok ((wk_pts ok w2).1 z hz2)
              · rw [List.mem_singleton.1 hz2]; exact shortN ok q2
            · have hnot2 : ∀ b off len, s2 = .own b off len → ∀ off' len', AV.own b off' len' ∉ cs := fun b off len e off' len' hm => by
                have h1 := hn2 b off len e
                have h2 := hR.nest.lt hm
                simp at h1 hl1
                omega
              have hput := hR2.put (k := posP v.pts x.dst) (d := s2) (p := (stG v st x.src).1 ++ [x.dst]) (t := (stG v st x.src).2 + x.min) p2' hs2' hnot2
              have hn : px ≠ lb := hne
              have hpH : px ≠ H.length := by have := hR.all.2.2.2.1; omega
              have hlH : lb ≠ H.length := by have := hR.all.2.1.2.1; omega
              simp [List.getElem_set, List.getElem?_set, hn, hpH, hlH, -appendOk, -appendK, -acells, -AV.solid, lxD, hR2.all, e9, e11, e12, e13, e15, e16, hs2f, hx2, hx2b, hx2c, hcl, p1, p1', p2, p2', hck, hck', hkf, hd1, hd1', hd1l, hd2, hd2', hd2l, hdl, hstl, ewm]
              refine ⟨fun c => ⟨by decide, i + 1, by omega, by omega, by omega, cs.set (posP v.pts x.dst) s2, ?_, by simp [hcl]⟩, fun c => ⟨i + 1, by omega, by omega, by omega, cs, ?_, hcl⟩⟩
              · rw [hsu, rStep, if_neg hz, if_pos c]; exact hput
              · rw [hsu, rStep, if_neg hz, if_neg (by simp [c])]; exact hR2
        · obtain rfl : i = v.lks.length := by omega
          rw [rSt_all] at hR
          simp [-appendOk, -appendK, -acells, -AV.solid, lxD, hR.all, e9, e11, e12, e13, e15, e16, ewr]
          exact ⟨r + 1, by omega, by omega, by omega, cs, hR, hcl⟩
      · obtain rfl : r = v.pts.length := by omega
        rw [rSt_last] at hR hok
        obtain ⟨f1, f2⟩ := rsh_best ok qa qb
        generalize hst : rsh v a = st at *
        have hstl := hok.len
        have g2 := stG_get hstl qb
        obtain ⟨cb, hcb, hcb'⟩ := get_lt (l := cs) (i := posP v.pts b) (by omega)
        obtain ⟨hRb, hab⟩ := hR.nest.each _ _ _ hcb (stP_get g2)
        have hbf := hRb.fix
        have hd2 : (stD st)[posP v.pts b]? = some [.int .i64 (stG v st b).2] := stD_get g2
        obtain ⟨hd2l, hd2'⟩ := List.getElem?_eq_some_iff.1 hd2
        have hdl := stD_len st
        have hlen : ((stG v st b).1.length : Int) = 0 ↔ (stG v st b).1 = [] := by rw [← List.length_eq_zero_iff]; omega
        have hpbc : posP v.pts b < cs.length := by omega
        have hcond : hasPt v.pts a = true ∧ hasPt v.pts b = true := ⟨qa, qb⟩
        simp [-appendOk, -appendK, -acells, -AV.solid, lxD, hR.all, e9, e11, e12, e13, e15, hcl, hpb, hpbc, hcb, hcb', hbf, hRb.len2, hlen, hd2, hd2', hd2l, hdl, hstl]
        refine ⟨fun c => ⟨hR.base, ?_⟩, fun c => ⟨by decide, hR.base, ?_⟩⟩
        · have hnone : bestP v a b = none := by unfold bestP; rw [if_pos hcond, hst, if_pos c]
          rw [bestV, hnone]
          exact .tup' (.cons .nil (.cons (.data _ (by simp)) (.cons (.data _ (by simp)) .nil)))
        · have hsome : bestP v a b = some (stG v st b) := by unfold bestP; rw [if_pos hcond, hst, if_neg c]
          rw [bestV, hsome]
          exact .tup' (.cons (hRb.frzD (fun b off len e => by have := (hab b off len e).1; omega) (texts_data _)) (.cons (.data _ (by simp)) (.cons (.data _ (by simp)) .nil)))
end Go.Proofs.Ytjdchnbjegddhaa
