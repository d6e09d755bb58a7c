/-
  Contracts: passages divided by the longest chain.
-/
import Derived.Test.YtjdchnbjegddhaaChainB
set_option linter.unusedVariables false
set_option linter.unusedSimpArgs false
set_option maxRecDepth 100000
namespace Go.Proofs.Ytjdchnbjegddhaa
open Go Go.Abs Go.Toll
variable {gl : Globs} {h : AHeap}

theorem srcs_n {p : TPass} (hp : p.Ok) : ∀ e ∈ p.sources, e.length = 2 := by
  intro e he
  rw [hp.src] at he
  obtain ⟨s, _, rfl⟩ := List.mem_map.1 he
  rfl
theorem ref19_copied (p : TPass) (hp : p.Ok) (hn : p.sources.length ≤ 1000) : ACalls Try.prog gl 29 [.agg (encPass p)] h fun v h' => v = .agg (encPass p) ∧ h' = h := by
  refine ACalls.fresh' (ACalls.body Try.f29 _ mixed Try.func29 rfl rfl (by simp [Try.ntmps29]) ?_)
  simp [-appendOk, -appendK, -acells, -AV.solid]
  refine append_new (lo := h.length + 3) (n := 2) (es := []) (ys := p.sources) Ls.nil (by simp) (by simp [appOk]; exact srcs_n hp) (by simp; omega) ?_
  intro s1 H1 hs1 hg1 hn1
  have hs1f := hs1.rs.fix
  have hB1 := hg1.base h (by omega) ⟨_, rfl⟩
  have hk1 : H1[h.length + 2]? = some (.cells 8 [[.str p.id, .str p.point, .int .i64 p.time, .str p.tag, .str p.plate, .int .i64 p.cls, .int .i64 p.score, .nil]]) := hg1.keep (h.length + 2) _ (by simp) (by simp)
  have hk2 : H1[h.length + 1]? = some (.cells 8 [[.str [], .str [], .int .i64 0, .str [], .str [], .int .i64 0, .int .i64 0, .nil]]) := hg1.keep (h.length + 1) _ (by simp) (by simp)
  have k1 := at3 hk1
  have k2 := at3 hk2
  have hne : ∀ b off len, s1 = .own b off len → h.length + 3 ≤ b := hs1.above
  have hd : ∀ e ∈ p.sources, ∀ y ∈ e, y.Data := hp.dat
  simp [-appendOk, -appendK, -acells, -AV.solid, hs1f, k1, k2]
  have hs2 := (hs1.put (b := h.length + 2) (o := .cells 8 [[.str p.id, .str p.point, .int .i64 p.time, .str p.tag, .str p.plate, .int .i64 p.cls, .int .i64 p.score, s1]]) (by omega)).put (b := h.length + 1) (o := .cells 8 [[.str p.id, .str p.point, .int .i64 p.time, .str p.tag, .str p.plate, .int .i64 p.cls, .int .i64 p.score, s1]]) (by omega)
  refine ⟨base_set (base_set hB1 (by omega) _) (by omega) _, .agg' (.cons (.data _ (by simp)) (.cons (.data _ (by simp)) (.cons (.data _ (by simp)) (.cons (.data _ (by simp)) (.cons (.data _ (by simp)) (.cons (.data _ (by simp)) (.cons (.data _ (by simp)) (.cons ?_ .nil))))))))⟩
  exact hs2.frz (by omega) (by simpa using hd)
theorem exc_data (l : List TExc) : ∀ e ∈ l.map encExc, ∀ y ∈ e, y.Data := by
  intro e he y hy
  obtain ⟨m, _, rfl⟩ := List.mem_map.1 he
  simp [encExc] at hy
  rcases hy with rfl | rfl <;> simp
theorem pass_data {l : List TPass} (hl : ∀ p ∈ l, p.Ok) : ∀ e ∈ l.map encPass, ∀ y ∈ e, y.Data := by
  intro e he y hy
  obtain ⟨p, hp, rfl⟩ := List.mem_map.1 he
  have := (hl p hp).dat
  simp at hy
  rcases hy with rfl | rfl | rfl | rfl | rfl | rfl | rfl | rfl
  · simp
  · simp
  · simp
  · simp
  · simp
  · simp
  · simp
  · exact .ro _ this
theorem lngL_asc (G : Nat → Nat → Bool) (n : Nat) : (lngL G n).Pairwise (· < ·) ∧ ∀ j ∈ lngL G n, j < n := ⟨lngL_spec.1.asc.1, lngL_spec.2.1⟩
/-- What 'Split' hands back. -/
def splitV (v : Net) (l : List TPass) : AV := .tup [.ro ((inI (lngL (gL v l) l.length) l l.length).map encPass), .ro ((outI (lngL (gL v l) l.length) l l.length).map encExc)]
set_option maxHeartbeats 8000000 in
theorem chain_Split (t : Topo) (l : List TPass) (hok : ∀ p ∈ l, p.Ok ∧ p.sources.length ≤ 1000) (hn : l.length ≤ 1000000) (hp : t.net.pts.length ≤ 1000) (hl : t.net.lks.length ≤ 1000) (hs : t.sys.length ≤ 1000) : ACalls Try.prog gl 16 [.agg (encTopo t), .ro (l.map encPass)] h fun v h' => v = splitV (validT t).net l ∧ h' = h := by
  refine ACalls.fresh' (ACalls.body Try.f16 _ mixed Try.func16 rfl rfl (by simp [Try.ntmps16]) ?_)
  simp
  refine callS.pure _ (fun _ => chain_Longest t l hn hp hl hs) ?_
  unfold splitV
  obtain ⟨hI1, hI2⟩ := lngL_asc (gL (validT t).net l) l.length
  generalize lngL (gL (validT t).net l) l.length = I at *
  obtain ⟨n, hnn⟩ : ∃ n, n = l.length := ⟨_, rfl⟩
  simp [← hnn]
  refine AWP.upF 9 mixed n (fun i fr H => fr 14 = .ro (l.map encPass) ∧ fr 15 = .int .i64 n ∧ fr 16 = .int .i64 i ∧ fr 8 = .ro ((restI I i).map encIx) ∧ (∃ g, H = h ++ g) ∧ h.length + 1 ≤ H.length ∧ ∃ x y, fr 6 = x ∧ fr 7 = y ∧ Ls 8 (h.length + 1) H x ((inI I l i).map encPass) ∧ Ls 2 (h.length + 1) H y ((outI I l i).map encExc) ∧ ∀ b off len b' off' len', x = .own b off len → y = .own b' off' len' → b ≠ b') 0 (by omega)
    ⟨by simp, by simp, by simp, by simp [restI_zero], by simp, by simp, .nil, .nil, by simp, by simp, by simpa [inI] using Ls.nil, by simpa [outI] using Ls.nil, by simp⟩ ?_
  rintro i fr H hi ⟨e14, e15, e16, e8, hB, hHl, x, y, e6, e7, hx, hy, hxy⟩
  have hxf := hx.rs.fix
  have hyf := hy.rs.fix
  have hxin := hx.inside
  have hyin := hy.inside
  have hxab := hx.above
  have hyab := hy.above
  have hlen := base_len hB
  have hil1 := inI_len I l i
  have hil2 := outI_len I l i
  rcases Nat.lt_or_ge i n with hlt | hge
  · obtain ⟨p, hpp, hpp'⟩ := get_lt (l := l) (i := i) (by omega)
    have hil : i < l.length := by omega
    have ew := wrap_succ' (i := i) (by omega)
    obtain ⟨hpo, hps⟩ := hok p (List.mem_of_getElem? hpp)
    have hrs := restI_succ (i := i) hI1
    have hs1 := inI_succ (I := I) hpp
    have hs2 := outI_succ (I := I) hpp
    obtain ⟨q0, hq0⟩ : ∃ q0, q0 = H.length := ⟨_, rfl⟩
    by_cases c : i ∈ I
    · rw [if_pos c] at hrs hs1 hs2
      rw [hrs] at e8
      simp [-appendOk, -appendK, -acells, -AV.solid, e6, e7, e8, e14, e15, e16, hlt, hil, hpp, hpp', hxf, hyf, encIx, ← hnn, ← hq0]
      refine append_new (lo := q0 + 1) (n := 2) (es := []) (ys := p.sources) (Ls.own (by simp [hq0]) (by omega) rfl (by simp)) (by simp; omega) (by simp [appOk]; exact srcs_n hpo) (by simp; omega) ?_
      intro s1 H1 hs1' hg1 hn1
      have hs1f := hs1'.rs.fix
      have hs1ab := hs1'.above
      have hk1 : ∀ b o, b < q0 → H[b]? = some o → H1[b]? = some o := fun b o hb ho => hg1.keep b o (at_more ho _) fun off len e => by injection e with e; omega
      have hB1 := hg1.base h (by omega) (base_more hB _)
      have hP1 : H1[q0]? = some (.cells 8 [encPass p]) := hg1.keep q0 _ (by simp [hq0]) fun off len e => by injection e with e; omega
      have hP3 := at3 hP1
      simp only [encPass_eq] at hP3
      have hl1 := hg1.len
      simp at hl1
      have hx1 : Ls 8 (h.length + 1) H1 x ((inI I l i).map encPass) := (hx.more _).grow hg1 fun b eb hbl off len e => by have := hxin _ _ _ eb; injection e with e; omega
      have hy1 : Ls 2 (h.length + 1) H1 y ((outI I l i).map encExc) := (hy.more _).grow hg1 fun b eb hbl off len e => by have := hyin _ _ _ eb; injection e with e; omega
      have hq0h : h.length < q0 := by omega
      simp [-appendOk, -appendK, -acells, -AV.solid, e6, e7, e8, e14, e15, e16, hs1f, hxf, hyf, hP3]
      have hs1p := hs1'.put (b := q0) (o := .cells 8 [[.str p.id, .str p.point, .int .i64 p.time, .str p.tag, .str p.plate, .int .i64 p.cls, .int .i64 p.score, s1]]) (by omega)
      refine AWP.freezeF (lo := q0 + 1) (n := 2) (es := [] ++ p.sources) 34 q0 8 [.str p.id, .str p.point, .int .i64 p.time, .str p.tag, .str p.plate, .int .i64 p.cls, .int .i64 p.score] [] (by simp) hs1p.z (by simp [hP3]) (fun off len e => by have := hs1ab _ _ _ e; omega) ?_
      intro fr2 H2 _ qf hP2 hk2 hb2 hl2
      rw [List.length_set] at hl2
      have f6 : fr2 6 = x := by rw [qf 6 (by decide)]; simp [e6]
      have f7 : fr2 7 = y := by rw [qf 7 (by decide)]; simp [e7]
      have f8 : fr2 8 = .ro ((i :: restI I (i + 1)).map encIx) := by rw [qf 8 (by decide)]; simp [e8]
      have f10 : fr2 10 = .ptr q0 0 0 := by rw [qf 10 (by decide)]; simp
      have f14 : fr2 14 = .ro (l.map encPass) := by rw [qf 14 (by decide)]; simp [e14]
      have f15 : fr2 15 = .int .i64 n := by rw [qf 15 (by decide)]; simp [e15]
      have f16 : fr2 16 = .int .i64 i := by rw [qf 16 (by decide)]; simp [e16]
      have hB2 := hb2 h (by omega) (by omega) (base_set hB1 (by omega) _)
      have hP3 := at3 hP2
      have keep2 : ∀ b o, b < q0 → H1[b]? = some o → H2[b]? = some o := fun b o hb ho => hk2 b o (by omega) (by rw [List.getElem?_set_ne (by omega)]; exact ho) fun off len e => by have := hs1ab _ _ _ e; omega
      have hx2 : Ls 8 (h.length + 1) H2 x ((inI I l i).map encPass) := hx1.keep' fun b len o e ho => keep2 b o (by have := hxin _ _ _ e; omega) ho
      have hy2 : Ls 2 (h.length + 1) H2 y ((outI I l i).map encExc) := hy1.keep' fun b len o e ho => keep2 b o (by have := hyin _ _ _ e; omega) ho
      refine AWP.of_awp mixed _ _ _ _ ?_
      simp [-appendOk, -appendK, -acells, -AV.solid, f6, f7, f8, f10, f14, f15, f16, hxf, hyf, hP3]
      refine append_new (lo := h.length + 1) (n := 8) (es := (inI I l i).map encPass) (ys := [encPass p]) (by simpa using hx2.more _) (by simp; omega) (by simp [appOk]) (by simp; omega) ?_
      intro s3 H3 hs3 hg3 hn3
      have hs3f := hs3.rs.fix
      have hB3 := hg3.base h (by omega) (base_more hB2 _)
      have hl3 := hg3.len
      simp at hl3
      have hy3 : Ls 2 (h.length + 1) H3 y ((outI I l i).map encExc) := (hy2.more _).grow hg3 fun b eb hbl off len e => hxy _ _ _ _ _ _ e eb rfl
      have happ : s3.core = s3 := hs3f.1
      simp [-appendOk, -appendK, -acells, -AV.solid, f6, f7, f8, f10, f14, f15, f16, hs3f, hyf, encIx, ew]
      exact ⟨by omega, i + 1, by omega, by omega, by omega, List.take_of_length_le (by simp), hB3, by omega, by rw [hs1]; simpa using hs3, by rw [hs2]; exact hy3, fun b off len b' off' len' e e' => by have q1 := hn3 _ _ _ e; have q2 := hyin _ _ _ e'; simp at q1; omega⟩
    · rw [if_neg c] at hrs hs1 hs2
      have hcell : (restI I i = [] ∨ ∃ j r, restI I i = j :: r ∧ j ≠ i) := by
        rcases hr : restI I i with _ | ⟨j, r⟩
        · exact .inl rfl
        · exact .inr ⟨j, r, rfl, fun e => c ((restI_head hI1).1 ⟨r, by rw [hr, e]⟩)⟩
      have fin : ∀ (K : AV → AHeap → Prop) (ts : List TypeId) (H0 : AHeap) (z : AV), appOk Try.prog H0 ts 2 z [encExc ⟨p.id, 9⟩] → Ls 2 (h.length + 1) H0 y ((outI I l i).map encExc) → Ls 8 (h.length + 1) H0 x ((inI I l i).map encPass) → (∃ g, H0 = h ++ g) → q0 + 1 ≤ H0.length →
          (∀ s3 H3, s3.core = s3 ∧ s3.gd = true ∧ s3.solid = true ∧ acells s3 = [s3] → (∃ g, H3 = h ++ g) → h.length + 1 ≤ H3.length → Ls 8 (h.length + 1) H3 x ((inI I l (i + 1)).map encPass) → Ls 2 (h.length + 1) H3 s3 ((outI I l (i + 1)).map encExc) → (∀ b off len b' off' len', x = .own b off len → s3 = .own b' off' len' → b ≠ b') → K s3 H3) →
          appendOk Try.prog H0 ts y z ∧ appendK 2 H0 y z K := by
        intro K ts H0 z hok0 hy0 hx0 hB0 hl0 hK
        refine append_new (lo := h.length + 1) (n := 2) (es := (outI I l i).map encExc) (ys := [encExc ⟨p.id, 9⟩]) hy0 (by omega) hok0 (by simp; omega) ?_
        intro s3 H3 hs3 hg3 hn3
        have hl3 := hg3.len
        refine hK s3 H3 hs3.rs.fix (hg3.base h (by omega) hB0) (by omega) ?_ (by rw [hs2]; simpa using hs3) fun b off len b' off' len' e e' => by have := hn3 _ _ _ e'; have := hxin _ _ _ e; omega
        rw [hs1]
        exact hx0.grow hg3 fun b eb hbl off len e => hxy _ _ _ _ _ _ eb e rfl
      rcases hcell with hr | ⟨j, r, hr, hji⟩
      · rw [hr] at e8 hrs
        simp [-appendOk, -appendK, -acells, -AV.solid, e6, e7, e8, e14, e15, e16, hlt, hil, hpp, hpp', hxf, hyf, encIx, ← hnn, ← hq0]
        refine fin _ _ _ _ ?_ (hy.more _) (hx.more _) (base_more hB _) (by simp [hq0]) ?_
        · simp [appOk, encExc, hq0]
        intro s3 H3 hs3f hB3 hl3 hx3 hy3 hxy3
        simp [-appendOk, -appendK, -acells, -AV.solid, e6, e7, e8, e14, e15, e16, hs3f, hxf, ew]
        exact ⟨i + 1, by omega, by omega, by omega, by first | (rw [← hrs]; done) | (rw [← hrs]; rfl), hB3, by omega, hx3, hy3, hxy3⟩
      · rw [hr] at e8 hrs
        have hij' : ¬ (i : Int) = j := by omega
        have hij'' : ¬ (j : Int) = i := by omega
        have hij3 : ¬ i = j := by omega
        simp [-appendOk, -appendK, -acells, -AV.solid, e6, e7, e8, e14, e15, e16, hlt, hil, hpp, hpp', hxf, hyf, encIx, ← hnn, ← hq0, hij', hij'', hij3, hji]
        refine fin _ _ _ _ ?_ (hy.more _) (hx.more _) (base_more hB _) (by simp [hq0]) ?_
        · simp [appOk, encExc, hq0]
        intro s3 H3 hs3f hB3 hl3 hx3 hy3 hxy3
        simp [-appendOk, -appendK, -acells, -AV.solid, e6, e7, e8, e14, e15, e16, hs3f, hxf, ew]
        exact ⟨i + 1, by omega, by omega, by omega, by first | (rw [← hrs]; done) | (rw [← hrs]; rfl), hB3, by omega, hx3, hy3, hxy3⟩
  · obtain rfl : n = i := by omega
    simp [e6, e7, e14, e15, e16, hxf, hyf]
    refine ⟨hB, .tup' (.cons (hx.frz (by omega) (pass_data fun p hp => (hok p (inI_mem hp)).1)) (.cons (hy.frz (by omega) (exc_data _)) .nil))⟩
set_option maxHeartbeats 8000000 in
theorem ref19_Split (t : Topo) (l : List TPass) (hok : ∀ p ∈ l, p.Ok ∧ p.sources.length ≤ 1000) (hn : l.length ≤ 1000000) (hp : t.net.pts.length ≤ 1000) (hl : t.net.lks.length ≤ 1000) (hs : t.sys.length ≤ 1000) : ACalls Try.prog gl 17 [.agg (encTopo t), .ro (l.map encPass)] h fun v h' => v = splitV (validT t).net l ∧ h' = h := by
  refine ACalls.fresh' (ACalls.body Try.f17 _ mixed Try.func17 rfl rfl (by simp [Try.ntmps17]) ?_)
  simp
  refine callS.pure _ (fun _ => ref19_Longest t l hn hp hl hs) ?_
  unfold splitV
  obtain ⟨hI1, hI2⟩ := lngL_asc (gL (validT t).net l) l.length
  generalize lngL (gL (validT t).net l) l.length = I at *
  obtain ⟨n, hnn⟩ : ∃ n, n = l.length := ⟨_, rfl⟩
  simp [← hnn]
  refine AWP.up mixed n (fun i fr H => fr 1 = .ro (l.map encPass) ∧ fr 6 = .ro (I.map encIx) ∧ fr 9 = .int .i64 i ∧ (∃ g, H = h ++ g) ∧ h.length + 1 ≤ H.length ∧ ∃ x y, fr 7 = x ∧ fr 8 = y ∧ Ls 8 (h.length + 1) H x ((inI I l i).map encPass) ∧ Ls 2 (h.length + 1) H y ((outI I l i).map encExc) ∧ ∀ b off len b' off' len', x = .own b off len → y = .own b' off' len' → b ≠ b') 0 (by omega)
    ⟨by simp, by simp, by simp, by simp, by simp, .nil, .nil, by simp, by simp, by simpa [inI] using Ls.nil, by simpa [outI] using Ls.nil, by simp⟩ ?_
  rintro i fr H hi ⟨e1, e6, e9, hB, hHl, x, y, e7, e8, hx, hy, hxy⟩
  have hxf := hx.rs.fix
  have hyf := hy.rs.fix
  have hxin := hx.inside
  have hyin := hy.inside
  have hlen := base_len hB
  have hil1 := inI_len I l i
  have hil2 := outI_len I l i
  rcases Nat.lt_or_ge i n with hlt | hge
  · obtain ⟨p, hpp, hpp'⟩ := get_lt (l := l) (i := i) (by omega)
    have hil : i < l.length := by omega
    have ew := wrap_succ' (i := i) (by omega)
    obtain ⟨hpo, hps⟩ := hok p (List.mem_of_getElem? hpp)
    have hrs := restI_succ (i := i) hI1
    have hs1 := inI_succ (I := I) hpp
    have hs2 := outI_succ (I := I) hpp
    have hat := chain_at hI1 hI2 (i := i) (by omega)
    by_cases c : i ∈ I
    · rw [if_pos c] at hrs hs1 hs2
      rw [hrs, List.getElem?_cons_zero] at hat
      have hkl := (List.getElem?_eq_some_iff.1 hat).1
      have hat' := (List.getElem?_eq_some_iff.1 hat).2
      simp [-appendOk, -appendK, -acells, -AV.solid, e1, e6, e7, e8, e9, hlt, hil, hpp, hpp', hxf, hyf, encIx, ← hnn, hx.rs.len2, hkl, hat, hat']
      refine callS.pure _ (fun _ => ref19_copied p hpo hps) ?_
      simp [-appendOk, -appendK, -acells, -AV.solid, e1, e6, e7, e8, e9, hxf, hyf]
      refine append_new (lo := h.length + 1) (n := 8) (es := (inI I l i).map encPass) (ys := [encPass p]) (by simpa using hx.more _) (by simp; omega) (by simp [appOk]) (by simp; omega) ?_
      intro s3 H3 hs3 hg3 hn3
      have hs3f := hs3.rs.fix
      have hB3 := hg3.base h (by omega) (base_more hB _)
      have hl3 := hg3.len
      simp at hl3
      have hy3 : Ls 2 (h.length + 1) H3 y ((outI I l i).map encExc) := (hy.more _).grow hg3 fun b eb hbl off len e => hxy _ _ _ _ _ _ e eb rfl
      simp [-appendOk, -appendK, -acells, -AV.solid, e1, e6, e7, e8, e9, hs3f, hyf, ew]
      exact ⟨i + 1, by omega, by omega, by omega, hB3, by omega, by rw [hs1]; simpa using hs3, by rw [hs2]; exact hy3, fun b off len b' off' len' e e' => by have q1 := hn3 _ _ _ e; have q2 := hyin _ _ _ e'; simp at q1; omega⟩
    · rw [if_neg c] at hrs hs1 hs2
      have fin : ∀ (K : AV → AHeap → Prop) (ts : List TypeId) (H0 : AHeap) (z : AV), appOk Try.prog H0 ts 2 z [encExc ⟨p.id, 9⟩] → Ls 2 (h.length + 1) H0 y ((outI I l i).map encExc) → Ls 8 (h.length + 1) H0 x ((inI I l i).map encPass) → (∃ g, H0 = h ++ g) → H.length ≤ H0.length →
          (∀ s3 H3, s3.core = s3 ∧ s3.gd = true ∧ s3.solid = true ∧ acells s3 = [s3] → (∃ g, H3 = h ++ g) → h.length + 1 ≤ H3.length → Ls 8 (h.length + 1) H3 x ((inI I l (i + 1)).map encPass) → Ls 2 (h.length + 1) H3 s3 ((outI I l (i + 1)).map encExc) → (∀ b off len b' off' len', x = .own b off len → s3 = .own b' off' len' → b ≠ b') → K s3 H3) →
          appendOk Try.prog H0 ts y z ∧ appendK 2 H0 y z K := by
        intro K ts H0 z hok0 hy0 hx0 hB0 hl0 hK
        refine append_new (lo := h.length + 1) (n := 2) (es := (outI I l i).map encExc) (ys := [encExc ⟨p.id, 9⟩]) hy0 (by omega) hok0 (by simp; omega) ?_
        intro s3 H3 hs3 hg3 hn3
        have hl3 := hg3.len
        refine hK s3 H3 hs3.rs.fix (hg3.base h (by omega) hB0) (by omega) ?_ (by rw [hs2]; simpa using hs3) fun b off len b' off' len' e e' => by have := hn3 _ _ _ e'; have := hxin _ _ _ e; omega
        rw [hs1]
        exact hx0.grow hg3 fun b eb hbl off len e => hxy _ _ _ _ _ _ eb e rfl
      rcases hr : restI I i with _ | ⟨j, r⟩
      · rw [hr] at hat
        have hkl : ¬ (inI I l i).length < I.length := fun q => by rw [List.getElem?_eq_getElem q] at hat; simp at hat
        simp [-appendOk, -appendK, -acells, -AV.solid, e1, e6, e7, e8, e9, hlt, hil, hpp, hpp', hxf, hyf, encIx, ← hnn, hx.rs.len2, hkl]
        refine fin _ _ _ _ ?_ (hy.more _) (hx.more _) (base_more hB _) (by simp) ?_
        · simp [appOk, encExc]
        intro s3 H3 hs3f hB3 hl3 hx3 hy3 hxy3
        simp [-appendOk, -appendK, -acells, -AV.solid, e1, e6, e7, e8, e9, hs3f, hxf, ew]
        exact ⟨i + 1, by omega, by omega, by omega, hB3, by omega, hx3, hy3, hxy3⟩
      · have hji : j ≠ i := fun e => c ((restI_head hI1).1 ⟨r, by rw [hr, e]⟩)
        have hij' : ¬ (i : Int) = j := by omega
        have hij'' : ¬ (j : Int) = i := by omega
        have hij3 : ¬ i = j := by omega
        rw [hr, List.getElem?_cons_zero] at hat
        have hkl := (List.getElem?_eq_some_iff.1 hat).1
        have hat' := (List.getElem?_eq_some_iff.1 hat).2
        simp [-appendOk, -appendK, -acells, -AV.solid, e1, e6, e7, e8, e9, hlt, hil, hpp, hpp', hxf, hyf, encIx, ← hnn, hx.rs.len2, hkl, hat, hat', hij', hij'', hij3, hji]
        refine fin _ _ _ _ ?_ (hy.more _) (hx.more _) (base_more hB _) (by simp) ?_
        · simp [appOk, encExc]
        intro s3 H3 hs3f hB3 hl3 hx3 hy3 hxy3
        simp [-appendOk, -appendK, -acells, -AV.solid, e1, e6, e7, e8, e9, hs3f, hxf, ew]
        exact ⟨i + 1, by omega, by omega, by omega, hB3, by omega, hx3, hy3, hxy3⟩
  · obtain rfl : n = i := by omega
    simp [e1, e6, e7, e8, e9, hxf, hyf, ← hnn]
    refine ⟨hB, .tup' (.cons (hx.frz (by omega) (pass_data fun p hp => (hok p (inI_mem hp)).1)) (.cons (hy.frz (by omega) (exc_data _)) .nil))⟩
end Go.Proofs.Ytjdchnbjegddhaa
