/-
  Contracts: the reference's search for all simple paths.
-/
import Derived.Test.YtdmfdgkicbhdoaaGrF
import Derived.Test.YtdmfdgkicbhdoaaTollGraph
set_option linter.unusedVariables false
set_option linter.unusedSimpArgs false
set_option maxRecDepth 100000
namespace Go.Proofs.Ytdmfdgkicbhdoaa
open Go Go.Abs Go.Toll
variable {gl : Globs} {h : AHeap}

theorem lastT_at {p : List Bytes} {m : Nat} (hm : p.length = m + 1) : p[m]? = some (lastT p) := by
  have hp : p ≠ [] := by intro e; rw [e] at hm; cases hm
  rw [lastT, List.getLast?_eq_getElem?, hm, Nat.add_sub_cancel]
  cases e : p[m]? with
  | none => rw [List.getElem?_eq_none_iff] at e; omega
  | some a => rfl
/-- The heap in a round: the network, what was seen, what is new, the front. -/
structure CplH (h H : AHeap) (v : Net) (x : AV) (S : List Bytes) (y : AV) (M : List Bytes) (z : AV) (F : List Bytes) : Prop where
  net : H[h.length]? = some (.cells 2 [encNet v])
  seen : Ls 1 (h.length + 1) H x (S.map encT)
  more' : Ls 1 (h.length + 1) H y (M.map encT)
  front : Rs 1 H z (F.map encT)
  axy : ∀ b off len off' len', x = .own b off len → y ≠ .own b off' len'
  axz : ∀ b off len off' len', x = .own b off len → z ≠ .own b off' len'
  ayz : ∀ b off len off' len', y = .own b off len → z ≠ .own b off' len'
  base : ∃ g, H = h ++ g
section
variable {H H' : AHeap} {v : Net} {x y z x' y' : AV} {S S' M M' F : List Bytes}
theorem CplH.all (c : CplH h H v x S y M z F) : H[h.length]? = some (.cells 2 [encNet v]) ∧ h.length < H.length ∧ ∀ hl : h.length < H.length, H[h.length] = .cells 2 [encNet v] :=
  ⟨c.net, (List.getElem?_eq_some_iff.1 c.net).1, fun _ => (List.getElem?_eq_some_iff.1 c.net).2⟩
theorem CplH.app (c : CplH h H v x S y M z F) (g : AHeap) : CplH h (H ++ g) v x S y M z F :=
  ⟨by rw [List.getElem?_append_left c.all.2.1]; exact c.net, c.seen.more g, c.more'.more g, c.front.append g, c.axy, c.axz, c.ayz, base_more c.base g⟩
theorem CplH.growS (c : CplH h H v x S y M z F) {lo : Nat} (g : Grow lo H x H') (hlo : h.length ≤ lo) (q : Ls 1 (h.length + 1) H' x' (S'.map encT)) (hn : ∀ b off len, x' = .own b off len → H.length ≤ b) : CplH h H' v x' S' y M z F := by
  refine ⟨g.keep _ _ c.net fun off len e => by have := c.seen.above _ _ _ e; omega, q, c.more'.grow g fun b e _ off len e' => c.axy _ _ _ _ _ e' e, c.front.keep g fun b off len e off' len' e' => c.axz _ _ _ _ _ e' e, fun b off len off' len' e e' => ?_, fun b off len off' len' e e' => ?_, c.ayz, g.base h hlo c.base⟩
  · have h1 := hn _ _ _ e
    have h2 := c.more'.rs.lt e'
    omega
  · have h1 := hn _ _ _ e
    have h2 := c.front.lt e'
    omega
theorem CplH.growM (c : CplH h H v x S y M z F) {lo : Nat} (g : Grow lo H y H') (hlo : h.length ≤ lo) (q : Ls 1 (h.length + 1) H' y' (M'.map encT)) (hn : ∀ b off len, y' = .own b off len → H.length ≤ b) : CplH h H' v x S y' M' z F := by
  refine ⟨g.keep _ _ c.net fun off len e => by have := c.more'.above _ _ _ e; omega, c.seen.grow g fun b e _ off len e' => c.axy _ _ _ _ _ e e', q, c.front.keep g fun b off len e off' len' e' => c.ayz _ _ _ _ _ e' e, fun b off len off' len' e e' => ?_, c.axz, fun b off len off' len' e e' => ?_, g.base h hlo c.base⟩
  · have h1 := hn _ _ _ e'
    have h2 := c.seen.rs.lt e
    omega
  · have h1 := hn _ _ _ e
    have h2 := c.front.lt e'
    omega
theorem CplH.next (c : CplH h H v x S y M z F) : CplH h H v x S .nil [] y M :=
  ⟨c.net, c.seen, .nil, c.more'.rs, fun b off len off' len' e e' => (by cases e'), c.axy, fun b off len off' len' e => (by cases e), c.base⟩
end
set_option maxHeartbeats 8000000 in
theorem ref07_completes (v : Net) (p : List Bytes) (t : Bytes) (x : AV) (ok : NetOk v) (hp : p ≠ []) (hpl : p.length ≤ 17) (hx : Rs 1 h x (p.map encT)) :
    ACalls Try.prog gl 76 [.agg (encNet v), x, .str t] h fun r h' => r = .bool (complB v p t) ∧ h' = h := by
  refine ACalls.data (.bool _) (ACalls.body Try.f76 _ mixed Try.func76 rfl rfl (by simp [Try.ntmps76]) ?_)
  have hxf := hx.fix
  obtain ⟨m, hm⟩ : ∃ m, p.length = m + 1 := ⟨p.length - 1, by have := List.length_pos_iff.2 hp; omega⟩
  have hlast := lastT_at hm
  have hxh := hx.append [.cells 2 [encNet v]]
  simp [-appendOk, -appendK, -acells, -AV.solid, hxf]
  refine append_new (lo := h.length + 1) (n := 1) (es := []) (ys := p.map encT) Ls.nil (by simp) (appOk_rs (by simpa using hxh) (by simp) (by simp) (by simp)) (by simp; omega) ?_
  intro s1 H1 hs1 hg1 hn1
  rw [List.nil_append] at hs1
  have hs1f := hs1.rs.fix
  have hx1 := hxh.keep (by simpa using hg1) (fun b off len e off' len' e' => by cases e')
  have hN1 : H1[h.length]? = some (.cells 2 [encNet v]) := hg1.keep _ _ (by simp) (by simp)
  have hB1 := hg1.base h (by omega) ⟨_, rfl⟩
  have hl1 := hg1.len
  have hlen := hx1.len2
  have hix := Rs.ix Try.prog hx1 (m : Int) (by omega) (y := [.str (lastT p)]) (by simp [hlast, encT])
  have ewl : IntKind.i64.wrap ((p.length : Int) - 1) = (m : Int) := by rw [wrap64_of (by omega) (by omega)]; omega
  have hlen2 := (hx1.append [.cells 1 [[.str (lastT p)]]]).len2
  rw [List.length_map] at hlen hlen2
  simp [-appendOk, -appendK, -acells, -AV.solid, hxf, hs1f, hlen, hlen2, hix, ewl]
  refine AWP.up mixed 17 (fun k fr H => fr 2 = .str t ∧ fr 3 = .ptr h.length 0 0 ∧ fr 9 = .int .i64 k ∧ ∃ x S z F, fr 7 = x ∧ fr 8 = z ∧ CplH h H v x S .nil [] z F ∧ Cp v p S [] ∧ F.length ≤ 64 ∧ complB v p t = cplB v t (17 - k) S F) p.length (by omega)
    ⟨by simp, by simp, by simp, s1, p, .own H1.length 0 1, [lastT p], by simp, by simp, ?_, Cp.zero v p, by simp, rfl⟩ ?_
  · refine ⟨by rw [List.getElem?_append_left (lt_of_get hN1)]; exact hN1, hs1.more _, .nil, Rs.own (n := 1) (es := [encT (lastT p)]) (by simp [encT]) (by simp [encT]), fun b off len off' len' e e' => (by cases e'), fun b off len off' len' e e' => ?_, fun b off len off' len' e => (by cases e), base_more hB1 _⟩
    have := hs1.rs.lt e
    injection e' with e1
    omega
  clear hs1 hs1f hx1 hN1 hB1 hl1 hlen hix hg1 hn1
  rintro k fr H hk ⟨e2, e3, e9, x1, S, z, F, e7, e8, hC, hCp, hFl, hcb⟩
  have hx1f := hC.seen.rs.fix
  have hzf := hC.front.fix
  rcases Nat.lt_or_ge k 17 with hlt | hge
  · have hk16 : (k : Int) ≤ 16 := by omega
    obtain ⟨n, hn⟩ : ∃ n, 17 - k = n + 1 := ⟨16 - k, by omega⟩
    have hn' : 17 - (k + 1) = n := by omega
    have ewk := wrap_succ' (i := k) (by omega)
    rw [hn] at hcb
    simp [-appendOk, -appendK, -acells, -AV.solid, e2, e3, e7, e8, e9, hk16, hx1f, hzf]
    refine callS.pure _ (fun _ => ref07_HasText F t z hC.front (by omega)) ?_
    by_cases hit : t ∈ F
    · rw [cplB_hit hit] at hcb
      simp [-appendOk, -appendK, -acells, -AV.solid, e2, e3, e7, e8, e9, hk16, hx1f, hzf, hit, hcb]
      exact hC.base
    · rw [cplB_miss hit] at hcb
      simp [-appendOk, -appendK, -acells, -AV.solid, e2, e3, e7, e8, e9, hk16, hx1f, hzf, hit]
      refine AWP.up mixed F.length (fun i fr H => fr 2 = .str t ∧ fr 3 = .ptr h.length 0 0 ∧ fr 9 = .int .i64 k ∧ fr 8 = z ∧ fr 11 = .int .i64 i ∧ ∃ x S' y M', fr 7 = x ∧ fr 10 = y ∧ CplH h H v x S' y M' z F ∧ Cp v p S' M' ∧ levI v S F i = (S', M')) 0 (by omega)
        ⟨by simp [e2], by simp [e3], by simp [e9], by simp [e8], by simp, x1, S, .nil, [], by simp [e7], by simp, hC, hCp, rfl⟩ ?_
      clear e2 e3 e7 e8 e9 hC hCp hx1f hzf
      rintro i fr H hi ⟨e2, e3, e9, e8, e11, x2, S2, y2, M2, e7, e10, hC, hCp, hlev⟩
      have hx2f := hC.seen.rs.fix
      have hy2f := hC.more'.rs.fix
      have hzf := hC.front.fix
      have hzl := hC.front.len2
      rw [List.length_map] at hzl
      rcases Nat.lt_or_ge i F.length with hlti | hgei
      · obtain ⟨d, hd, hd'⟩ := get_lt hlti
        have ewi := wrap_succ' (i := i) (by omega)
        have hzix := Rs.ix Try.prog hC.front (i : Int) (by omega) (y := [.str d]) (by simp [hd, encT])
        simp [-appendOk, -appendK, -acells, -AV.solid, e2, e3, e7, e8, e9, e10, e11, hlti, hx2f, hy2f, hzf, hzl, hzix, hC.all]
        refine ⟨by decide, ?_⟩
        refine callS.pure _ (fun _ => ref07_next v d ok) ?_
        have hXl : (nextL v d).length ≤ 128 := by
          have := lksOf_len v d
          have := ok.llen
          rw [nextL, List.length_map]; omega
        simp [-appendOk, -appendK, -acells, -AV.solid, e2, e3, e7, e8, e9, e10, e11, hlti, hx2f, hy2f, hzf, hzl]
        refine AWP.up mixed (nextL v d).length (fun j fr H => (fr 2 = .str t ∧ fr 3 = .ptr h.length 0 0 ∧ fr 9 = .int .i64 k ∧ fr 8 = z ∧ fr 11 = .int .i64 i) ∧ fr 12 = .ro ((nextL v d).map encT) ∧ fr 13 = .int .i64 j ∧ ∃ x S' y M', fr 7 = x ∧ fr 10 = y ∧ CplH h H v x S' y M' z F ∧ Cp v p S' M' ∧ levJ v S F i d j = (S', M')) 0 (by omega)
          ⟨by simp [e2, e3, e9, e8, e11], by simp, by simp, x2, S2, y2, M2, by simp [e7], by simp [e10], hC, hCp, by rw [levJ_zero]; exact hlev⟩ ?_
        clear e2 e3 e7 e8 e9 e10 e11 hC hCp hx2f hy2f hzf hzl hzix hlev
        rintro j fr H hj ⟨⟨e2, e3, e9, e8, e11⟩, e12, e13, x3, S3, y3, M3, e7, e10, hC, hCp, hlev⟩
        have hx3f := hC.seen.rs.fix
        have hy3f := hC.more'.rs.fix
        have hCl := hCp.len ok
        rcases Nat.lt_or_ge j (nextL v d).length with hltj | hgej
        · obtain ⟨w, hw, hw'⟩ := get_lt hltj
          have ewj := wrap_succ' (i := j) (by omega)
          have hsuc := levJ_succ (S := S) (F := F) (i := i) hw
          rw [hlev] at hsuc
          have hwp := lev_pt ok (List.mem_of_getElem? hw)
          simp [-appendOk, -appendK, -acells, -AV.solid, e2, e3, e7, e8, e9, e10, e11, e12, e13, hltj, hw, hw', hx3f, hy3f, encT]
          refine callS.pure _ (fun _ => ref07_HasText S3 w x3 hC.seen.rs (by omega)) ?_
          by_cases hin : w ∈ S3
          · rw [cplAdd_in hin] at hsuc
            simp [-appendOk, -appendK, -acells, -AV.solid, e2, e3, e7, e8, e9, e10, e11, e12, e13, hltj, hw, hw', hx3f, hy3f, encT, hin, ewj]
            exact ⟨j + 1, by omega, by omega, by omega, S3, M3, hC, hCp, hsuc⟩
          · rw [cplAdd_new hin] at hsuc
            simp [-appendOk, -appendK, -acells, -AV.solid, e2, e3, e7, e8, e9, e10, e11, e12, e13, hltj, hw, hw', hx3f, hy3f, encT, hin, ewj]
            have hC1 := hC.app [.cells 1 [encT w]]
            refine append_new (lo := h.length + 1) (n := 1) (es := S3.map encT) (ys := [encT w]) (by simpa [encT] using hC1.seen) (by have := hC.all.2.1; simp; omega) (by simp [appOk, encT]) (by simp; omega) ?_
            intro x4 H4 hx4 hg4 hn4
            have hx4f := hx4.rs.fix
            have hl4 := hg4.len
            have hC4 := hC1.growS (x' := x4) (S' := S3 ++ [w]) (by simpa [encT] using hg4) (by omega) (by simpa using hx4) (by simpa [encT] using hn4)
            simp [-appendOk, -appendK, -acells, -AV.solid, e2, e3, e7, e8, e9, e10, e11, e12, e13, hltj, hw, hw', hx4f, hy3f, encT, hin, ewj]
            have hC5 := hC4.app [.cells 1 [encT w]]
            refine append_new (lo := h.length + 1) (n := 1) (es := M3.map encT) (ys := [encT w]) (by simpa [encT] using hC5.more') (by have := hC4.all.2.1; simp; omega) (by simp [appOk, encT]) (by simp; omega) ?_
            intro y6 H6 hy6 hg6 hn6
            have hy6f := hy6.rs.fix
            have hC6 := hC5.growM (y' := y6) (M' := M3 ++ [w]) (by simpa [encT] using hg6) (by omega) (by simpa using hy6) (by simpa [encT] using hn6)
            simp [-appendOk, -appendK, -acells, -AV.solid, e2, e3, e7, e8, e9, e10, e11, e12, e13, hltj, hw, hw', hx4f, hy6f, encT, hin, ewj]
            exact ⟨j + 1, by omega, by omega, by omega, S3 ++ [w], M3 ++ [w], hC6, hCp.add hin hwp, hsuc⟩
        · obtain rfl : j = (nextL v d).length := by omega
          rw [levJ_all hd] at hlev
          simp [-appendOk, -appendK, -acells, -AV.solid, e2, e3, e7, e8, e9, e10, e11, e12, e13, ewi]
          exact ⟨i + 1, by omega, by omega, by omega, S3, M3, hC, hCp, hlev⟩
      · obtain rfl : i = F.length := by omega
        have hCl := hCp.len ok
        rw [hlev] at hcb
        simp [-appendOk, -appendK, -acells, -AV.solid, e2, e3, e7, e8, e9, e10, e11, hx2f, hy2f, hzf, hzl, ewk]
        exact ⟨k + 1, by omega, by omega, by omega, S2, M2, hC.next, hCp.new, by omega, by rw [hn']; exact hcb⟩
  · obtain rfl : k = 17 := by omega
    have hcb : complB v p t = false := hcb
    simp [-appendOk, -appendK, -acells, -AV.solid, e2, e3, e7, e8, e9, hcb]
    exact hC.base
/-- The heap while paths are collected by the reference. -/
structure ExtH (h H : AHeap) (lo : Nat) (v : Net) (x0 x : AV) (f : List (List Bytes)) : Prop where
  net : H[h.length]? = some (.cells 2 [encNet v])
  out : Ls 1 lo H x (f.map encPa)
  keep : ∀ (b : Nat) (o : AObj), h[b]? = some o → (∀ off len, x0 ≠ .own b off len) → H[b]? = some o
  new : ∀ b off len, x = .own b off len → (∃ off' len', x0 = .own b off' len') ∨ h.length < b
section
variable {H H' : AHeap} {lo : Nat} {v : Net} {x0 x r : AV} {f f' : List (List Bytes)}
theorem ExtH.all (c : ExtH h H lo v x0 x f) : H[h.length]? = some (.cells 2 [encNet v]) ∧ h.length < H.length ∧ ∀ hl : h.length < H.length, H[h.length] = .cells 2 [encNet v] :=
  ⟨c.net, (List.getElem?_eq_some_iff.1 c.net).1, fun _ => (List.getElem?_eq_some_iff.1 c.net).2⟩
theorem ExtH.step (c : ExtH h H lo v x0 x f) (hk : ∀ (b : Nat) (o : AObj), H[b]? = some o → H'[b]? = some o) : ExtH h H' lo v x0 x f :=
  ⟨hk _ _ c.net, c.out.keep' fun b len o _ ho => hk b o ho, fun b o ho hn => hk b o (c.keep b o ho hn), c.new⟩
theorem ExtH.call (c : ExtH h H lo v x0 x f) (hl0 : ∀ b off len, x0 = .own b off len → b < h.length) (ho : Ls 1 lo H' r (f'.map encPa)) (hk : ∀ (b : Nat) (o : AObj), H[b]? = some o → (∀ off len, x ≠ .own b off len) → H'[b]? = some o)
    (hn : ∀ b off len, r = .own b off len → (∃ off' len', x = .own b off' len') ∨ H.length ≤ b) : ExtH h H' lo v x0 r f' := by
  refine ⟨hk _ _ c.net fun off len e => ?_, ho, fun b o hb hne => hk b o (c.keep b o hb hne) fun off len e => ?_, fun b off len e => ?_⟩
  · rcases c.new _ _ _ e with ⟨_, _, e1⟩ | h1
    · have := hl0 _ _ _ e1; omega
    · omega
  · rcases c.new _ _ _ e with ⟨_, _, e1⟩ | h1
    · exact hne _ _ e1
    · have := lt_of_get hb; omega
  · rcases hn _ _ _ e with ⟨_, _, e1⟩ | h1
    · exact c.new _ _ _ e1
    · have := c.all.2.1
      exact .inr (by omega)
end
def ClaimX (gl : Globs) (v : Net) (t : Bytes) (n : Nat) : Prop :=
  ∀ (h : AHeap) (lo : Nat) (p : List Bytes) (f : List (List Bytes)) (x : AV), Ls 1 lo h x (f.map encPa) → lo ≤ h.length → p ≠ [] → p.length + n = 16 → f.length ≤ 1024 →
    ACalls Try.prog gl 67 [.agg (encNet v), .ro (p.map encT), .str t, x] h fun r H' => Ls 1 lo H' r ((extM v t n p f).map encPa) ∧ (∀ b o, h[b]? = some o → (∀ off len, x ≠ .own b off len) → H'[b]? = some o) ∧ (∀ b off len, r = .own b off len → (∃ off' len', x = .own b off' len') ∨ h.length ≤ b)
set_option maxHeartbeats 8000000 in
theorem ext_step (v : Net) (t : Bytes) (ok : NetOk v) (n : Nat) (ih : ∀ n', n' + 1 = n → ClaimX gl v t n') : ClaimX gl v t n := by
  intro h lo p f x hx hlo hp hpn hfl
  have hxf := hx.rs.fix
  obtain ⟨m, hm⟩ : ∃ m, p.length = m + 1 := ⟨p.length - 1, by have := List.length_pos_iff.2 hp; omega⟩
  have hlast := lastT_at hm
  have hlast' := (List.getElem?_eq_some_iff.1 hlast).2
  have hml : m < p.length := by omega
  have ewl : IntKind.i64.wrap ((p.length : Int) - 1) = (m : Int) := by rw [wrap64_of (by omega) (by omega)]; omega
  refine ACalls.body Try.f67 _ mixed Try.func67 rfl rfl (by simp [Try.ntmps67]) ?_
  by_cases hst : lastT p = t
  · have hleaf := extM_leaf (v := v) (n := n) (f := f) hst
    simp [-appendOk, -appendK, -acells, -AV.solid, hxf, ewl, hml, hlast, hlast', encT, hst]
    refine append_new (lo := lo) (n := 1) (es := f.map encPa) (ys := [encPa p]) (by simpa [encPa, encT] using hx.more [.cells 2 [encNet v], .cells 1 [encPa p]]) (by simp; omega) (by simp [appOk, encPa]) (by simp; omega) ?_
    intro s1 H1 hs1 hg1 hn1
    have hs1f := hs1.rs.fix
    simp [-appendOk, -appendK, -acells, -AV.solid, hs1f]
    rw [hleaf]
    refine ⟨by simpa using hs1, fun b o hb hne => hg1.keep b o (by rw [List.getElem?_append_left (lt_of_get hb)]; exact hb) hne, fun b off len e => ?_⟩
    have := hn1 _ _ _ e
    simp at this
    exact .inr (by omega)
  · have hall := extF_all (v := v) (t := t) (n := n) (path := p) (f := f) hst
    simp [-appendOk, -appendK, -acells, -AV.solid, hxf, ewl, hml, hlast, hlast', encT, hst]
    refine ⟨by decide, ?_⟩
    refine callS.pure _ (fun _ => ref07_next v (lastT p) ok) ?_
    have hXl : (nextL v (lastT p)).length ≤ 128 := by
      have := lksOf_len v (lastT p)
      have := ok.llen
      rw [nextL, List.length_map]; omega
    have hl0 : ∀ b off len, x = .own b off len → b < h.length := fun b off len e => hx.rs.lt e
    have hH0 : ExtH h (h ++ [.cells 2 [encNet v]]) lo v x x f := ⟨by simp, hx.more _, fun b o hb _ => by rw [List.getElem?_append_left (lt_of_get hb)]; exact hb, fun b off len e => .inl ⟨_, _, e⟩⟩
    simp [-appendOk, -appendK, -acells, -AV.solid, hxf]
    refine AWP.up mixed (nextL v (lastT p)).length (fun k fr H => (fr 1 = .ro (p.map encT) ∧ fr 2 = .str t ∧ fr 4 = .ptr h.length 0 0) ∧ fr 9 = .ro ((nextL v (lastT p)).map encT) ∧ fr 10 = .int .i64 k ∧ ∃ y, fr 3 = y ∧ ExtH h H lo v x y (extF v t n p f k)) 0 (by omega)
      ⟨by simp [encT], by simp, by simp, x, by simp, by rw [extF_zero]; simpa using hH0⟩ ?_
    clear hH0
    rintro k fr H hk ⟨⟨e1, e2, e4⟩, e9, e10, y, e3, hE⟩
    have hyf := hE.out.rs.fix
    have hyl := hE.out.rs.len2
    rw [List.length_map] at hyl
    have hfle := extF_le v t n p f (by omega) k
    rcases Nat.lt_or_ge k (nextL v (lastT p)).length with hlt | hge
    · obtain ⟨w, hw, hw'⟩ := get_lt hlt
      have ew := wrap_succ' (i := k) (by omega)
      by_cases hlim : (extF v t n p f k).length ≤ 1024
      · have hlim' : ((extF v t n p f k).length : Int) ≤ 1024 := by omega
        have hsuc := extF_succ (t := t) (n := n) (f := f) hw
        simp [-appendOk, -appendK, -acells, -AV.solid, e1, e2, e3, e4, e9, e10, hlt, hw, hw', hyf, hyl, hlim, hlim', encT]
        refine callS.pure _ (fun _ => ref07_HasText p w _ (.ro (texts_n _)) (by omega)) ?_
        by_cases hin : w ∈ p
        · simp [-appendOk, -appendK, -acells, -AV.solid, e1, e2, e3, e4, e9, e10, hlt, hw, hw', hyf, hyl, hlim, hlim', encT, hin, ew]
          exact ⟨k + 1, by omega, by omega, by omega, by rw [hsuc, extS_neg (by rintro ⟨_, c, _⟩; exact c hin)]; exact hE⟩
        · simp [-appendOk, -appendK, -acells, -AV.solid, e1, e2, e3, e4, e9, e10, hlt, hw, hw', hyf, hyl, hlim, hlim', encT, hin, ew]
          obtain ⟨hEn, hEl, hEn'⟩ := hE.all
          refine append_new (lo := H.length) (n := 1) (es := []) (ys := p.map encT) Ls.nil (by simp) (appOk_rs (.ro (texts_n p)) (by simp) (by simp) (by simp)) (by simp; omega) ?_
          intro s1 H1 hs1 hg1 hn1
          rw [List.nil_append] at hs1
          have hs1f := hs1.rs.fix
          have hE1 := hE.step (H' := H1) (fun b o hb => hg1.keep b o hb (by simp))
          have hy1f := hE1.out.rs.fix
          have hy1l := hE1.out.rs.len2
          have hl1 := hg1.len
          simp [-appendOk, -appendK, -acells, -AV.solid, e1, e2, e3, e4, e9, e10, hlt, hw, hw', hyf, hs1f, encT, ew]
          refine append_new (lo := H.length) (n := 1) (es := p.map encT) (ys := [encT w]) (by simpa [encT] using hs1.more [.cells 1 [encT w]]) (by simp; omega) (by simp [appOk, encT]) (by simp; omega) ?_
          intro s2 H2 hs2 hg2 hn2
          have hs2f := hs2.rs.fix
          have hE2 := (hE1.step (H' := H1 ++ [.cells 1 [encT w]]) (fun b o hb => by rw [List.getElem?_append_left (lt_of_get hb)]; exact hb))
          have hE3 : ExtH h H2 lo v x y (extF v t n p f k) := by
            refine ⟨hg2.keep _ _ (by simpa [encT] using hE2.net) fun off len e => ?_, hE1.out.keep' (fun b len o e hb => hg2.keep b o (by rw [List.getElem?_append_left (lt_of_get hb)]; exact hb) fun off' len' e' => ?_), fun b o hb hne => hg2.keep b o (by rw [List.getElem?_append_left (lt_of_get (hE1.keep b o hb hne))]; exact hE1.keep b o hb hne) fun off len e => ?_, hE.new⟩
            · have := hs1.above _ _ _ e; omega
            · have h1 := hs1.above _ _ _ e'
              have h2 := hE.out.rs.lt e
              omega
            · have h1 := hs1.above _ _ _ e
              have h2 := lt_of_get hb
              omega
          obtain ⟨hEn3, hEl3, hEn3'⟩ := hE3.all
          have hy3f := hE3.out.rs.fix
          simp [-appendOk, -appendK, -acells, -AV.solid, e1, e2, e3, e4, e9, e10, hlt, hw, hw', hy3f, hs2f, encT, ew, hEn3, hEl3, hEn3']
          rw [show p.map encT ++ [encT w] = (p ++ [w]).map encT by simp] at hs2
          refine callS.pure _ (fun _ => ref07_completes v (p ++ [w]) t s2 ok (by simp) (by simp; omega) hs2.rs) ?_
          by_cases hcb : complB v (p ++ [w]) t = true
          · obtain ⟨n', rfl⟩ : ∃ n', n = n' + 1 := by
              cases n with
              | succ n' => exact ⟨n', rfl⟩
              | zero =>
                obtain ⟨j, _, hj⟩ := (complB_iff ok t (by simp)).1 hcb
                rw [List.length_append, List.length_singleton] at hj
                omega
            rw [extS_pos ⟨hlim, hin, hcb⟩] at hsuc
            simp [-appendOk, -appendK, -acells, -AV.solid, e1, e2, e3, e4, e9, e10, hlt, hw, hw', hy3f, hs2f, encT, ew, hEn3, hEl3, hEn3', hcb]
            obtain ⟨ks, hks, hfr⟩ := hs2.lend
            have hkb : ∀ b ∈ ks, H.length ≤ b := fun b hb => (hks b hb).1
            have hout : Ls 1 lo (killL H2 ks) y ((extF v t (n' + 1) p f k).map encPa) := hE3.out.keep' fun b len o e hb => by
              have h2 := hE.out.rs.lt e
              rw [killL_keep ks H2 b (fun hc => by have := hkb b hc; omega)]; exact hb
            refine callS.any (ACalls.lend ks (.cons (.same _) (.cons hfr (.cons (.same _) (.cons (.same _) .nil)))) (ih n' rfl (killL H2 ks) lo (p ++ [w]) _ y hout (by rw [killL_len]; omega) (by simp) (by simp; omega) hlim)) ?_
            rintro r H4 ⟨hr1, hr2, hr3⟩
            have hE4 : ExtH h H4 lo v x r (extM v t n' (p ++ [w]) (extF v t (n' + 1) p f k)) := by
              have hE5 : ExtH h (killL H2 ks) lo v x y (extF v t (n' + 1) p f k) := by
                refine ⟨by rw [killL_keep ks H2 _ (fun hc => by have := hkb _ hc; omega)]; exact hE3.net, hout, fun b o hb hne => by rw [killL_keep ks H2 b (fun hc => by have h1 := hkb b hc; have h2 := lt_of_get hb; omega)]; exact hE3.keep b o hb hne, hE.new⟩
              exact hE5.call hl0 hr1 hr2 hr3
            simp [-appendOk, -appendK, -acells, -AV.solid, e1, e2, e4, e9, e10, hr1.rs.fix, ew]
            exact ⟨k + 1, by omega, by omega, by omega, by rw [hsuc]; exact hE4⟩
          · rw [Bool.not_eq_true] at hcb
            simp [-appendOk, -appendK, -acells, -AV.solid, e1, e2, e3, e4, e9, e10, hlt, hw, hw', hy3f, hs2f, encT, ew, hEn3, hEl3, hEn3', hcb]
            exact ⟨k + 1, by omega, by omega, by omega, by rw [hsuc, extS_neg (by rintro ⟨_, _, c⟩; rw [hcb] at c; cases c)]; exact hE3⟩
      · have hlim' : ¬ ((extF v t n p f k).length : Int) ≤ 1024 := by omega
        have hstop := extF_stop (v := v) (t := t) (n := n) (path := p) (f := f) (k := k) (by omega) ((nextL v (lastT p)).length - k)
        rw [show k + ((nextL v (lastT p)).length - k) = (nextL v (lastT p)).length by omega, hall] at hstop
        simp [-appendOk, -appendK, -acells, -AV.solid, e1, e2, e3, e4, e9, e10, hlt, hw, hw', hyf, hyl, hlim, hlim']
        rw [hstop]
        refine ⟨hE.out, hE.keep, fun b off len e => ?_⟩
        rcases hE.new _ _ _ e with h1 | h1
        · exact .inl h1
        · exact .inr (by omega)
    · obtain rfl : k = (nextL v (lastT p)).length := by omega
      rw [hall] at hE
      simp [-appendOk, -appendK, -acells, -AV.solid, e1, e2, e3, e4, e9, e10, hyf]
      refine ⟨hE.out, hE.keep, fun b off len e => ?_⟩
      rcases hE.new _ _ _ e with h1 | h1
      · exact .inl h1
      · exact .inr (by omega)
theorem ext_all (v : Net) (t : Bytes) (ok : NetOk v) : ∀ n, ClaimX gl v t n
  | 0 => ext_step v t ok 0 fun n' e => by omega
  | n + 1 => ext_step v t ok (n + 1) fun n' e => by
    obtain rfl : n' = n := by omega
    exact ext_all v t ok n'
set_option maxHeartbeats 4000000 in
theorem ref07_Paths (n : Net) (a b : Bytes) (hp : n.pts.length ≤ 1000) (hl : n.lks.length ≤ 1000) : ACalls Try.prog gl 48 [.agg (encNet n), .str a, .str b] h fun x h' => x = pathsV (validN n) a b ∧ h' = h := by
  refine ACalls.fresh' (ACalls.body Try.f48 _ mixed Try.func48 rfl rfl (by simp [Try.ntmps48]) ?_)
  simp
  refine callS.pure _ (fun _ => ref07_valid n hp hl) ?_
  have ok := validN_ok n
  generalize validN n = v at *
  have hpl := ok.plen
  have hno : ¬ (hasPt v.pts a = true ∧ hasPt v.pts b = true) → pathsM v a b = ([], 16) := fun hq => by unfold pathsM; rw [if_neg hq]
  have hlt : ∀ s, hasPt v.pts s = false → idxI (fun q : Pt => decide (q.name = s)) v.pts < 0 := fun s hs => by
    have := idxPt_lt v.pts s
    rw [hs] at this
    exact of_decide_eq_true this
  simp
  refine callS.pure _ (fun _ => ref07_place v.pts 64 a (by omega)) ?_
  rw [List.take_of_length_le (by omega)]
  by_cases qa : hasPt v.pts a = true
  · rw [idxI_pos qa]
    have hna : ¬ (posP v.pts a : Int) < 0 := by omega
    simp [hna]
    refine callS.pure _ (fun _ => ref07_place v.pts 64 b (by omega)) ?_
    rw [List.take_of_length_le (by omega)]
    by_cases qb : hasPt v.pts b = true
    · rw [idxI_pos qb]
      have hnb : ¬ (posP v.pts b : Int) < 0 := by omega
      simp [hnb]
      have hpe : pathsM v a b = if 1024 < (extM v b 15 [a] []).length then ([], 3) else (extM v b 15 [a] [], 0) := by unfold pathsM; rw [if_pos ⟨qa, qb⟩]
      rw [pathsV, hpe]
      generalize hH0 : h ++ [AObj.cells 2 [[AV.ro (n.pts.map encPt), AV.ro (n.lks.map encLk)]], AObj.cells 2 [[AV.ro (v.pts.map encPt), AV.ro (v.lks.map encLk)]], AObj.cells 1 [[AV.str a]]] = H0
      have hl0 : H0.length = h.length + 3 := by rw [← hH0]; simp
      have hc0 : H0[h.length + 2]? = some (.cells 1 [[.str a]]) := by rw [← hH0]; simp
      have hb0 : ∃ g, killL H0 [h.length + 2] = h ++ g := by
        rw [← hH0]
        exact killL_base [h.length + 2] h _ (by simp)
      have hk0 : (killL H0 [h.length + 2]).length = h.length + 3 := by rw [killL_len, hl0]
      refine callS.any (ACalls.lend [h.length + 2] (args' := [.agg (encNet v), .ro ([a].map encT), .str b, .nil]) (.cons (.same _) (.cons (FrzK.all (m := 1) (es := [[.str a]]) hc0 (by simp)) (.cons (.same _) (.cons (.same _) .nil)))) (ext_all v b ok 15 (killL H0 [h.length + 2]) h.length [a] [] .nil Ls.nil (by omega) (by simp) (by simp) (by simp))) ?_
      rintro r H4 ⟨hr1, hr2, hr3⟩
      have hB4 : ∃ g, H4 = h ++ g := by
        refine base_of_keep hb0 (fun b o _ ho => hr2 b o ho (by simp)) ?_
        rcases Nat.eq_zero_or_pos h.length with hz | hz
        · omega
        · obtain ⟨o, ho, _⟩ := get_lt (l := killL H0 [h.length + 2]) (i := h.length - 1) (by omega)
          have := lt_of_get (hr2 _ o ho (by simp))
          omega
      have hrf := hr1.rs.fix
      have hrl := hr1.rs.len2
      rw [List.length_map] at hrl
      by_cases hlim : 1024 < (extM v b 15 [a] []).length
      · have hlim' : (1024 : Int) < (extM v b 15 [a] []).length := by omega
        rw [if_pos hlim]
        simp [-acells, -AV.solid, hrf, hrl, hlim, hlim']
        exact ⟨hB4, .tup' (.cons .nil (.cons (.data _ (by simp)) .nil))⟩
      · have hlim' : ¬ (1024 : Int) < (extM v b 15 [a] []).length := by omega
        rw [if_neg hlim]
        simp [-acells, -AV.solid, hrf, hrl, hlim, hlim']
        exact ⟨hB4, .tup' (.cons (hr1.frz (by omega) (paths_data _)) (.cons (.data _ (by simp)) .nil))⟩
    · have hb := hlt b (by simpa using qb)
      simp [hb]
      rw [pathsV, hno fun c => qb c.2]
      exact .tup' (.cons .nil (.cons (.data _ (by simp)) .nil))
  · have ha := hlt a (by simpa using qa)
    simp [ha]
    refine callS.pure (.int .i64 0) (fun c => by cases c) ?_
    simp [ha]
    rw [pathsV, hno fun c => qa c.1]
    exact .tup' (.cons .nil (.cons (.data _ (by simp)) .nil))
end Go.Proofs.Ytdmfdgkicbhdoaa
