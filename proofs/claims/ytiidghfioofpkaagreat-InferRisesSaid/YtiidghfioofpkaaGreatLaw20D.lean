/-
  Contracts: the laws of the inference without the reference.
-/
import Derived.Test.YtiidghfioofpkaaGreatLaw20C
import Derived.Test.YtiidghfioofpkaaGreatTollInfer
set_option linter.unusedVariables false
set_option linter.unusedSimpArgs false
set_option maxRecDepth 100000
namespace Go.Proofs.YtiidghfioofpkaaGreat
open Go Go.Abs Go.Toll
variable {gl : Globs} {h : AHeap}

set_option maxHeartbeats 4000000 in
theorem law_Only (t : Topo) (a b : TPass) : ACalls Tryz.prog gl 9 [.agg (encTopo t), .agg (encPass a), .agg (encPass b)] h fun v h' => v = .bool true := by
  refine ACalls.mono (ACalls.data (.bool true) (ACalls.body Tryz.f9 _ mixed Tryz.func9 rfl rfl (by simp [Tryz.ntmps9]) ?_)) fun _ _ h => h.1
  simp
  refine callS.pure _ (fun _ => law_few t) ?_
  by_cases hf : fewT t = true
  case neg =>
    rw [Bool.not_eq_true] at hf
    rw [hf]; simp
    refine callS.pure (.int .i64 0) (fun c => by cases c) ?_
    simp
    refine callS.pure _ (fun _ => law_awake) ?_
    simp
  obtain ⟨l1, l2, l3⟩ := fewT_len hf
  rw [hf]; simp
  refine callS.pure _ (fun _ => law_some [a, b] _ (Rs.own (b := h.length + 3) (es := [a, b].map encPass) (by simp [encPass]) (pass_len _)) (by simp)) ?_
  by_cases hs : someB [a, b] = true
  case neg =>
    rw [Bool.not_eq_true] at hs
    rw [hs]; simp
    refine callS.pure _ (fun _ => law_awake) ?_
    simp
  have c1 := fun H : AHeap => infer_Missing (gl := gl) (h := H) t a b (by omega) (by omega) (by omega)
  have c2 := fun H : AHeap => topology_Route (gl := gl) (h := H) t a b (by omega) (by omega) (by omega)
  have hml := miss_len (okT t) a.point b.point a.time b.time
  have hok := fun h => miss_ok (okT t) (a := a.point) (b := b.point) (s := a.time) (t := b.time) h
  have hR : missM (validT t).net a.point b.point a.time b.time = if (routeM (validT t).net a.point b.point a.time b.time).2 ≠ 0 then ([], (routeM (validT t).net a.point b.point a.time b.time).2)
    else if 1 < (routeM (validT t).net a.point b.point a.time b.time).1.length then ([], 11) else (innerL ((routeM (validT t).net a.point b.point a.time b.time).1.headD []), 0) := rfl
  have hne := route_two' (v := (validT t).net) a.point b.point a.time b.time
  rw [hs]; simp
  unfold missV at c1
  unfold routeV at c2
  generalize missM (validT t).net a.point b.point a.time b.time = R at *
  generalize routeM (validT t).net a.point b.point a.time b.time = U at *
  obtain ⟨m, E⟩ := R
  obtain ⟨L, F⟩ := U
  simp only at c1 c2 hml hok hR hne
  refine callS.pure _ (fun _ => c1 _) ?_
  simp
  refine callS.pure _ (fun _ => c2 _) ?_
  by_cases hF : F = 0
  case neg =>
    rw [if_pos hF] at hR
    injection hR with r1 r2
    subst r1 r2
    simp [hF]
    refine callS.pure _ (fun _ => law_awake) ?_
    simp [hF]
  subst hF
  rw [if_neg (by simp)] at hR
  by_cases hL : 1 < L.length
  · rw [if_pos hL] at hR
    injection hR with r1 r2
    subst r1 r2
    have hL1 : ¬ (L.length : Int) = 1 := by omega
    have hL2 : ¬ L.length = 1 := by omega
    simp [hL1, hL2]
    refine callS.pure _ (fun _ => law_awake) ?_
    simp
  · rw [if_neg hL] at hR
    injection hR with r1 r2
    subst r2
    obtain ⟨_, o2, _, _, _, _, q, hq, hqe⟩ := hok rfl
    injection hq with hq1 _
    subst hq1
    simp only [List.length_cons, List.length_append, List.length_nil] at o2
    clear r1 hne hok
    simp [-appendOk, -appendK, encPa]
    refine append_new (lo := h.length + 4) (n := 1) (es := [encT a.point]) (ys := m.map encT) (Ls.own (by simp [encT]) (by omega) rfl (by simp [encT])) (by simp) (by simp [appOk, encT]) (by simp; omega) ?_
    intro s1 H1 hs1 hg1 hn1
    have hs1f := hs1.rs.fix
    have hb1 := hg1.keep (h.length + 2) _ (by simp; rfl) fun off len e => by simp at e
    have hb3 := at3 hb1
    have hl1 := lt_of_get hb1
    simp [-appendOk, -appendK, -List.map_append, hs1f, hb3]
    refine append_new (lo := h.length + 4) (n := 1) (es := [encT a.point] ++ m.map encT) (ys := [encT b.point]) (by simpa [encT] using hs1.more _) (by simp; omega) (by simp [appOk, encT]) (by simp; omega) ?_
    intro s2 H2 hs2 hg2 hn2
    have hs2f := hs2.rs.fix
    have e3 : (a.point :: (m ++ [b.point])).map encT = [encT a.point] ++ m.map encT ++ [encT b.point] := by simp
    have hs3 : Rs 1 H2 s2 (q.map encT) := by rw [hqe, e3]; exact hs2.rs
    simp [-appendOk, -appendK, -List.map_append, hs2f]
    refine callS.pure _ (fun _ => ref01_SameTexts q q (by rw [hqe]; simp; omega) _ _ hs3 (Rs.ro (text_len _))) ?_
    simp
    refine callS.pure _ (fun _ => law_awake) ?_
    simp
    exact hg2.base h (by omega) (base_more (hg1.base h (by omega) ⟨_, rfl⟩) _)
theorem bounds_b [GOk gl] (n : Net) (a b : Bytes) (k : Nat) (hb : h[k]? = some (.cells 1 [[.str a], [.str b]])) (hp : n.pts.length ≤ 1000) (hl : n.lks.length ≤ 1000) : ACalls Tryz.prog gl 27 [.agg (encNet n), .own k 0 2] h fun x h' => x = .tup [.int .i64 (boundsM (validN n) [a, b]).1, .int .i64 (boundsM (validN n) [a, b]).2.1, .int .i64 (boundsM (validN n) [a, b]).2.2] ∧ h' = h :=
  ACalls.borrow (args' := [.agg (encNet n), .ro ([a, b].map encT)]) (by simp) (.cons (.data _ (by simp)) (.cons (Frz.ownD (m := 1) (es := [[.str a], [.str b]]) hb (by omega) (by simp) (by simp [encT]) (by simp [encT])) .nil)) (graph_Bounds n [a, b] hp hl (by simp))
def lxRise : Nat → Option (List (Nat × Nat)) := fun id => if id = 12 then some [(1, 14)] else none
set_option maxHeartbeats 8000000 in
theorem law_Rises [GOk gl] (t : Topo) (p : List Bytes) (s e : Int) (hpl : p.length ≤ 9223372036854775807) : ACalls Tryz.prog gl 7 [.agg (encTopo t), .agg [.ro (p.map encT), .int .i64 s, .int .i64 e]] h fun v h' => v = .bool true := by
  refine ACalls.mono (ACalls.data (.bool true) (ACalls.bodyL lxRise Tryz.f7 _ mixed Tryz.func7 rfl rfl (by simp [Tryz.ntmps7]) ?_)) fun _ _ h => h.1
  simp [lxRise]
  refine callS.pure _ (fun _ => law_few t) ?_
  by_cases hf : fewT t = true
  case neg =>
    rw [Bool.not_eq_true] at hf
    rw [hf]; simp
    refine callS.pure (.int .i64 0) (fun c => by cases c) ?_
    simp
    refine callS.pure _ (fun _ => law_awake) ?_
    simp
  obtain ⟨l1, l2, l3⟩ := fewT_len hf
  rw [hf]; simp
  refine callS.pure _ (fun _ => law_short p hpl) ?_
  by_cases hs : short40 p = true
  case neg =>
    rw [Bool.not_eq_true] at hs
    rw [hs]; simp
    refine callS.pure _ (fun _ => law_awake) ?_
    simp
  have hp := short40_len hs
  have c1 := fun H : AHeap => infer_Times (gl := gl) (h := H) t p s e (by omega) (by omega) (by omega) (by omega)
  unfold timesV at c1
  rw [hs]; simp
  refine callS.pure _ (fun _ => c1 _) ?_
  by_cases hE : (timesM (validT t).net p s e).2 = 0
  case neg =>
    rw [times_no hE]
    simp [hE]
    refine callS.pure _ (fun _ => law_awake) ?_
    simp [hE]
  obtain ⟨o1, o2, o3, o4, o5, o6⟩ := times_ok hE
  have ok := okT t
  have hnet := net_of_path o5
  have b1 := fun (H : AHeap) (q : List Bytes) (hq : q.length ≤ 1000000) => graph_Bounds (gl := gl) (h := H) t.net q (by omega) (by omega) hq
  simp only [hnet] at b1
  obtain ⟨a1, a2, a3, a4, a5⟩ := low_all ok o5 o1
  have hfirst := time_first (s := s) (t := e) ok o5 o1
  have hlast := fun h2 k hk => time_last (s := s) (t := e) ok o5 o1 h2 o4 (k := k) hk
  have hmono := fun j k h2 h3 => time_mono (s := s) (t := e) ok o5 (j := j) (k := k) h2 h3
  have hgap := fun i a b ha hb hd => time_gap (s := s) (t := e) ok o5 o1 (i := i) (a := a) (b := b) ha hb hd
  have hstep := fun i a b ha hb => low_step ok o5 (i := i) (a := a) (b := b) ha hb
  have htl := timesL_len (validT t).net p s e
  have htg : ∀ k, k < p.length → (timesL (validT t).net p s e)[k]? = some (timeAt (validT t).net p s e k) := fun k hk => timesL_get hk
  rw [o6]
  generalize (validT t).net = V at *
  generalize timesL V p s e = TL at *
  have hB0 := a1
  generalize hlowA : lowI V p p.length = A at *
  have hp0 : (p.length : Int) ≠ 0 := by omega
  have hTL0 : TL[0]? = some s := by rw [htg 0 (by omega), hfirst]
  have hTL0' := (List.getElem?_eq_some_iff.1 hTL0).2
  have hTLl : 1 < p.length → TL[p.length - 1]? = some e := fun h1 => by rw [htg _ (by omega), hlast (by omega) _ (by omega)]
  rcases Nat.lt_or_ge 1 p.length with h1 | h1
  · have hTLl' := (List.getElem?_eq_some_iff.1 (hTLl h1)).2
    have w1 : IntKind.i64.wrap ((p.length : Int) - 1) = ((p.length - 1 : Nat) : Int) := by rw [wrap64_of (by omega) (by omega)]; omega
    have h1q : (1 : Int) < p.length := by omega
    have hlt0 : 0 < p.length := by omega
    have hlt1 : p.length - 1 < p.length := by omega
    have hpne : ¬ p = [] := by rintro rfl; simp at hlt0
    simp [lxRise, encNs, htl, hp0, hpne, hTL0, hTL0', hTLl h1, hTLl', w1, h1q, hlt0, hlt1]
    refine ⟨by decide, ?_⟩
    refine callS.pure _ (fun _ => b1 _ p (by omega)) ?_
    have hts : 0 ≤ s ∧ e < 68719476736 := by simp [isTimeB] at o2 o3; omega
    have wd : IntKind.i64.wrap (e - s) = e - s := wrap64_of (by omega) (by omega)
    simp [lxRise, o5, a1]
    refine AWP.upL lxRise mixed p.length (fun i fr H => fr 2 = .ptr h.length 0 0 ∧ fr 3 = .ptr (h.length + 1) 0 0 ∧ fr 5 = .ro (TL.map encNs) ∧ fr 7 = .int .i64 A ∧ fr 9 = .int .i64 0 ∧ fr 10 = .int .i64 i ∧ 1 ≤ i ∧ H[h.length]? = some (.cells 3 [encTopo t]) ∧ H[h.length + 1]? = some (.cells 3 [[.ro (p.map encT), .int .i64 s, .int .i64 e]]) ∧ ∃ g, H = h ++ g) 1 (by omega)
      ⟨by simp, by simp, by simp, by simp, by simp, by simp, by omega, by simp, by simp, _, rfl⟩ ?_
    rintro i fr H hi ⟨e2, e3, e5, e7, e9, e10, h1i, hT, hW, hB⟩
    have hT3 := at3 hT
    have hW3 := at3 hW
    simp only [encTopo] at hT3
    rcases Nat.lt_or_ge i p.length with hlt | hge
    · obtain ⟨j, rfl⟩ : ∃ j, i = j + 1 := ⟨i - 1, by omega⟩
      obtain ⟨a, ha, ha'⟩ := get_lt (l := p) (i := j) (by omega)
      obtain ⟨b, hb, hb'⟩ := get_lt hlt
      have ew := wrap_succ' (i := j + 1) (by omega)
      have w2 : IntKind.i64.wrap (((j + 1 : Nat) : Int) - 1) = (j : Int) := by rw [wrap64_of (by omega) (by omega)]; omega
      have hj : j < p.length := by omega
      have hlH := base_len hB
      obtain ⟨k, k1, k2, _⟩ := hstep j a b ha hb
      have hT3' := at3 (at_more hT [.cells 1 [[.str a], [.str b]]])
      have hW3' := at3 (at_more hW [.cells 1 [[.str a], [.str b]]])
      simp only [encTopo] at hT3'
      have y1 := htg (j + 1) hlt
      have y0 := htg j hj
      have hm1 := hmono j (j + 1) (by omega) hlt
      have hm0 := hmono 0 j (by omega) hj
      have hm2 := hmono (j + 1) (p.length - 1) (by omega) (by omega)
      rw [hfirst] at hm0
      rw [hlast (by omega) (p.length - 1) (by omega)] at hm2
      have hg2 := hgap j a b ha hb
      rw [a1, k2] at hg2
      generalize timeAt V p s e (j + 1) = Y1 at *
      generalize timeAt V p s e j = Y0 at *
      have y1' := (List.getElem?_eq_some_iff.1 y1).2
      have y0' := (List.getElem?_eq_some_iff.1 y0).2
      have wy : IntKind.i64.wrap (Y1 - Y0) = Y1 - Y0 := wrap64_of (by omega) (by omega)
      simp [-Int.natCast_add, lxRise, encT, encNs, e2, e3, e5, e7, e9, e10, htl, hlt, hj, hT3, hW3, hT3', hW3', w2, ha, ha', hb, hb']
      refine ⟨by decide, ?_⟩
      refine callS.pure _ (fun _ => bounds_b t.net a b H.length (by simp) (by omega) (by omega)) ?_
      rw [hnet, k1, k2]
      simp [-Int.natCast_add, lxRise, encT, encNs, e2, e3, e5, e7, e9, e10, htl, hlt, hj, hT3', hW3', w2, y0, y0', y1, y1', wy, wd]
      exact ⟨by decide, fun q => ⟨q, fun q2 => ⟨q, q2⟩⟩, ⟨hm1, hg2⟩, fun _ _ => ⟨j + 1 + 1, by omega, by omega, ew, by omega, base_more hB _⟩⟩
    · obtain rfl : i = p.length := by omega
      simp [e2, e3, e5, e7, e9, e10, htl]
      refine callS.pure _ (fun _ => law_awake) ?_
      simp
      exact hB
  · have hp1 : p.length = 1 := by omega
    have hpne : ¬ p = [] := by rintro rfl; simp at hp1
    rw [hp1] at htl
    simp [lxRise, encNs, htl, hp1, hpne, hTL0, hTL0']
    refine ⟨by decide, ?_⟩
    refine callS.pure _ (fun _ => b1 _ p (by omega)) ?_
    simp [lxRise, o5, a1]
    refine AWP.upL lxRise mixed 1 (fun i fr H => fr 5 = .ro (TL.map encNs) ∧ fr 9 = .int .i64 0 ∧ fr 10 = .int .i64 1 ∧ ∃ g, H = h ++ g) 1 (by omega) ⟨by simp, by simp, by simp, _, rfl⟩ ?_
    rintro i fr H hi ⟨e5, e9, e10, hB⟩
    simp [e5, e9, e10, htl]
    refine callS.pure _ (fun _ => law_awake) ?_
    simp
    exact hB
end Go.Proofs.YtiidghfioofpkaaGreat
