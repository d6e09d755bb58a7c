/-
  Contracts: the prepared network.
-/
import Derived.Test.YtiidghfioofpkaaGreatGraph
import Derived.Test.YtiidghfioofpkaaGreatText
import Derived.Test.YtiidghfioofpkaaGreatSortLay
import Derived.Test.YtiidghfioofpkaaGreatAbsLax
import Derived.Test.YtiidghfioofpkaaGreatSortRoad
import Derived.Test.YtiidghfioofpkaaGreatTollGraph
set_option linter.unusedVariables false
set_option linter.unusedSimpArgs false
set_option maxRecDepth 100000
namespace Go.Proofs.YtiidghfioofpkaaGreat
open Go Go.Abs Go.Toll
variable {gl : Globs} {h : AHeap}

/-- The heap while the network is prepared: the network, the result, the map, the roads. -/
structure PrH (h H : AHeap) (n : Net) (x : AV) (kvs : List (AV × AV)) (y : AV) : Prop where
  net : H[h.length]? = some (.cells 2 [encNet n])
  res : H[h.length + 1]? = some (.cells 3 [[.nil, .lit (.map none), .nil]])
  map : H[h.length + 2]? = some (.map kvs)
  rr : H[h.length + 3]? = some (.cells 3 [[x, .map (h.length + 2), y]])
  base : ∃ g, H = h ++ g
section
variable {H H' : AHeap} {n : Net} {x x' y y' : AV} {kvs kvs' : List (AV × AV)}
theorem PrH.len (p : PrH h H n x kvs y) : h.length + 3 < H.length := (List.getElem?_eq_some_iff.1 p.rr).1
theorem PrH.at (p : PrH h H n x kvs y) : (H[h.length]? = some (.cells 2 [encNet n]) ∧ H[h.length + 1]? = some (.cells 3 [[.nil, .lit (.map none), .nil]]) ∧ H[h.length + 2]? = some (.map kvs) ∧ H[h.length + 3]? = some (.cells 3 [[x, .map (h.length + 2), y]])) ∧
    (h.length < H.length ∧ h.length + 1 < H.length ∧ h.length + 2 < H.length ∧ h.length + 3 < H.length) ∧
    (∀ hl : h.length < H.length, H[h.length] = .cells 2 [encNet n]) ∧ (∀ hl : h.length + 1 < H.length, H[h.length + 1] = .cells 3 [[.nil, .lit (.map none), .nil]]) ∧ (∀ hl : h.length + 2 < H.length, H[h.length + 2] = .map kvs) ∧ ∀ hl : h.length + 3 < H.length, H[h.length + 3] = .cells 3 [[x, .map (h.length + 2), y]] := by
  have hl := p.len
  refine ⟨⟨p.net, p.res, p.map, p.rr⟩, ⟨by omega, by omega, by omega, hl⟩, fun _ => ?_, fun _ => ?_, fun _ => ?_, fun _ => ?_⟩
  · exact (List.getElem?_eq_some_iff.1 p.net).2
  · exact (List.getElem?_eq_some_iff.1 p.res).2
  · exact (List.getElem?_eq_some_iff.1 p.map).2
  · exact (List.getElem?_eq_some_iff.1 p.rr).2
theorem PrH.keep (p : PrH h H n x kvs y) (hk : ∀ b o, b < h.length + 4 → H[b]? = some o → H'[b]? = some o) (hb : ∃ g, H' = h ++ g) : PrH h H' n x kvs y :=
  ⟨hk _ _ (by omega) p.net, hk _ _ (by omega) p.res, hk _ _ (by omega) p.map, hk _ _ (by omega) p.rr, hb⟩
theorem PrH.more (p : PrH h H n x kvs y) (g : AHeap) : PrH h (H ++ g) n x kvs y :=
  p.keep (fun b o _ ho => by rw [List.getElem?_append_left (List.getElem?_eq_some_iff.1 ho).1]; exact ho) (by obtain ⟨g', rfl⟩ := p.base; exact ⟨g' ++ g, by rw [List.append_assoc]⟩)
theorem PrH.setR (p : PrH h H n x kvs y) (x' y' : AV) : PrH h (H.set (h.length + 3) (.cells 3 [[x', .map (h.length + 2), y']])) n x' kvs y' := by
  have hl := p.len
  refine ⟨?_, ?_, ?_, List.getElem?_set_self hl, ?_⟩
  · rw [List.getElem?_set_ne (by omega)]; exact p.net
  · rw [List.getElem?_set_ne (by omega)]; exact p.res
  · rw [List.getElem?_set_ne (by omega)]; exact p.map
  · obtain ⟨g, rfl⟩ := p.base
    exact ⟨_, List.set_append_right _ _ (by omega)⟩
theorem PrH.setM (p : PrH h H n x kvs y) (kvs' : List (AV × AV)) : PrH h (H.set (h.length + 2) (.map kvs')) n x kvs' y := by
  have hl := p.len
  refine ⟨?_, ?_, List.getElem?_set_self (by omega), ?_, ?_⟩
  · rw [List.getElem?_set_ne (by omega)]; exact p.net
  · rw [List.getElem?_set_ne (by omega)]; exact p.res
  · rw [List.getElem?_set_ne (by omega)]; exact p.rr
  · obtain ⟨g, rfl⟩ := p.base
    exact ⟨_, List.set_append_right _ _ (by omega)⟩
theorem PrH.hi (p : PrH h H n x kvs y) {b : Nat} {o : AObj} (hb : h.length + 4 ≤ b) : PrH h (H.set b o) n x kvs y := by
  refine p.keep (fun b' o' hb' ho => by rw [List.getElem?_set_ne (by omega)]; exact ho) ?_
  obtain ⟨g, rfl⟩ := p.base
  exact ⟨_, List.set_append_right _ _ (by omega)⟩
theorem PrH.grow {lo : Nat} {s : AV} (p : PrH h H n x kvs y) (g : Grow lo H s H') (hlo : h.length ≤ lo) (hs : ∀ b off len, s = .own b off len → h.length + 4 ≤ b) : PrH h H' n x kvs y :=
  p.keep (fun b o hb ho => g.keep b o ho (fun off len e => by have := hs b off len e; omega)) (g.base h hlo p.base)
end
def lxP : Nat → Option (List (Nat × Nat)) := fun i => if i = 20 then some [(1, 19), (1, 20), (4, 19), (6, 19), (7, 19)] else none
set_option maxHeartbeats 4000000 in
theorem graph_prepare (n : Net) (hp : n.pts.length ≤ 1000) (hl : n.lks.length ≤ 1000) : ACalls Tryz.prog gl 46 [.agg (encNet n)] h fun v h' => ∃ m g, v = .agg (encRoads (validN n) m) ∧ h' = h ++ g ∧ h.length ≤ m ∧ h'[m]? = some (.map (sM encNum (atM (validN n)))) := by
  refine ACalls.freeze (R := fun x h' => ∃ a y c rs g, x = .agg [a, .map (h.length + 2), y] ∧ h' = h ++ g ∧ h'[h.length + 2]? = some (.map (sM encNum (atM (validN n)))) ∧ Ls 1 (h.length + 4) h' a ((ptsN (validN n)).map encT) ∧ Nest 3 (h.length + 4) h' y c rs ∧ rs = (rowsR (validN n)).map fun r => r.map encRoad) ?_ ?_
  · refine ACalls.bodyL lxP Tryz.f46 _ mixed Tryz.func46 rfl rfl (by simp [Tryz.ntmps46]) ?_
    simp
    refine callS.pure _ (fun _ => graph_Check n hp hl) ?_
    simp
    refine ⟨fun hz => ?_, fun hz => ?_⟩
    · have hv : validN n = ⟨[], []⟩ := by rw [validN, if_neg hz]
      have e1 : ptsN ⟨[], []⟩ = [] := List.mergeSort_nil
      rw [hv]
      exact ⟨.nil, .nil, ⟨rfl, rfl⟩, by rw [atM, e1]; rfl, by rw [e1]; exact Ls.nil, [], by rw [rowsR, e1]; exact Nest.nil⟩
    · have hv : validN n = n := by rw [validN, if_pos hz]
      have ok := netErr_ok hz
      rw [hv]
      refine AWP.upL lxP mixed n.pts.length (fun i fr h' => fr 1 = .ptr h.length 0 0 ∧ fr 2 = .ptr (h.length + 1) 0 0 ∧ fr 3 = .ptr (h.length + 3) 0 0 ∧ fr 20 = .ro (n.pts.map encPt) ∧ fr 21 = .int .i64 n.pts.length ∧ fr 22 = .int .i64 i ∧
        ∃ x, PrH h h' n x [] .nil ∧ Ls 1 (h.length + 4) h' x ((pfxN n i).map encT)) 0 (by omega) ⟨by simp, by simp, by simp, by simp, by simp, by simp, .nil, ⟨by simp, by simp, by simp, by simp, by simp⟩, Ls.nil⟩ ?_
      rintro i fr H hi ⟨e1, e2, e3, e20, e21, e22, x, hP, hL⟩
      have hPl := hP.len
      have hf := hL.rs.fix
      rcases Nat.lt_or_ge i n.pts.length with hlt | hge
      · obtain ⟨p, hg, hg'⟩ := get_lt hlt
        have ew := wrap_succ' (i := i) (by omega)
        have hP1 := hP.more [.cells 3 [encPt p]]
        simp [-appendOk, -appendK, -acells, -AV.solid, lxP, e1, e2, e3, e20, e21, e22, hlt, hg, hg', hP.at, hf]
        refine append_ls (lo := h.length + 4) (n := 1) (es := (pfxN n i).map encT) (ys := [encT p.name]) (by simpa [encT] using hL.more [.cells 3 [encPt p], .cells 1 [encT p.name]]) (by simp; omega) (by simp [appOk, encT]) (by have := pfxN_len n i; simp; omega) ?_
        intro s1 H1 hs1 hg1
        have hs1f := hs1.rs.fix
        have hP2 := (hP.more [.cells 3 [encPt p], .cells 1 [encT p.name]]).grow (by simpa [encT] using hg1) (by omega) hL.above
        have hPl2 := hP2.len
        simp [-appendOk, -appendK, -acells, -AV.solid, lxP, e1, e2, e3, e20, e21, e22, hlt, hg, hg', hP2.at, hs1f, ew]
        refine ⟨i + 1, by omega, by omega, by omega, s1, hP2.setR _ _, ?_⟩
        have := hs1.put (b := h.length + 3) (o := .cells 3 [[s1, .map (h.length + 2), .nil]]) (by omega)
        rw [pfxN_succ hg]
        simpa using this
      · obtain rfl : i = n.pts.length := by omega
        rw [pfxN_all] at hL
        simp [-appendOk, -appendK, -acells, -AV.solid, lxP, e1, e2, e3, e20, e21, e22, hP.at, hf]
        refine callS.any (slices_SortL (n.pts.map (·.name)) hL (by simp; omega)) ?_
        rintro v H1 ⟨rfl, hL1, hlen1, hk1⟩
        have hP1 := hP.keep (H' := H1) (fun b o hb ho => hk1 b o ho fun off len e => by have := hL.above b off len e; omega) (base_of_keep hP.base (fun b o hb ho => hk1 b o ho fun off len e => by have := hL.above b off len e; omega) (by omega))
        have hPl1 := hP1.len
        rw [show sortT (n.pts.map (·.name)) = ptsN n from rfl] at hL1
        have hf1 := hL1.rs.fix
        simp [-appendOk, -appendK, -acells, -AV.solid, lxP, e1, e2, e3, hP1.at, hf1, hL1.rs.len2]
        have hpl := ptsN_len n
        refine AWP.upL lxP mixed (ptsN n).length (fun i fr h' => fr 1 = .ptr h.length 0 0 ∧ fr 2 = .ptr (h.length + 1) 0 0 ∧ fr 3 = .ptr (h.length + 3) 0 0 ∧ fr 38 = x ∧ fr 39 = .int .i64 (ptsN n).length ∧ fr 40 = .int .i64 i ∧
          PrH h h' n x (numK n i) .nil ∧ Ls 1 (h.length + 4) h' x ((ptsN n).map encT)) 0 (by omega) ⟨by simp [e1], by simp [e2], by simp [e3], by simp, by simp, by simp, hP1, hL1⟩ ?_
        clear hP hL hf e1 e2 e3 e20 e21 e22 hP1 hL1 hf1 hPl hPl1 hlen1 hk1 hi hge
        rintro i fr H hi ⟨e1, e2, e3, e38, e39, e40, hP, hL⟩
        have hf := hL.rs.fix
        have hPl := hP.len
        rcases Nat.lt_or_ge i (ptsN n).length with hlt | hge
        · obtain ⟨s, hs, hs'⟩ := get_lt hlt
          have ew := wrap_succ' (i := i) (by omega)
          have rx := Rs.ix Tryz.prog hL.rs i (by omega) (y := encT s) (by simp [hs])
          have hset := numK_succ ok hs
          have hkok : keysOk Tryz.prog 9 (.str s) (numK n i) := by
            refine ⟨by simp [aggFit], [.str], by simp, by simp, fun p hp => ?_⟩
            obtain ⟨q, _, rfl⟩ := mem_sM _ hp
            simp
          have hPm := hP.setM (numK n (i + 1))
          have hLm := hL.put (b := h.length + 2) (o := .map (numK n (i + 1))) (by omega)
          simp [-appendOk, -appendK, -acells, -AV.solid, -keysOk, lxP, e1, e2, e3, e38, e39, e40, hlt, hP.at, hf, rx, encT, hset, hkok, ew]
          exact ⟨i + 1, by omega, by omega, by omega, hPm, hLm⟩
        · obtain rfl : i = (ptsN n).length := by omega
          rw [numK_all] at hP
          simp [-appendOk, -appendK, -acells, -AV.solid, lxP, e1, e2, e3, e38, e39, e40, hP.at, hf, hL.rs.len2]
          refine ⟨by omega, ?_⟩
          obtain ⟨M, hM⟩ : ∃ M, M = H.length := ⟨_, rfl⟩
          have hxM : ∀ b off len, x = .own b off len → b < M := fun b off len e => by rw [hM]; exact hL.rs.lt e
          have hMl : h.length + 4 ≤ M := by omega
          rw [← hM]
          refine AWP.upL lxP mixed n.lks.length (fun j fr h' => fr 1 = .ptr h.length 0 0 ∧ fr 2 = .ptr (h.length + 1) 0 0 ∧ fr 3 = .ptr (h.length + 3) 0 0 ∧ fr 56 = .ro (n.lks.map encLk) ∧ fr 57 = .int .i64 n.lks.length ∧ fr 58 = .int .i64 j ∧
            ∃ cs, PrH h h' n x (sM encNum (atM n)) (.own M 0 cs.length) ∧ Ls 1 (h.length + 4) h' x ((ptsN n).map encT) ∧ Nest 3 M h' (.own M 0 cs.length) cs (rawI n j) ∧ NL 3 M h' cs (rawI n j) ∧ cs.length = (ptsN n).length) 0 (by omega)
            ⟨by simp [e1], by simp [e2], by simp [e3], by simp, by simp, by simp, List.replicate (ptsN n).length .nil, ?_, ?_, ?_, ?_, by simp⟩ ?_
          · have := (hP.setR x (.own M 0 (ptsN n).length)).more [.cells 1 (List.replicate (ptsN n).length [.nil])]
            simpa using this
          · exact (hL.put (by omega)).more _
          · have hq := (Nest.nils (n := 3) (m := (ptsN n).length) (H := H.set (h.length + 3) (.cells 3 [[x, .map (h.length + 2), .own M 0 (ptsN n).length]])) (lo := M) (by simp [hM])).1
            rw [rawI_zero]
            simpa [hM] using hq
          · have hq := (Nest.nils (n := 3) (m := (ptsN n).length) (H := H.set (h.length + 3) (.cells 3 [[x, .map (h.length + 2), .own M 0 (ptsN n).length]])) (lo := M) (by simp [hM])).2
            rw [rawI_zero]
            exact hq
          clear hP hL hf e1 e2 e3 e38 e39 e40 hPl hi hge
          rintro j fr H hj ⟨e1, e2, e3, e56, e57, e58, cs, hP, hL, hN, hNL, hcl⟩
          have hPl := hP.len
          rcases Nat.lt_or_ge j n.lks.length with hlt | hge
          · obtain ⟨l, hl0, hl1⟩ := get_lt hlt
            have ew := wrap_succ' (i := j) (by omega)
            obtain ⟨w1, w2, w3⟩ := ok.ends l (List.mem_of_getElem? hl0)
            have hk1 : alook (sM encNum (atM n)) (.str l.src) = some (.int .i64 (posN n l.src)) := by rw [alook_sM, getS_atM, if_pos w1]; rfl
            have hk2 : alook (sM encNum (atM n)) (.str l.dst) = some (.int .i64 (posN n l.dst)) := by rw [alook_sM, getS_atM, if_pos w2]; rfl
            have hkok : ∀ s, keysOk Tryz.prog 9 (.str s) (sM encNum (atM n)) := fun s => by
              refine ⟨by simp [aggFit], [.str], by simp, by simp, fun p hp => ?_⟩
              obtain ⟨q, _, rfl⟩ := mem_sM _ hp
              simp
            have hpl2 := posN_lt w1
            rw [← hcl] at hpl2
            obtain ⟨c, hc, hc'⟩ := get_lt hpl2
            have hrg := rawI_get (j := j) w1
            have hLc := hNL _ _ _ hc hrg
            have hcf := hLc.rs.fix
            have hB := hN.blk
            simp [-appendOk, -appendK, -acells, -AV.solid, -keysOk, lxP, e1, e2, e3, e56, e57, e58, hlt, hl0, hl1, hP.at, hkok, hk1, hk2, hB, hpl2, hc, hc', hcf]
            refine ⟨by decide, ?_⟩
            refine append_new (lo := M) (n := 3) (es := rawC n j l.src) (ys := [encRoad (roadOf n l)]) (by simpa [roadOf] using hLc.more [.cells 4 [encLk l], .cells 3 [encRoad (roadOf n l)]]) (by simp; omega) (by simp [appOk, roadOf]) (by have := rawC_len n j l.src; simp; omega) ?_
            intro s1 H1 hs1 hg1 hn1
            have hs1f := hs1.rs.fix
            obtain ⟨hN1, hNL1⟩ := nest_put (os := [.cells 4 [encLk l], .cells 3 [encRoad (roadOf n l)]]) hN hNL hc hrg hs1 (by simpa [roadOf] using hg1) (by simpa [roadOf] using hn1)
            have hP2 := (hP.more [.cells 4 [encLk l], .cells 3 [encRoad (roadOf n l)]]).grow (by simpa [roadOf] using hg1) (by omega) (fun b off len e => by have := hLc.above b off len e; omega)
            have hL2 := (hL.more [.cells 4 [encLk l], .cells 3 [encRoad (roadOf n l)]]).grow (by simpa [roadOf] using hg1) (fun b e _ off len e' => by have := hxM _ _ _ e; have := hLc.above _ _ _ e'; omega)
            have hP3 := hP2.hi (b := M) (o := .cells 1 ((cs.map fun c => [c]).set (posN n l.src) [s1])) (by omega)
            have hlen1 := hg1.len
            have hB1 := hN.blk1 (os := [.cells 4 [encLk l], .cells 3 [encRoad (roadOf n l)]]) hc hrg (by simpa [roadOf] using hg1)
            simp [-appendOk, -appendK, -acells, -AV.solid, -keysOk, lxP, e1, e2, e3, e56, e57, e58, hlt, hl0, hl1, hP.at, hkok, hk1, hk2, hB, hpl2, hc, hc', hcf, hP2.at, hs1f, ew, hB1]
            refine ⟨j + 1, by omega, by omega, by omega, cs.set (posN n l.src) s1, by simpa using hP3, hL2.keep' fun b len o e ho => by rw [List.getElem?_set_ne (by have := hxM _ _ _ e; omega)]; exact ho, ?_, ?_, by simp [hcl]⟩
            · rw [rawI_succ ok hl0]; simpa using hN1
            · rw [rawI_succ ok hl0]; exact hNL1
          · obtain rfl : j = n.lks.length := by omega
            rw [← midI_zero] at hN hNL
            simp [-appendOk, -appendK, -acells, -AV.solid, -keysOk, lxP, e1, e2, e3, e56, e57, e58, hP.at]
            refine AWP.upL lxP mixed cs.length (fun i fr h' => fr 1 = .ptr h.length 0 0 ∧ fr 2 = .ptr (h.length + 1) 0 0 ∧ fr 3 = .ptr (h.length + 3) 0 0 ∧ fr 90 = .own M 0 cs.length ∧ fr 91 = .int .i64 cs.length ∧ fr 92 = .int .i64 i ∧
              PrH h h' n x (sM encNum (atM n)) (.own M 0 cs.length) ∧ Ls 1 (h.length + 4) h' x ((ptsN n).map encT) ∧ Nest 3 M h' (.own M 0 cs.length) cs (midI n i) ∧ NL 3 M h' cs (midI n i)) 0 (by omega)
              ⟨by simp [e1], by simp [e2], by simp [e3], by simp, by simp, by simp, hP, hL, hN, hNL⟩ ?_
            clear hP hL hN hNL e1 e2 e3 e56 e57 e58 hPl hge hj
            rintro i fr H hi ⟨e1, e2, e3, e90, e91, e92, hP, hL, hN, hNL⟩
            have hPl := hP.len
            have hB := hN.blk
            rcases Nat.lt_or_ge i cs.length with hlt | hge
            · obtain ⟨c, hc, hc'⟩ := get_lt hlt
              obtain ⟨s, hs, _⟩ := get_lt (l := ptsN n) (i := i) (by omega)
              have hrg := midI_get hs
              have hLc := hNL _ _ _ hc hrg
              have hcf := hLc.rs.fix
              have ew := wrap_succ' (i := i) (by omega)
              simp [-appendOk, -appendK, -acells, -AV.solid, -keysOk, lxP, e1, e2, e3, e90, e91, e92, hlt, hP.at, hB, hc, hc', hcf]
              refine callS.any (slices_SortRoad (rawS n s) (fun r hr => ?_) (rowRaw_nd ok s) ?_ hLc) ?_
              · obtain ⟨z, hz, rfl⟩ := List.mem_map.1 hr
                have := posN_lt (ok.ends z (List.mem_filter.1 hz).1).2.1
                simp only [roadOf]
                omega
              · rw [rawS, List.length_map]
                exact Nat.le_trans (List.length_filter_le _ _) (by omega)
              · rintro v H1 ⟨rfl, hLc1, hlen1, hk1⟩
                rw [show (rawS n s).mergeSort (fun a b => decide (a.to ≤ b.to)) = rowOf n s from rowOf_sort ok s] at hLc1
                obtain ⟨hN1, hNL1⟩ := nest_turn hN hNL hc hLc1 hk1
                rw [midI_succ hs] at hN1 hNL1
                have hP1 := hP.keep (H' := H1) (fun b o hb ho => hk1 b o ho fun off len e => by have := hLc.above b off len e; omega) (base_of_keep hP.base (fun b o hb ho => hk1 b o ho fun off len e => by have := hLc.above b off len e; omega) (by omega))
                have hL1 : Ls 1 (h.length + 4) H1 x ((ptsN n).map encT) := hL.keep' fun b len o e ho => hk1 b o ho fun off len' e' => by have := hxM _ _ _ e; have := hLc.above _ _ _ e'; omega
                simp [-appendOk, -appendK, -acells, -AV.solid, -keysOk, lxP, e1, e2, e3, e90, e91, e92, ew]
                exact ⟨i + 1, by omega, by omega, by omega, hP1, hL1, hN1, hNL1⟩
            · obtain rfl : i = cs.length := by omega
              rw [hcl, midI_all, ← hcl] at hN
              have hxf := hL.rs.fix
              simp [-appendOk, -appendK, -acells, -AV.solid, -keysOk, lxP, e1, e2, e3, e90, e91, e92, hP.at, hxf]
              refine ⟨x, _, ⟨rfl, rfl⟩, ?_, hL.put (by omega), cs, (hN.low hMl).put0 (by omega)⟩
              obtain ⟨g, rfl⟩ := hP.base
              exact ⟨_, List.set_append_right _ _ (by omega)⟩
  · rintro x h' ⟨a, y, c, rs, g, rfl, rfl, hm, hL, hN, rfl⟩
    obtain ⟨k1, hk1, f1⟩ := hL.lend
    obtain ⟨k2, hk2, f2⟩ := hN.lend
    have hge : ∀ b ∈ k1 ++ k2, h.length + 4 ≤ b := fun b hb => by
      rcases List.mem_append.1 hb with hb | hb
      · exact (hk1 b hb).1
      · exact hk2 b hb
    obtain ⟨g', hg'⟩ := killL_base (k1 ++ k2) h g fun b hb => by have := hge b hb; omega
    refine ⟨k1 ++ k2, _, FrzK.agg' (.cons (f1.more fun b hb => List.mem_append_left _ hb) (.cons (.same _) (.cons (f2.more fun b hb => List.mem_append_right _ hb) .nil))), h.length + 2, g', ?_, hg', by omega, ?_⟩
    · rw [encRoads, List.map_map]; rfl
    · rw [killL_keep _ _ _ fun hb => by have := hge _ hb; omega]; exact hm
end Go.Proofs.YtiidghfioofpkaaGreat
