/-
  Contracts: the points that can be reached; the durations of a path.
-/
import Derived.Test.YtonpmbppmmaheaaGrA
import Derived.Test.YtonpmbppmmaheaaIndexRoad
import Derived.Test.YtonpmbppmmaheaaAbsLax
import Derived.Test.YtonpmbppmmaheaaAbsMore
import Derived.Test.YtonpmbppmmaheaaTollBfs
set_option linter.unusedVariables false
set_option linter.unusedSimpArgs false
set_option maxRecDepth 100000
namespace Go.Proofs.Ytonpmbppmmaheaa
open Go Go.Abs Go.Toll
variable {gl : Globs} {h : AHeap}

def encB (b : Bool) : List AV := [.bool b]
def encQ (v : Net) (s : Bytes) : List AV := [.int .i64 (posN v s)]
theorem encB_len (l : List Bool) : ∀ e ∈ l.map encB, e.length = 1 := by
  intro e he
  obtain ⟨_, _, rfl⟩ := List.mem_map.1 he
  rfl
/-- The heap of a search: the roads, what is seen, the queue. -/
structure BfsH (h H : AHeap) (p m : Nat) (v : Net) (sn : List Bool) (x : AV) (Q : List Bytes) : Prop where
  roads : RoadsH h H p m v
  seen : H[p + 1]? = some (.cells 1 (sn.map encB))
  queue : Oq 1 (p + 2) H x (Q.map (encQ v))
section
variable {H H' : AHeap} {p m : Nat} {v : Net} {sn : List Bool} {x : AV} {Q : List Bytes}
theorem BfsH.all (b : BfsH h H p m v sn x Q) : ((H[p]? = some (.cells 3 [encRoads v m]) ∧ p < H.length ∧ ∀ hl : p < H.length, H[p] = .cells 3 [encRoads v m]) ∧ H[m]? = some (.map (sM encNum (atM v))) ∧ m < H.length ∧ ∀ hl : m < H.length, H[m] = .map (sM encNum (atM v))) ∧
    H[p + 1]? = some (.cells 1 (sn.map encB)) ∧ p + 1 < H.length ∧ ∀ hl : p + 1 < H.length, H[p + 1] = .cells 1 (sn.map encB) :=
  ⟨b.roads.all, b.seen, (List.getElem?_eq_some_iff.1 b.seen).1, fun _ => (List.getElem?_eq_some_iff.1 b.seen).2⟩
theorem BfsH.more (b : BfsH h H p m v sn x Q) (g : AHeap) : BfsH h (H ++ g) p m v sn x Q :=
  ⟨b.roads.more g, by rw [List.getElem?_append_left b.all.2.2.1]; exact b.seen, b.queue.more g⟩
theorem BfsH.set (b : BfsH h H p m v sn x Q) (hm : m < p) (sn' : List Bool) : BfsH h (H.set (p + 1) (.cells 1 (sn'.map encB))) p m v sn' x Q :=
  ⟨b.roads.put (lo := p + 1) _ (Nat.le_refl _) (by omega) (by omega), List.getElem?_set_self b.all.2.2.1, b.queue.put (by omega)⟩
theorem BfsH.push (b : BfsH h H p m v sn x Q) (hm : m < p) {lo : Nat} {x' : AV} {Q' : List Bytes} (g : Grow lo H x H') (hl : h.length ≤ lo) (q : Oq 1 (p + 2) H' x' (Q'.map (encQ v))) : BfsH h H' p m v sn x' Q' :=
  ⟨b.roads.grow (lo := p + 2) g b.queue.above (by omega) (by omega) hl, g.keep _ _ b.seen fun off len e => by have := b.queue.above _ _ _ e; omega, q⟩
theorem BfsH.tail (b : BfsH h H p m v sn x Q) {x' : AV} {Q' : List Bytes} (q : Oq 1 (p + 2) H x' (Q'.map (encQ v))) : BfsH h H p m v sn x' Q' := ⟨b.roads, b.seen, q⟩
end
set_option maxHeartbeats 4000000 in
theorem graph_Reaches (n : Net) (s : Bytes) (hp : n.pts.length ≤ 1000) (hl : n.lks.length ≤ 1000) : ACalls Try.prog gl 21 [.agg (encNet n), .str s] h fun x h' => x = .ro ((reachL (validN n) s).map encT) ∧ h' = h := by
  refine ACalls.fresh' (ACalls.body Try.f21 _ mixed Try.func21 rfl rfl (by simp [Try.ntmps21]) ?_)
  have ok := validN_ok n
  simp
  refine callS.any (graph_prepare n hp hl) ?_
  rintro x h1 ⟨m, g, rfl, hh1, hmge, hm⟩
  generalize validN n = v at *
  have hM : MapH h1 m v := ⟨hm⟩
  have hB : ∃ g1, h1 = h ++ g1 := ⟨_, by rw [hh1, List.append_assoc]⟩
  clear hh1 hmge
  have hk := keysOk_num v
  have hl := look_num v
  by_cases q1 : hasPt v.pts s = true
  · have hpos := posN_get q1
    have hpl := posN_lt q1
    have hR := RoadsH.new hM hB
    have hnl : (ptsN v).length ≤ 64 := by rw [ptsN_len]; exact ok.plen
    simp [-keysOk, encRoads, hM.all, hk, hl, q1, hpl]
    refine ⟨by omega, ?_⟩
    obtain ⟨p, hp⟩ : ∃ p, p = h1.length := ⟨_, rfl⟩
    have hml := hM.lt
    have hbl := base_len hB
    have hst := Bfs.start ok q1
    have hH0 : BfsH h (h1 ++ [.cells 3 [encRoads v m], .cells 1 (((List.replicate (ptsN v).length false).set (posN v s) true).map encB), .cells 1 [encQ v s]]) p m v ((List.replicate (ptsN v).length false).set (posN v s) true) (.own (p + 2) 0 1) [s] := by
      refine ⟨?_, by simp [hp], ?_⟩
      · have := hR.more [.cells 1 (((List.replicate (ptsN v).length false).set (posN v s) true).map encB), .cells 1 [encQ v s]]
        rw [hp]; simpa using this
      · exact Ls.oq (Ls.own (es := [encQ v s]) (by simp [hp]) (by omega) (by simp) (by simp [encQ]))
    rw [List.map_set, List.map_replicate] at hH0
    rw [← hp]
    generalize hsn : (List.replicate (ptsN v).length false).set (posN v s) true = sn0 at *
    refine AWP.down mixed (fun M fr H => fr 5 = .ptr p 0 0 ∧ fr 8 = .own (p + 1) 0 (ptsN v).length ∧ ∃ x Q sn, fr 9 = x ∧ BfsH h H p m v sn x Q ∧ Bfs v s sn Q ∧ M = sn.count false + Q.length ∧ M ≤ 100) (sn0.count false + 1)
      ⟨by simp, by simp, _, [s], sn0, by simp, hH0, hst, by simp, by have := List.count_le_length (a := false) (l := sn0); have := hst.len; omega⟩ ?_
    clear hH0 hst hR
    rintro M fr H ⟨e5, e8, x, Q, sn, e9, hH, hb, rfl, hM100⟩
    have hxf := hH.queue.rs.fix
    cases Q with
    | nil =>
      have hres := hb.result ok q1
      simp [-appendOk, -appendK, -acells, -AV.solid, -aslice, -sliceTOk, e5, e8, e9, hxf, hH.queue.rs.len2, encRoads, hH.all]
      have hlk := ok.llen
      have hH1 := hH.tail (x' := .nil) (Q' := []) (Ls.nil.oq)
      have hsl := hb.len
      clear hH hxf e9
      refine AWP.up mixed (ptsN v).length (fun i fr H => fr 8 = .own (p + 1) 0 (ptsN v).length ∧ fr 71 = .ro ((ptsN v).map encT) ∧ fr 72 = .int .i64 (ptsN v).length ∧ fr 73 = .int .i64 i ∧ BfsH h H p m v sn .nil [] ∧ ∃ o, fr 13 = o ∧ Ls 1 (p + 2) H o ((seenTo v sn i).map encT)) 0 (by omega)
        ⟨by simp [e8], by simp, by simp, by simp, hH1, .nil, by simp, Ls.nil⟩ ?_
      clear hH1 e5 e8
      rintro i fr H hi ⟨e8, e71, e72, e73, hH, o, e13, hL⟩
      have hf := hL.rs.fix
      have hHl := hH.all.2.2.1
      rcases Nat.lt_or_ge i (ptsN v).length with hlt | hge
      · obtain ⟨t, ht, ht'⟩ := get_lt hlt
        have ew := wrap_succ' (i := i) (by omega)
        obtain ⟨htp, hti⟩ := posN_of ok ht
        have hsg := seenT_get hsl htp
        rw [hti] at hsg
        have hsg' := (List.getElem?_eq_some_iff.1 hsg).2
        have hsl2 : i < sn.length := by omega
        have hns := seenTo_succ (sn := sn) ht
        have hsl3 := seenTo_len v sn i
        simp [-appendOk, -appendK, -acells, -AV.solid, e8, e71, e72, e73, e13, hlt, ht, ht', hH.all, hsg, hsg', hsl2, hsl, encB, encT, hf]
        refine ⟨fun q => ?_, fun q => ?_⟩
        · refine append_ls (lo := p + 2) (n := 1) (es := (seenTo v sn i).map encT) (ys := [encT t]) (by simpa [encT] using hL.more [.cells 1 [encT t]]) (by simp; omega) (by simp [appOk, encT]) (by simp; omega) ?_
          intro s1 H1 hs1 hg1
          have hs1f := hs1.rs.fix
          have hH0 := hH.more [.cells 1 [encT t]]
          have hH1 : BfsH h H1 p m v sn .nil [] := ⟨hH0.roads.grow (lo := p + 2) (by simpa [encT] using hg1) hL.above (by omega) (by omega) (by omega), (by simpa [encT] using hg1.keep (p + 1) _ (by simpa [encT] using hH0.seen) fun off len e => by have := hL.above _ _ _ e; omega), Ls.nil.oq⟩
          simp [-appendOk, -appendK, -acells, -AV.solid, e8, e71, e72, e73, e13, hs1f, ew]
          exact ⟨i + 1, by omega, by omega, by omega, hH1, by rw [hns, if_pos q]; simpa using hs1⟩
        · simp [-appendOk, -appendK, -acells, -AV.solid, e8, e71, e72, e73, e13, ew]
          exact ⟨i + 1, by omega, by omega, by omega, hH, by rw [hns, if_neg (by simp [q])]; exact hL⟩
      · obtain rfl : i = (ptsN v).length := by omega
        rw [seenTo_all, hres] at hL
        simp [-appendOk, -appendK, -acells, -AV.solid, e8, e71, e72, e73, e13, hf]
        exact ⟨hH.roads.base, hL.frz (by omega) (texts_data _)⟩
    | cons u Q =>
      have hup := hb.qs u List.mem_cons_self
      have rx := Rs.ix Try.prog hH.queue.rs 0 (by omega) (y := encQ v u) (by simp)
      have htl := hH.queue.tail Try.prog (by omega)
      have hrow := rowsR_get (posN_get hup.1)
      have hrl := (List.getElem?_eq_some_iff.1 hrow).1
      have hrow' := (List.getElem?_eq_some_iff.1 hrow).2
      have hrlen := rowOf_len v u
      have hlk := ok.llen
      simp [-appendOk, -appendK, -acells, -AV.solid, -aslice, -sliceTOk, e5, e8, e9, hxf, hH.queue.rs.len2, rx, htl, encQ, encRoads, hH.all, hrow, hrow', hrl]
      have hH1 := hH.tail htl.1
      have hb1 := hb.pop
      refine AWP.up mixed (rowOf v u).length (fun k fr H => fr 5 = .ptr p 0 0 ∧ fr 8 = .own (p + 1) 0 (ptsN v).length ∧ fr 48 = .ro ((rowOf v u).map encRoad) ∧ fr 49 = .int .i64 (rowOf v u).length ∧ fr 50 = .int .i64 k ∧
        ∃ x Q' sn', fr 9 = x ∧ BfsH h H p m v sn' x Q' ∧ BfsM v s sn' Q' u k ∧ sn'.count false + Q'.length = sn.count false + Q.length) 0 (by omega)
        ⟨by simp [e5], by simp [e8], by simp, by simp, by simp, _, Q, sn, by simp, hH1, hb1, rfl⟩ ?_
      clear hH hb hH1 hb1 e5 e8 e9 hxf rx htl hup
      rintro k fr H hk' ⟨e5, e8, e48, e49, e50, x, Q', sn', e9, hH, hb, hc⟩
      have hxf := hH.queue.rs.fix
      have hHl := hH.all.2.2.1
      have hsl := hb.len
      rcases Nat.lt_or_ge k (rowOf v u).length with hlt | hge
      · obtain ⟨r, hr, hr'⟩ := get_lt hlt
        obtain ⟨l, l1, rfl, l3, l4, l5, l6⟩ := rowOf_at ok hr
        have ew := wrap_succ' (i := k) (by omega)
        have hsg := seenT_get hsl l6
        have hsg' := (List.getElem?_eq_some_iff.1 hsg).2
        have hsl2 : posN v l.dst < sn'.length := by rw [hsl]; exact posN_lt l6
        simp [-appendOk, -appendK, -acells, -AV.solid, -aslice, -sliceTOk, e5, e8, e9, e48, e49, e50, hlt, hr, hr', roadOf, hH.all, hsg, hsg', hsl2, hsl, encB, hxf, ew, posN_lt l6]
        refine ⟨fun q => ?_, fun q => ⟨k + 1, by omega, by omega, by omega, Q', sn', by simpa [roadOf] using hH.more [.cells 3 [encRoad (roadOf v l)]], hb.old l1 q, hc⟩⟩
        have hS := (hH.set (by omega) (sn'.set (posN v l.dst) true)).more [.cells 3 [encRoad (roadOf v l)], .cells 1 [encQ v l.dst]]
        rw [List.map_set] at hS
        have hQl : Q'.length ≤ 100 := by simp at hM100; omega
        refine append_oq (lo := p + 2) (n := 1) (es := Q'.map (encQ v)) (ys := [encQ v l.dst]) (by simpa [encQ, encB, roadOf] using hS.queue) (by simp; omega) (by simp [appOk, encQ]) (by simp; omega) ?_
        intro s1 H1 hs1 hg1 _
        have hs1f := hs1.rs.fix
        have hH1 := hS.push (by omega) (x' := s1) (Q' := Q' ++ [l.dst]) (by simpa [encQ, encB, roadOf] using hg1) (by omega) (by simpa using hs1.oq)
        simp [-appendOk, -appendK, -acells, -AV.solid, -aslice, -sliceTOk, e5, e8, e48, e49, e50, hs1f, ew]
        have hun := unseen_set (sn := sn') (i := posN v l.dst) (by rw [hsg, q])
        exact ⟨k + 1, by omega, by omega, by omega, Q' ++ [l.dst], _, hH1, hb.new ok l1, by simp; omega⟩
      · obtain rfl : k = (rowOf v u).length := by omega
        rw [rowOf_nextlen] at hb
        have hb1 := hb.finish ok
        simp [-appendOk, -appendK, -acells, -AV.solid, e5, e8, e9, e48, e49, e50]
        exact ⟨sn'.count false + Q'.length, by omega, Q', sn', hH, hb1, rfl, by simp at hM100; omega⟩
  · simp [-keysOk, encRoads, hM.all, hk, hl, q1]
    rw [reachL, if_neg q1]
    exact ⟨base_more hB _, .nil⟩
theorem graph_Bounds1 (r : TRoad) (b : Nat) (n : Int) (hb : h[b]? = some (.cells 1 [[.int .i64 n]])) : ACalls Try.prog gl 49 [.agg (encRoad r), .ptr b 0 0] h fun x h' => x = .bool (decide (r.to = n)) ∧ h' = h := by
  refine ACalls.data (.bool _) (ACalls.body Try.f49 _ mixed Try.func49 rfl rfl (by simp [Try.ntmps49]) ?_)
  obtain ⟨h1, h2⟩ := List.getElem?_eq_some_iff.1 hb
  simp [hb, h1, h2]
  rfl
def lxB : Nat → Option (List (Nat × Nat)) := fun i => if i = 15 then some [(1, 8), (4, 8), (5, 8), (6, 8)] else none
set_option maxHeartbeats 4000000 in
theorem graph_Bounds (n : Net) (pth : List Bytes) (hp : n.pts.length ≤ 1000) (hl : n.lks.length ≤ 1000) (hpl : pth.length ≤ 1000000) : ACalls Try.prog gl 28 [.agg (encNet n), .ro (pth.map encT)] h fun x h' => x = .tup [.int .i64 (boundsM (validN n) pth).1, .int .i64 (boundsM (validN n) pth).2.1, .int .i64 (boundsM (validN n) pth).2.2] ∧ h' = h := by
  refine ACalls.data (by simp) (ACalls.bodyL lxB Try.f28 _ mixed Try.func28 rfl rfl (by simp [Try.ntmps28]) ?_)
  have ok := validN_ok n
  simp
  refine callS.any (graph_prepare n hp hl) ?_
  rintro x h1 ⟨m, g, rfl, hh1, hmge, hm⟩
  generalize validN n = v at *
  have hM : MapH h1 m v := ⟨hm⟩
  have hB : ∃ g1, h1 = h ++ g1 := ⟨_, by rw [hh1, List.append_assoc]⟩
  clear hh1 hmge
  have hk := keysOk_num v
  have hl := look_num v
  have hR := RoadsH.new hM hB
  obtain ⟨p, hp⟩ : ∃ p, p = h1.length := ⟨_, rfl⟩
  have hml := hM.lt
  have hbl := base_len hB
  simp [encRoads]
  refine ⟨fun e => ?_, fun hne => ?_⟩
  · subst e
    exact ⟨⟨rfl, rfl, rfl⟩, base_more hB _⟩
  · rw [← hp] at hR ⊢
    refine AWP.upL lxB mixed pth.length (fun i fr H => fr 1 = .ro (pth.map encT) ∧ fr 7 = .ptr p 0 0 ∧ fr 23 = .ro (pth.map encT) ∧ fr 24 = .int .i64 pth.length ∧ fr 25 = .int .i64 i ∧ RoadsH h H p m v ∧ ∀ s ∈ upTo pth i, hasPt v.pts s = true) 0 (by omega)
      ⟨by simp, by simp, by simp, by simp, by simp, hR, by simp [upTo]⟩ ?_
    clear hR
    rintro i fr H hi ⟨e1, e7, e23, e24, e25, hR, hall⟩
    have hRl := hR.all.1.2.1
    rcases Nat.lt_or_ge i pth.length with hlt | hge
    · obtain ⟨s, hs, hs'⟩ := get_lt hlt
      have ew := wrap_succ' (i := i) (by omega)
      have hu := upTo_succ hs
      by_cases q : hasPt v.pts s = true
      · simp [-appendOk, -appendK, -acells, -AV.solid, -keysOk, lxB, encRoads, encT, hR.all, hk, hl, q, e1, e7, e23, e24, e25, hlt, hs, hs', ew]
        refine ⟨i + 1, by omega, by omega, by omega, hR, fun t ht => ?_⟩
        rw [hu] at ht
        rcases List.mem_append.1 ht with ht | ht
        · exact hall t ht
        · rw [List.mem_singleton.1 ht]; exact q
      · have hbad := boundsM_bad (v := v) hne ⟨s, List.mem_of_getElem? hs, by simpa using q⟩
        simp [-appendOk, -appendK, -acells, -AV.solid, -keysOk, lxB, encRoads, encT, hR.all, hk, hl, q, e1, e7, e23, e24, e25, hlt, hs, hs']
        rw [hbad]
        exact ⟨⟨rfl, rfl, rfl⟩, hR.base⟩
    · rw [upTo_all hge] at hall
      obtain rfl : i = pth.length := by omega
      obtain ⟨a, l, hal⟩ := List.exists_cons_of_ne_nil hne
      have hbm : boundsM v pth = match wk v a l with | some s => (s.1, s.2, 0) | none => (0, 0, 21) := by
        rw [hal]; exact boundsM_ok (by rw [← hal]; exact hall)
      obtain ⟨W, hW⟩ : ∃ W, W = wk v a l := ⟨_, rfl⟩
      rw [← hW] at hbm
      simp [-appendOk, -appendK, -acells, -AV.solid, -keysOk, lxB, e1, e7, e23, e24, e25]
      refine AWP.upL lxB mixed pth.length (fun i fr H => fr 1 = .ro (pth.map encT) ∧ fr 7 = .ptr p 0 0 ∧ fr 14 = .int .i64 i ∧ RoadsH h H p m v ∧ 1 ≤ i ∧ ∃ low high u, fr 12 = .int .i64 low ∧ fr 13 = .int .i64 high ∧ pth[i - 1]? = some u ∧ W = (wk v u (pth.drop i)).map (fun s => (low + s.1, high + s.2)) ∧ (0 ≤ low ∧ low ≤ 2147483648 * (i : Int)) ∧ (0 ≤ high ∧ high ≤ 2147483648 * (i : Int))) 1 (by rw [hal]; simp)
        ⟨by simp [e1], by simp [e7], by simp, hR, by omega, 0, 0, a, by simp, by simp, by rw [hal]; rfl, ?_, by omega, by omega⟩ ?_
      · rw [hW, hal]
        simp
      clear e1 e7 e23 e24 e25 hR hRl hi hge
      rintro i fr H hi ⟨e1, e7, e14, hR, h1i, low, high, u, e12, e13, hu, hWu, hlo, hhi⟩
      have hRl := hR.all.1.2.1
      rcases Nat.lt_or_ge i pth.length with hlt | hge
      · obtain ⟨t, ht, ht'⟩ := get_lt hlt
        have ew := wrap_succ' (i := i) (by omega)
        have htp := hall t (List.mem_of_getElem? ht)
        have hup := hall u (List.mem_of_getElem? hu)
        have hu' := (List.getElem?_eq_some_iff.1 hu).2
        have hul := (List.getElem?_eq_some_iff.1 hu).1
        have ew1 : IntKind.i64.wrap ((i : Int) - 1) = ((i - 1 : Nat) : Int) := by rw [wrap64_of (by omega) (by omega)]; omega
        have hrow := rowsR_get (posN_get hup)
        have hrl := (List.getElem?_eq_some_iff.1 hrow).1
        have hrow' := (List.getElem?_eq_some_iff.1 hrow).2
        rw [drop_get ht] at hWu
        simp [-appendOk, -appendK, -acells, -AV.solid, -keysOk, lxB, encRoads, encT, hR.all, hk, hl, htp, hup, e1, e7, e12, e13, e14, hlt, ht, ht', hu, hu', hul, ew, ew1, hrow, hrow', hrl]
        refine ⟨by decide, by decide, ?_⟩
        have hrlen := rowOf_len v u
        have hlk := ok.llen
        refine callS.pure _ (fun _ => IndexFunc_Road _ ((rowOf v u).map encRoad) (Rd.ro (by simp)) (by simp; omega) 49 [.ptr H.length 0 0] (fun e => decide (aint (e.getD 0 .junk) = posN v t)) ?_) ?_
        · intro e he g1
          obtain ⟨r, _, rfl⟩ := List.mem_map.1 he
          exact graph_Bounds1 r H.length (posN v t) (by simp)
        · have hR1 := hR.more [.cells 1 [[.int .i64 (posN v t)]]]
          rw [idxI_map encRoad _ (fun r : TRoad => decide (r.to = posN v t)) (fun r => rfl)]
          rcases road_to ok (s := u) htp with ⟨c1, c2⟩ | ⟨k, x, c1, c2, c3⟩
          · have hnone : W = none := by rw [hWu, wk, c2]; rfl
            rw [c1]
            simp [-appendOk, -appendK, -acells, -AV.solid, -keysOk, lxB]
            rw [hbm, hnone]
            exact ⟨⟨rfl, rfl, rfl⟩, hR1.base⟩
          · obtain ⟨m1, _, _⟩ := lkOf_some c3
            obtain ⟨r1, r2, r3⟩ := ok.rng x m1
            have hsome : W = (wk v t (pth.drop (i + 1))).map (fun s => (low + x.min + s.1, high + x.max + s.2)) := by
              rw [hWu, wk, c3]
              cases wk v t (pth.drop (i + 1)) with
              | none => rfl
              | some s => simp [Int.add_assoc]
            have c2' := (List.getElem?_eq_some_iff.1 c2).2
            have c2l := (List.getElem?_eq_some_iff.1 c2).1
            have ew2 : IntKind.i64.wrap (low + x.min) = low + x.min := wrap64_of (by omega) (by omega)
            have ew3 : IntKind.i64.wrap (high + x.max) = high + x.max := wrap64_of (by omega) (by omega)
            have hkn : ¬ ((k : Int) < 0) := by omega
            rw [c1]
            simp [-appendOk, -appendK, -acells, -AV.solid, -keysOk, lxB, e1, e7, e12, e13, e14, hkn, c2, c2', c2l, roadOf, ew, ew2, ew3]
            exact ⟨i + 1, by omega, by omega, by omega, hR1, by omega, t, by simpa using ht, hsome, by omega, by omega⟩
      · obtain rfl : i = pth.length := by omega
        rw [List.drop_length] at hWu
        simp [-appendOk, -appendK, -acells, -AV.solid, -keysOk, lxB, e1, e7, e12, e13, e14]
        rw [hbm, hWu]
        exact ⟨⟨by simp, by simp, by simp⟩, hR.base⟩
set_option maxHeartbeats 4000000 in
theorem ref07_Bounds (n : Net) (pth : List Bytes) (hp : n.pts.length ≤ 1000) (hl : n.lks.length ≤ 1000) (hpl : pth.length ≤ 1000000) : ACalls Try.prog gl 29 [.agg (encNet n), .ro (pth.map encT)] h fun x h' => x = .tup [.int .i64 (boundsM (validN n) pth).1, .int .i64 (boundsM (validN n) pth).2.1, .int .i64 (boundsM (validN n) pth).2.2] ∧ h' = h := by
  refine ACalls.data (by simp) (ACalls.body Try.f29 _ mixed Try.func29 rfl rfl (by simp [Try.ntmps29]) ?_)
  simp
  refine callS.pure _ (fun _ => ref07_valid n hp hl) ?_
  have ok := validN_ok n
  generalize validN n = v at *
  have hlk := ok.llen
  have hpl := ok.plen
  simp
  refine ⟨fun e => ?_, fun hne => ?_⟩
  · subst e; exact ⟨rfl, rfl, rfl⟩
  · refine AWP.up mixed pth.length (fun i fr H => fr 1 = .ro (pth.map encT) ∧ fr 7 = .ptr (h.length + 1) 0 0 ∧ fr 8 = .int .i64 i ∧ H = h ++ [.cells 2 [encNet n], .cells 2 [encNet v]] ∧ ∀ s ∈ upTo pth i, hasPt v.pts s = true) 0 (by omega)
      ⟨by simp, by simp, by simp, by simp, by simp [upTo]⟩ ?_
    rintro i fr H hi ⟨e1, e7, e8, rfl, hall⟩
    rcases Nat.lt_or_ge i pth.length with hlt | hge
    · obtain ⟨s, hs, hs'⟩ := get_lt hlt
      have ew := wrap_succ' (i := i) (by omega)
      have hu := upTo_succ hs
      simp [encT, e1, e7, e8, hlt, hs, hs', ew]
      refine ⟨by decide, ?_⟩
      refine callS.pure _ (fun _ => ref07_place v.pts 64 s (by omega)) ?_
      rw [List.take_of_length_le (by omega)]
      simp [encT, e1, e7, e8, hlt, hs, hs', ew, idxPt_lt]
      refine ⟨fun q => ?_, fun q => ⟨i + 1, by omega, by omega, by omega, fun t ht => ?_⟩⟩
      · rw [boundsM_bad (v := v) hne ⟨s, List.mem_of_getElem? hs, q⟩]
        exact ⟨rfl, rfl, rfl⟩
      · rw [hu] at ht
        rcases List.mem_append.1 ht with ht | ht
        · exact hall t ht
        · rw [List.mem_singleton.1 ht]; exact q
    · rw [upTo_all hge] at hall
      obtain rfl : i = pth.length := by omega
      obtain ⟨a, l, hal⟩ := List.exists_cons_of_ne_nil hne
      have hbm : boundsM v pth = match wk v a l with | some s => (s.1, s.2, 0) | none => (0, 0, 21) := by
        rw [hal]; exact boundsM_ok (by rw [← hal]; exact hall)
      obtain ⟨W, hW⟩ : ∃ W, W = wk v a l := ⟨_, rfl⟩
      rw [← hW] at hbm
      simp [e1, e7, e8]
      refine AWP.up mixed pth.length (fun i fr H => fr 1 = .ro (pth.map encT) ∧ fr 7 = .ptr (h.length + 1) 0 0 ∧ fr 11 = .int .i64 i ∧ H = h ++ [.cells 2 [encNet n], .cells 2 [encNet v]] ∧ 1 ≤ i ∧ ∃ low high u, fr 9 = .int .i64 low ∧ fr 10 = .int .i64 high ∧ pth[i - 1]? = some u ∧ W = (wk v u (pth.drop i)).map (fun s => (low + s.1, high + s.2)) ∧ (0 ≤ low ∧ low ≤ 2147483648 * (i : Int)) ∧ (0 ≤ high ∧ high ≤ 2147483648 * (i : Int))) 1 (by rw [hal]; simp)
        ⟨by simp [e1], by simp [e7], by simp, by simp, by omega, 0, 0, a, by simp, by simp, by rw [hal]; rfl, ?_, by omega, by omega⟩ ?_
      · rw [hW, hal]
        simp
      clear e1 e7 e8 hi hge
      rintro i fr H hi ⟨e1, e7, e11, rfl, h1i, low, high, u, e9, e10, hu, hWu, hlo, hhi⟩
      rcases Nat.lt_or_ge i pth.length with hlt | hge
      · obtain ⟨t, ht, ht'⟩ := get_lt hlt
        have ew := wrap_succ' (i := i) (by omega)
        have hu' := (List.getElem?_eq_some_iff.1 hu).2
        have hul := (List.getElem?_eq_some_iff.1 hu).1
        have ew1 : IntKind.i64.wrap ((i : Int) - 1) = ((i - 1 : Nat) : Int) := by rw [wrap64_of (by omega) (by omega)]; omega
        rw [drop_get ht] at hWu
        simp [e1, e7, e9, e10, e11, hlt]
        refine AWP.up mixed v.lks.length (fun k fr H => fr 1 = .ro (pth.map encT) ∧ fr 7 = .ptr (h.length + 1) 0 0 ∧ fr 11 = .int .i64 i ∧ fr 13 = .int .i64 k ∧ H = h ++ [.cells 2 [encNet n], .cells 2 [encNet v]] ∧ fr 12 = .bool (lkTo v u t k).isSome ∧ fr 9 = .int .i64 (low + ((lkTo v u t k).map (·.min)).getD 0) ∧ fr 10 = .int .i64 (high + ((lkTo v u t k).map (·.max)).getD 0)) 0 (by omega)
          ⟨by simp [e1], by simp [e7], by simp [e11], by simp, by simp, by simp [lkTo_zero], by simp [lkTo_zero, e9], by simp [lkTo_zero, e10]⟩ ?_
        clear e1 e7 e9 e10 e11
        rintro k fr H hk ⟨e1, e7, e11, e13, rfl, e12, e9, e10⟩
        rcases Nat.lt_or_ge k v.lks.length with hltk | hgek
        · obtain ⟨x, hx, hx'⟩ := get_lt hltk
          have ewk := wrap_succ' (i := k) (by omega)
          obtain ⟨r1, r2, r3⟩ := ok.rng x (List.mem_of_getElem? hx)
          by_cases hm : x.src = u ∧ x.dst = t
          · obtain ⟨rfl, rfl⟩ := hm
            obtain ⟨hn, hs⟩ := lkTo_hit ok hx
            rw [hn] at e9 e10 e12
            have ew2 : IntKind.i64.wrap (low + x.min) = low + x.min := wrap64_of (by omega) (by omega)
            have ew3 : IntKind.i64.wrap (high + x.max) = high + x.max := wrap64_of (by omega) (by omega)
            simp at e9 e10 e12
            simp [encT, e1, e7, e9, e10, e11, e12, e13, hlt, ht, ht', hu, hu', hul, ew1, hltk, hx, hx', ewk, ew2, ew3]
            exact ⟨by decide, k + 1, by omega, by omega, by omega, by rw [hs]; simp⟩
          · have hs := lkTo_miss u t hx hm
            have hm' : x.src = u → ¬ x.dst = t := fun e1 e2 => hm ⟨e1, e2⟩
            simp [encT, e1, e7, e9, e10, e11, e12, e13, hlt, ht, ht', hu, hu', hul, ew1, hltk, hx, hx', ewk]
            exact ⟨by decide, fun c1 c2 => absurd c2 (hm' c1), fun _ => ⟨k + 1, by omega, by omega, by omega, by rw [hs], by rw [hs], by rw [hs]⟩⟩
        · obtain rfl : k = v.lks.length := by omega
          rw [lkTo_all] at e9 e10 e12
          simp [e1, e7, e9, e10, e11, e12, e13, ew]
          refine ⟨fun c => ?_, fun c => ?_⟩
          · have hnone : W = none := by rw [hWu, wk, c]; rfl
            rw [hbm, hnone]
            exact ⟨rfl, rfl, rfl⟩
          · obtain ⟨x, hx⟩ := Option.isSome_iff_exists.1 c
            obtain ⟨m1, _, _⟩ := lkOf_some hx
            obtain ⟨r1, r2, r3⟩ := ok.rng x m1
            have hsome : W = (wk v t (pth.drop (i + 1))).map (fun s => (low + x.min + s.1, high + x.max + s.2)) := by
              rw [hWu, wk, hx]
              cases wk v t (pth.drop (i + 1)) with
              | none => rfl
              | some s => simp [Int.add_assoc]
            rw [hx]
            refine ⟨i + 1, by omega, by omega, by omega, by omega, t, by simpa using ht, hsome, ?_, ?_⟩
            · simp; omega
            · simp; omega
      · obtain rfl : i = pth.length := by omega
        rw [List.drop_length] at hWu
        simp [e1, e7, e9, e10, e11]
        rw [hbm, hWu]
        exact ⟨by simp, by simp, by simp⟩
end Go.Proofs.Ytonpmbppmmaheaa
