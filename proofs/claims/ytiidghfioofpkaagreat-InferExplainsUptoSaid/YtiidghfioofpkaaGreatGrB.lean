/-
  Contracts: the points that can be reached; the durations of a path.
-/
import Derived.Test.YtiidghfioofpkaaGreatGrA
import Derived.Test.YtiidghfioofpkaaGreatIndexRoad
import Derived.Test.YtiidghfioofpkaaGreatAbsLax
import Derived.Test.YtiidghfioofpkaaGreatAbsMore
import Derived.Test.YtiidghfioofpkaaGreatTollGraph
set_option linter.unusedVariables false
set_option linter.unusedSimpArgs false
set_option maxRecDepth 100000
namespace Go.Proofs.YtiidghfioofpkaaGreat
open Go Go.Abs Go.Toll
variable {gl : Globs} {h : AHeap}

def encB (b : Bool) : List AV := [.bool b]
def encQ (v : Net) (s : Bytes) : List AV := [.int .i64 (posN v s)]
theorem encB_len (l : List Bool) : ∀ e ∈ l.map encB, e.length = 1 := by
  intro e he
  obtain ⟨_, _, rfl⟩ := List.mem_map.1 he
  rfl
/-- The heap of a search: the roads, what is seen, the queue. -/
structure BfsH (h H : AHeap) (p m : Nat) (v : Net) (sn : List Bool) (x : AV) (Q : List Bytes) : Prop where
  roads : RoadsH h H p m v
  seen : H[p + 1]? = some (.cells 1 (sn.map encB))
  queue : Oq 1 (p + 2) H x (Q.map (encQ v))
section
variable {H H' : AHeap} {p m : Nat} {v : Net} {sn : List Bool} {x : AV} {Q : List Bytes}
theorem BfsH.all (b : BfsH h H p m v sn x Q) : ((H[p]? = some (.cells 3 [encRoads v m]) ∧ p < H.length ∧ ∀ hl : p < H.length, H[p] = .cells 3 [encRoads v m]) ∧ H[m]? = some (.map (sM encNum (atM v))) ∧ m < H.length ∧ ∀ hl : m < H.length, H[m] = .map (sM encNum (atM v))) ∧
    H[p + 1]? = some (.cells 1 (sn.map encB)) ∧ p + 1 < H.length ∧ ∀ hl : p + 1 < H.length, H[p + 1] = .cells 1 (sn.map encB) :=
  ⟨b.roads.all, b.seen, (List.getElem?_eq_some_iff.1 b.seen).1, fun _ => (List.getElem?_eq_some_iff.1 b.seen).2⟩
theorem BfsH.more (b : BfsH h H p m v sn x Q) (g : AHeap) : BfsH h (H ++ g) p m v sn x Q :=
  ⟨b.roads.more g, by rw [List.getElem?_append_left b.all.2.2.1]; exact b.seen, b.queue.more g⟩
theorem BfsH.set (b : BfsH h H p m v sn x Q) (hm : m < p) (sn' : List Bool) : BfsH h (H.set (p + 1) (.cells 1 (sn'.map encB))) p m v sn' x Q :=
  ⟨b.roads.put (lo := p + 1) _ (Nat.le_refl _) (by omega) (by omega), List.getElem?_set_self b.all.2.2.1, b.queue.put (by omega)⟩
theorem BfsH.push (b : BfsH h H p m v sn x Q) (hm : m < p) {lo : Nat} {x' : AV} {Q' : List Bytes} (g : Grow lo H x H') (hl : h.length ≤ lo) (q : Oq 1 (p + 2) H' x' (Q'.map (encQ v))) : BfsH h H' p m v sn x' Q' :=
  ⟨b.roads.grow (lo := p + 2) g b.queue.above (by omega) (by omega) hl, g.keep _ _ b.seen fun off len e => by have := b.queue.above _ _ _ e; omega, q⟩
theorem BfsH.tail (b : BfsH h H p m v sn x Q) {x' : AV} {Q' : List Bytes} (q : Oq 1 (p + 2) H x' (Q'.map (encQ v))) : BfsH h H p m v sn x' Q' := ⟨b.roads, b.seen, q⟩
end
theorem graph_Bounds1 (r : TRoad) (b : Nat) (n : Int) (hb : h[b]? = some (.cells 1 [[.int .i64 n]])) : ACalls Tryz.prog gl 48 [.agg (encRoad r), .ptr b 0 0] h fun x h' => x = .bool (decide (r.to = n)) ∧ h' = h := by
  refine ACalls.data (.bool _) (ACalls.body Tryz.f48 _ mixed Tryz.func48 rfl rfl (by simp [Tryz.ntmps48]) ?_)
  obtain ⟨h1, h2⟩ := List.getElem?_eq_some_iff.1 hb
  simp [hb, h1, h2]
  rfl
def lxB : Nat → Option (List (Nat × Nat)) := fun i => if i = 15 then some [(1, 8), (4, 8), (5, 8), (6, 8)] else none
set_option maxHeartbeats 4000000 in
theorem graph_Bounds (n : Net) (pth : List Bytes) (hp : n.pts.length ≤ 1000) (hl : n.lks.length ≤ 1000) (hpl : pth.length ≤ 1000000) : ACalls Tryz.prog gl 27 [.agg (encNet n), .ro (pth.map encT)] h fun x h' => x = .tup [.int .i64 (boundsM (validN n) pth).1, .int .i64 (boundsM (validN n) pth).2.1, .int .i64 (boundsM (validN n) pth).2.2] ∧ h' = h := by
  refine ACalls.data (by simp) (ACalls.bodyL lxB Tryz.f27 _ mixed Tryz.func27 rfl rfl (by simp [Tryz.ntmps27]) ?_)
  have ok := validN_ok n
  simp
  refine callS.any (graph_prepare n hp hl) ?_
  rintro x h1 ⟨m, g, rfl, hh1, hmge, hm⟩
  generalize validN n = v at *
  have hM : MapH h1 m v := ⟨hm⟩
  have hB : ∃ g1, h1 = h ++ g1 := ⟨_, by rw [hh1, List.append_assoc]⟩
  clear hh1 hmge
  have hk := keysOk_num v
  have hl := look_num v
  have hR := RoadsH.new hM hB
  obtain ⟨p, hp⟩ : ∃ p, p = h1.length := ⟨_, rfl⟩
  have hml := hM.lt
  have hbl := base_len hB
  simp [encRoads]
  refine ⟨fun e => ?_, fun hne => ?_⟩
  · subst e
    exact ⟨⟨rfl, rfl, rfl⟩, base_more hB _⟩
  · rw [← hp] at hR ⊢
    refine AWP.upL lxB mixed pth.length (fun i fr H => fr 1 = .ro (pth.map encT) ∧ fr 7 = .ptr p 0 0 ∧ fr 23 = .ro (pth.map encT) ∧ fr 24 = .int .i64 pth.length ∧ fr 25 = .int .i64 i ∧ RoadsH h H p m v ∧ ∀ s ∈ upTo pth i, hasPt v.pts s = true) 0 (by omega)
      ⟨by simp, by simp, by simp, by simp, by simp, hR, by simp [upTo]⟩ ?_
    clear hR
    rintro i fr H hi ⟨e1, e7, e23, e24, e25, hR, hall⟩
    have hRl := hR.all.1.2.1
    rcases Nat.lt_or_ge i pth.length with hlt | hge
    · obtain ⟨s, hs, hs'⟩ := get_lt hlt
      have ew := wrap_succ' (i := i) (by omega)
      have hu := upTo_succ hs
      by_cases q : hasPt v.pts s = true
      · simp [-appendOk, -appendK, -acells, -AV.solid, -keysOk, lxB, encRoads, encT, hR.all, hk, hl, q, e1, e7, e23, e24, e25, hlt, hs, hs', ew]
        refine ⟨i + 1, by omega, by omega, by omega, hR, fun t ht => ?_⟩
        rw [hu] at ht
        rcases List.mem_append.1 ht with ht | ht
        · exact hall t ht
        · rw [List.mem_singleton.1 ht]; exact q
      · have hbad := boundsM_bad (v := v) hne ⟨s, List.mem_of_getElem? hs, by simpa using q⟩
        simp [-appendOk, -appendK, -acells, -AV.solid, -keysOk, lxB, encRoads, encT, hR.all, hk, hl, q, e1, e7, e23, e24, e25, hlt, hs, hs']
        rw [hbad]
        exact ⟨⟨rfl, rfl, rfl⟩, hR.base⟩
    · rw [upTo_all hge] at hall
      obtain rfl : i = pth.length := by omega
      obtain ⟨a, l, hal⟩ := List.exists_cons_of_ne_nil hne
      have hbm : boundsM v pth = match wk v a l with | some s => (s.1, s.2, 0) | none => (0, 0, 21) := by
        rw [hal]; exact boundsM_ok (by rw [← hal]; exact hall)
      obtain ⟨W, hW⟩ : ∃ W, W = wk v a l := ⟨_, rfl⟩
      rw [← hW] at hbm
      simp [-appendOk, -appendK, -acells, -AV.solid, -keysOk, lxB, e1, e7, e23, e24, e25]
      refine AWP.upL lxB mixed pth.length (fun i fr H => fr 1 = .ro (pth.map encT) ∧ fr 7 = .ptr p 0 0 ∧ fr 14 = .int .i64 i ∧ RoadsH h H p m v ∧ 1 ≤ i ∧ ∃ low high u, fr 12 = .int .i64 low ∧ fr 13 = .int .i64 high ∧ pth[i - 1]? = some u ∧ W = (wk v u (pth.drop i)).map (fun s => (low + s.1, high + s.2)) ∧ (0 ≤ low ∧ low ≤ 2147483648 * (i : Int)) ∧ (0 ≤ high ∧ high ≤ 2147483648 * (i : Int))) 1 (by rw [hal]; simp)
        ⟨by simp [e1], by simp [e7], by simp, hR, by omega, 0, 0, a, by simp, by simp, by rw [hal]; rfl, ?_, by omega, by omega⟩ ?_
      · rw [hW, hal]
        simp
      clear e1 e7 e23 e24 e25 hR hRl hi hge
      rintro i fr H hi ⟨e1, e7, e14, hR, h1i, low, high, u, e12, e13, hu, hWu, hlo, hhi⟩
      have hRl := hR.all.1.2.1
      rcases Nat.lt_or_ge i pth.length with hlt | hge
      · obtain ⟨t, ht, ht'⟩ := get_lt hlt
        have ew := wrap_succ' (i := i) (by omega)
        have htp := hall t (List.mem_of_getElem? ht)
        have hup := hall u (List.mem_of_getElem? hu)
        have hu' := (List.getElem?_eq_some_iff.1 hu).2
        have hul := (List.getElem?_eq_some_iff.1 hu).1
        have ew1 : IntKind.i64.wrap ((i : Int) - 1) = ((i - 1 : Nat) : Int) := by rw [wrap64_of (by omega) (by omega)]; omega
        have hrow := rowsR_get (posN_get hup)
        have hrl := (List.getElem?_eq_some_iff.1 hrow).1
        have hrow' := (List.getElem?_eq_some_iff.1 hrow).2
        rw [drop_get ht] at hWu
        simp [-appendOk, -appendK, -acells, -AV.solid, -keysOk, lxB, encRoads, encT, hR.all, hk, hl, htp, hup, e1, e7, e12, e13, e14, hlt, ht, ht', hu, hu', hul, ew, ew1, hrow, hrow', hrl]
        refine ⟨by decide, by decide, ?_⟩
        have hrlen := rowOf_len v u
        have hlk := ok.llen
        refine callS.pure _ (fun _ => IndexFunc_Road _ ((rowOf v u).map encRoad) (Rd.ro (by simp)) (by simp; omega) 48 [.ptr H.length 0 0] (fun e => decide (aint (e.getD 0 .junk) = posN v t)) ?_) ?_
        · intro e he g1
          obtain ⟨r, _, rfl⟩ := List.mem_map.1 he
          exact graph_Bounds1 r H.length (posN v t) (by simp)
        · have hR1 := hR.more [.cells 1 [[.int .i64 (posN v t)]]]
          rw [idxI_map encRoad _ (fun r : TRoad => decide (r.to = posN v t)) (fun r => rfl)]
          rcases road_to ok (s := u) htp with ⟨c1, c2⟩ | ⟨k, x, c1, c2, c3⟩
          · have hnone : W = none := by rw [hWu, wk, c2]; rfl
            rw [c1]
            simp [-appendOk, -appendK, -acells, -AV.solid, -keysOk, lxB]
            rw [hbm, hnone]
            exact ⟨⟨rfl, rfl, rfl⟩, hR1.base⟩
          · obtain ⟨m1, _, _⟩ := lkOf_some c3
            obtain ⟨r1, r2, r3⟩ := ok.rng x m1
            have hsome : W = (wk v t (pth.drop (i + 1))).map (fun s => (low + x.min + s.1, high + x.max + s.2)) := by
              rw [hWu, wk, c3]
              cases wk v t (pth.drop (i + 1)) with
              | none => rfl
              | some s => simp [Int.add_assoc]
            have c2' := (List.getElem?_eq_some_iff.1 c2).2
            have c2l := (List.getElem?_eq_some_iff.1 c2).1
            have ew2 : IntKind.i64.wrap (low + x.min) = low + x.min := wrap64_of (by omega) (by omega)
            have ew3 : IntKind.i64.wrap (high + x.max) = high + x.max := wrap64_of (by omega) (by omega)
            have hkn : ¬ ((k : Int) < 0) := by omega
            rw [c1]
            simp [-appendOk, -appendK, -acells, -AV.solid, -keysOk, lxB, e1, e7, e12, e13, e14, hkn, c2, c2', c2l, roadOf, ew, ew2, ew3]
            exact ⟨i + 1, by omega, by omega, by omega, hR1, by omega, t, by simpa using ht, hsome, by omega, by omega⟩
      · obtain rfl : i = pth.length := by omega
        rw [List.drop_length] at hWu
        simp [-appendOk, -appendK, -acells, -AV.solid, -keysOk, lxB, e1, e7, e12, e13, e14]
        rw [hbm, hWu]
        exact ⟨⟨by simp, by simp, by simp⟩, hR.base⟩
set_option maxHeartbeats 4000000 in
theorem ref07_Bounds (n : Net) (pth : List Bytes) (hp : n.pts.length ≤ 1000) (hl : n.lks.length ≤ 1000) (hpl : pth.length ≤ 1000000) : ACalls Tryz.prog gl 36 [.agg (encNet n), .ro (pth.map encT)] h fun x h' => x = .tup [.int .i64 (boundsM (validN n) pth).1, .int .i64 (boundsM (validN n) pth).2.1, .int .i64 (boundsM (validN n) pth).2.2] ∧ h' = h := by
  refine ACalls.data (by simp) (ACalls.body Tryz.f36 _ mixed Tryz.func36 rfl rfl (by simp [Tryz.ntmps36]) ?_)
  simp
  refine callS.pure _ (fun _ => ref07_valid n hp hl) ?_
  have ok := validN_ok n
  generalize validN n = v at *
  have hlk := ok.llen
  have hpl := ok.plen
  simp
  refine ⟨fun e => ?_, fun hne => ?_⟩
  · subst e; exact ⟨rfl, rfl, rfl⟩
  · refine AWP.up mixed pth.length (fun i fr H => fr 1 = .ro (pth.map encT) ∧ fr 7 = .ptr (h.length + 1) 0 0 ∧ fr 8 = .int .i64 i ∧ H = h ++ [.cells 2 [encNet n], .cells 2 [encNet v]] ∧ ∀ s ∈ upTo pth i, hasPt v.pts s = true) 0 (by omega)
      ⟨by simp, by simp, by simp, by simp, by simp [upTo]⟩ ?_
    rintro i fr H hi ⟨e1, e7, e8, rfl, hall⟩
    rcases Nat.lt_or_ge i pth.length with hlt | hge
    · obtain ⟨s, hs, hs'⟩ := get_lt hlt
      have ew := wrap_succ' (i := i) (by omega)
      have hu := upTo_succ hs
      simp [encT, e1, e7, e8, hlt, hs, hs', ew]
      refine ⟨by decide, ?_⟩
      refine callS.pure _ (fun _ => ref07_place v.pts 64 s (by omega)) ?_
      rw [List.take_of_length_le (by omega)]
      simp [encT, e1, e7, e8, hlt, hs, hs', ew, idxPt_lt]
      refine ⟨fun q => ?_, fun q => ⟨i + 1, by omega, by omega, by omega, fun t ht => ?_⟩⟩
      · rw [boundsM_bad (v := v) hne ⟨s, List.mem_of_getElem? hs, q⟩]
        exact ⟨rfl, rfl, rfl⟩
      · rw [hu] at ht
        rcases List.mem_append.1 ht with ht | ht
        · exact hall t ht
        · rw [List.mem_singleton.1 ht]; exact q
    · rw [upTo_all hge] at hall
      obtain rfl : i = pth.length := by omega
      obtain ⟨a, l, hal⟩ := List.exists_cons_of_ne_nil hne
      have hbm : boundsM v pth = match wk v a l with | some s => (s.1, s.2, 0) | none => (0, 0, 21) := by
        rw [hal]; exact boundsM_ok (by rw [← hal]; exact hall)
      obtain ⟨W, hW⟩ : ∃ W, W = wk v a l := ⟨_, rfl⟩
      rw [← hW] at hbm
      simp [e1, e7, e8]
      refine AWP.up mixed pth.length (fun i fr H => fr 1 = .ro (pth.map encT) ∧ fr 7 = .ptr (h.length + 1) 0 0 ∧ fr 11 = .int .i64 i ∧ H = h ++ [.cells 2 [encNet n], .cells 2 [encNet v]] ∧ 1 ≤ i ∧ ∃ low high u, fr 9 = .int .i64 low ∧ fr 10 = .int .i64 high ∧ pth[i - 1]? = some u ∧ W = (wk v u (pth.drop i)).map (fun s => (low + s.1, high + s.2)) ∧ (0 ≤ low ∧ low ≤ 2147483648 * (i : Int)) ∧ (0 ≤ high ∧ high ≤ 2147483648 * (i : Int))) 1 (by rw [hal]; simp)
        ⟨by simp [e1], by simp [e7], by simp, by simp, by omega, 0, 0, a, by simp, by simp, by rw [hal]; rfl, ?_, by omega, by omega⟩ ?_
      · rw [hW, hal]
        simp
      clear e1 e7 e8 hi hge
      rintro i fr H hi ⟨e1, e7, e11, rfl, h1i, low, high, u, e9, e10, hu, hWu, hlo, hhi⟩
      rcases Nat.lt_or_ge i pth.length with hlt | hge
      · obtain ⟨t, ht, ht'⟩ := get_lt hlt
        have ew := wrap_succ' (i := i) (by omega)
        have hu' := (List.getElem?_eq_some_iff.1 hu).2
        have hul := (List.getElem?_eq_some_iff.1 hu).1
        have ew1 : IntKind.i64.wrap ((i : Int) - 1) = ((i - 1 : Nat) : Int) := by rw [wrap64_of (by omega) (by omega)]; omega
        rw [drop_get ht] at hWu
        simp [e1, e7, e9, e10, e11, hlt]
        refine AWP.up mixed v.lks.length (fun k fr H => fr 1 = .ro (pth.map encT) ∧ fr 7 = .ptr (h.length + 1) 0 0 ∧ fr 11 = .int .i64 i ∧ fr 13 = .int .i64 k ∧ H = h ++ [.cells 2 [encNet n], .cells 2 [encNet v]] ∧ fr 12 = .bool (lkTo v u t k).isSome ∧ fr 9 = .int .i64 (low + ((lkTo v u t k).map (·.min)).getD 0) ∧ fr 10 = .int .i64 (high + ((lkTo v u t k).map (·.max)).getD 0)) 0 (by omega)
          ⟨by simp [e1], by simp [e7], by simp [e11], by simp, by simp, by simp [lkTo_zero], by simp [lkTo_zero, e9], by simp [lkTo_zero, e10]⟩ ?_
        clear e1 e7 e9 e10 e11
        rintro k fr H hk ⟨e1, e7, e11, e13, rfl, e12, e9, e10⟩
        rcases Nat.lt_or_ge k v.lks.length with hltk | hgek
        · obtain ⟨x, hx, hx'⟩ := get_lt hltk
          have ewk := wrap_succ' (i := k) (by omega)
          obtain ⟨r1, r2, r3⟩ := ok.rng x (List.mem_of_getElem? hx)
          by_cases hm : x.src = u ∧ x.dst = t
          · obtain ⟨rfl, rfl⟩ := hm
            obtain ⟨hn, hs⟩ := lkTo_hit ok hx
            rw [hn] at e9 e10 e12
            have ew2 : IntKind.i64.wrap (low + x.min) = low + x.min := wrap64_of (by omega) (by omega)
            have ew3 : IntKind.i64.wrap (high + x.max) = high + x.max := wrap64_of (by omega) (by omega)
            simp at e9 e10 e12
            simp [encT, e1, e7, e9, e10, e11, e12, e13, hlt, ht, ht', hu, hu', hul, ew1, hltk, hx, hx', ewk, ew2, ew3]
            exact ⟨by decide, k + 1, by omega, by omega, by omega, by rw [hs]; simp⟩
          · have hs := lkTo_miss u t hx hm
            have hm' : x.src = u → ¬ x.dst = t := fun e1 e2 => hm ⟨e1, e2⟩
            simp [encT, e1, e7, e9, e10, e11, e12, e13, hlt, ht, ht', hu, hu', hul, ew1, hltk, hx, hx', ewk]
            exact ⟨by decide, fun c1 c2 => absurd c2 (hm' c1), fun _ => ⟨k + 1, by omega, by omega, by omega, by rw [hs], by rw [hs], by rw [hs]⟩⟩
        · obtain rfl : k = v.lks.length := by omega
          rw [lkTo_all] at e9 e10 e12
          simp [e1, e7, e9, e10, e11, e12, e13, ew]
          refine ⟨fun c => ?_, fun c => ?_⟩
          · have hnone : W = none := by rw [hWu, wk, c]; rfl
            rw [hbm, hnone]
            exact ⟨rfl, rfl, rfl⟩
          · obtain ⟨x, hx⟩ := Option.isSome_iff_exists.1 c
            obtain ⟨m1, _, _⟩ := lkOf_some hx
            obtain ⟨r1, r2, r3⟩ := ok.rng x m1
            have hsome : W = (wk v t (pth.drop (i + 1))).map (fun s => (low + x.min + s.1, high + x.max + s.2)) := by
              rw [hWu, wk, hx]
              cases wk v t (pth.drop (i + 1)) with
              | none => rfl
              | some s => simp [Int.add_assoc]
            rw [hx]
            refine ⟨i + 1, by omega, by omega, by omega, by omega, t, by simpa using ht, hsome, ?_, ?_⟩
            · simp; omega
            · simp; omega
      · obtain rfl : i = pth.length := by omega
        rw [List.drop_length] at hWu
        simp [e1, e7, e9, e10, e11]
        rw [hbm, hWu]
        exact ⟨by simp, by simp, by simp⟩
end Go.Proofs.YtiidghfioofpkaaGreat
