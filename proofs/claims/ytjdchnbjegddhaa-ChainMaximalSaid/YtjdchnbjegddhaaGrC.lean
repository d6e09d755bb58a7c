/-
  Contracts: the best path.
-/
import Derived.Test.YtjdchnbjegddhaaGrB
import Derived.Test.YtjdchnbjegddhaaTollGraph
set_option linter.unusedVariables false
set_option linter.unusedSimpArgs false
set_option maxRecDepth 100000
namespace Go.Proofs.Ytjdchnbjegddhaa
open Go Go.Abs Go.Toll
variable {gl : Globs} {h : AHeap}

theorem graph_less (c d : TC) : ACalls Try.prog gl 70 [.agg (encC c), .agg (encC d)] h fun x h' => x = .bool (cless c d) ∧ h' = h := by
  refine ACalls.data (.bool _) (ACalls.body Try.f70 _ mixed Try.func70 rfl rfl (by simp [Try.ntmps70]) ?_)
  simp [cless]
  by_cases h1 : c.time < d.time <;> by_cases h2 : c.time = d.time <;> simp [h1, h2]
/-- The heap while costs are improved. -/
structure CostH (h H : AHeap) (p m : Nat) (v : Net) (L : List TC) : Prop where
  rr : H[p]? = some (.cells 3 [encRoads v m])
  out : H[p + 1]? = some (.cells 2 (L.map encC))
  ple : h.length ≤ p
  base : ∃ g, H = h ++ g
section
variable {H H' : AHeap} {p m : Nat} {v : Net} {L : List TC}
theorem CostH.all (c : CostH h H p m v L) : (H[p]? = some (.cells 3 [encRoads v m]) ∧ p < H.length ∧ ∀ hl : p < H.length, H[p] = .cells 3 [encRoads v m]) ∧ H[p + 1]? = some (.cells 2 (L.map encC)) ∧ p + 1 < H.length ∧ ∀ hl : p + 1 < H.length, H[p + 1] = .cells 2 (L.map encC) :=
  ⟨⟨c.rr, (List.getElem?_eq_some_iff.1 c.rr).1, fun _ => (List.getElem?_eq_some_iff.1 c.rr).2⟩, c.out, (List.getElem?_eq_some_iff.1 c.out).1, fun _ => (List.getElem?_eq_some_iff.1 c.out).2⟩
theorem CostH.more (c : CostH h H p m v L) (g : AHeap) : CostH h (H ++ g) p m v L :=
  ⟨by rw [List.getElem?_append_left c.all.1.2.1]; exact c.rr, by rw [List.getElem?_append_left c.all.2.2.1]; exact c.out, c.ple, base_more c.base g⟩
theorem CostH.set (c : CostH h H p m v L) (L' : List TC) : CostH h (H.set (p + 1) (.cells 2 (L'.map encC))) p m v L' :=
  ⟨by rw [List.getElem?_set_ne (by omega)]; exact c.rr, List.getElem?_set_self c.all.2.2.1, c.ple, base_set c.base (by have := c.ple; omega) _⟩
end
set_option maxHeartbeats 8000000 in
theorem graph_costs (v : Net) (m : Nat) (b : Bytes) (ok : NetOk v) (hb : hasPt v.pts b = true) : ACalls Try.prog gl 56 [.agg (encRoads v m), .int .i64 (posN v b)] h fun x h' => (∃ L, x = .ro (L.map encC) ∧ Cst v b L) ∧ h' = h := by
  refine ACalls.freshR (ACalls.body Try.f56 _ mixed Try.func56 rfl rfl (by simp [Try.ntmps56]) ?_)
  have hnl : (ptsN v).length ≤ 64 := by rw [ptsN_len]; exact ok.plen
  have hlk := ok.llen
  have hpb := posN_lt hb
  obtain ⟨p, hp⟩ : ∃ p, p = h.length := ⟨_, rfl⟩
  simp [encRoads]
  refine ⟨by omega, ?_⟩
  have hC0 : CostH h (h ++ [.cells 3 [encRoads v m], .cells 2 (List.replicate (ptsN v).length [.int .i64 0, .int .i64 0])]) p m v (initL (ptsN v).length 0) := by
    refine ⟨by simp [hp], ?_, by omega, _, rfl⟩
    rw [initL_zero]
    simp [hp]
  rw [← hp]
  refine AWP.up mixed (ptsN v).length (fun i fr H => fr 1 = .int .i64 (posN v b) ∧ fr 2 = .ptr p 0 0 ∧ fr 5 = .own (p + 1) 0 (ptsN v).length ∧ fr 17 = .int .i64 (ptsN v).length ∧ fr 18 = .int .i64 i ∧ CostH h H p m v (initL (ptsN v).length i)) 0 (by omega)
    ⟨by simp, by simp, by simp, by simp, by simp, by simpa [encRoads] using hC0⟩ ?_
  clear hC0
  rintro i fr H hi ⟨e1, e2, e5, e17, e18, hC⟩
  have hil := initL_len hi
  rcases Nat.lt_or_ge i (ptsN v).length with hlt | hge
  · have ew := wrap_succ' (i := i) (by omega)
    have hg := initL_get hlt
    have hg' := (List.getElem?_eq_some_iff.1 hg).2
    have hs := initL_set hlt
    have hC1 := hC.set (initL (ptsN v).length (i + 1))
    rw [← hs, List.map_set] at hC1
    simp [e1, e2, e5, e17, e18, hlt, hC.all, hil, hg, hg', ew]
    refine ⟨i + 1, by omega, by omega, by omega, ?_⟩
    rw [← hs]
    simpa [tc0] using hC1
  · obtain rfl : i = (ptsN v).length := by omega
    rw [initL_all] at hC
    have hst := CostOk.start ok hb
    have hC1 := hC.set ((List.replicate (ptsN v).length tc0).set (posN v b) ⟨0, 0⟩)
    have hpb' : (List.replicate (ptsN v).length tc0)[posN v b]? = some tc0 := by rw [List.getElem?_replicate, if_pos hpb]
    rw [List.map_set] at hC1
    simp [e1, e2, e5, e17, e18, hC.all, hpb, hpb', tc0]
    have hC2 : CostH h (H.set (p + 1) (.cells 2 ((List.replicate (ptsN v).length [.int .i64 0, .int .i64 (-1)]).set (posN v b) [.int .i64 0, .int .i64 0]))) p m v ((List.replicate (ptsN v).length tc0).set (posN v b) ⟨0, 0⟩) := by
      have e : List.map encC (List.replicate (ptsN v).length tc0) = List.replicate (ptsN v).length [AV.int .i64 0, .int .i64 (-1)] := by rw [List.map_replicate]; rfl
      rw [e] at hC1
      exact hC1
    generalize (List.replicate (ptsN v).length tc0).set (posN v b) ⟨0, 0⟩ = Ls at hst hC2
    refine AWP.down mixed (fun M fr H => fr 2 = .ptr p 0 0 ∧ fr 5 = .own (p + 1) 0 (ptsN v).length ∧ ∃ ch L, fr 7 = .bool ch ∧ CostH h H p m v L ∧ CostOk v b L ∧ Swp0 v ch L M) (2 * muC Ls + 1)
      ⟨by simp [e2], by simp [e5], true, Ls, by simp, hC2, hst, ⟨by simp, by simp⟩⟩ ?_
    clear hC hC1 hC2 hst hil e1 e2 e5 e17 e18 hpb' hi hge
    rintro M fr H ⟨e2, e5, ch, L, e7, hC, hok, ⟨hfx, rfl⟩⟩
    have hll := hok.len
    cases ch with
    | false =>
      simp [-Bool.exists_bool, e2, e5, e7]
      refine ⟨hC.base, _, ?_, L, rfl, hok.opt ok (hfx rfl)⟩
      have := Frz.ownD (n := p) (b := p + 1) (off := 0) (len := L.length) (es' := L.map encC) hC.out (by omega) (by simp) (by simp [List.take_of_length_le]) (by
        intro e he y hy
        obtain ⟨c, _, rfl⟩ := List.mem_map.1 he
        simp at hy
        rcases hy with rfl | rfl <;> simp)
      rwa [hll] at this
    | true =>
      simp [-Bool.exists_bool, e2, e5, e7]
      refine AWP.up mixed (ptsN v).length (fun i fr H => fr 2 = .ptr p 0 0 ∧ fr 5 = .own (p + 1) 0 (ptsN v).length ∧ fr 32 = .int .i64 (ptsN v).length ∧ fr 33 = .int .i64 i ∧ ∃ ch L', fr 7 = .bool ch ∧ CostH h H p m v L' ∧ CostOk v b L' ∧ Swp1 v L ch L' i) 0 (by omega)
        ⟨by simp [e2], by simp [e5], by simp, by simp, false, L, by simp, hC, hok, Swp1.start v L⟩ ?_
      clear hC hok hfx e2 e5 e7 hll
      rintro i fr H hi ⟨e2, e5, e32, e33, ch, L', e7, hC, hok, hw⟩
      have hll := hok.len
      rcases Nat.lt_or_ge i (ptsN v).length with hlt | hge
      · obtain ⟨s, hs, _⟩ := get_lt hlt
        obtain ⟨hsp, hsi⟩ := posN_of ok hs
        have hrow := rowsR_get hs
        have hrl := (List.getElem?_eq_some_iff.1 hrow).1
        have hrow' := (List.getElem?_eq_some_iff.1 hrow).2
        have hrlen := rowOf_len v s
        have ew := wrap_succ' (i := i) (by omega)
        simp [-Bool.exists_bool, encRoads, hC.all, e2, e5, e7, e32, e33, hlt, hrow, hrow', hrl]
        refine AWP.up mixed (rowOf v s).length (fun k fr H => fr 2 = .ptr p 0 0 ∧ fr 5 = .own (p + 1) 0 (ptsN v).length ∧ fr 32 = .int .i64 (ptsN v).length ∧ fr 33 = .int .i64 i ∧ fr 8 = .int .i64 i ∧ fr 40 = .ro ((rowOf v s).map encRoad) ∧ fr 41 = .int .i64 (rowOf v s).length ∧ fr 42 = .int .i64 k ∧ ∃ ch L', fr 7 = .bool ch ∧ CostH h H p m v L' ∧ CostOk v b L' ∧ Swp2 v L ch L' s k) 0 (by omega)
          ⟨by simp [e2], by simp [e5], by simp [e32], by simp [e33], by simp, by simp, by simp, by simp, ch, L', by simp [e7], hC, hok, Swp1.open (by rw [hsi]; exact hw)⟩ ?_
        clear hC hok hw e2 e5 e7 e32 e33 hll
        rintro k fr H hk ⟨e2, e5, e32, e33, e8, e40, e41, e42, ch, L', e7, hC, hok, hw⟩
        have hll := hok.len
        rcases Nat.lt_or_ge k (rowOf v s).length with hltk | hgek
        · obtain ⟨r, hr, hr'⟩ := get_lt hltk
          obtain ⟨x, x1, x2, x3, x4⟩ := rowOf_get hr
          subst x2
          obtain ⟨q1, q2, q3⟩ := ok.ends x x3
          have q4 := posN_lt q2
          obtain ⟨r1, r2, r3⟩ := ok.rng x x3
          have hgd := tcA_get hll q2
          have hgd' := (List.getElem?_eq_some_iff.1 hgd).2
          have hgs := tcA_get hll hsp
          rw [hsi] at hgs
          have hgs' := (List.getElem?_eq_some_iff.1 hgs).2
          have ewk := wrap_succ' (i := k) (by omega)
          have hC1 := hC.more [.cells 3 [encRoad (roadOf v x)], .cells 2 [encC (tcA v L' x.dst)]]
          by_cases hd : (tcA v L' x.dst).pts < 0
          · simp [-Bool.exists_bool, encRoads, hC.all, e2, e5, e7, e8, e32, e33, e40, e41, e42, hltk, hr, hr', roadOf, hgd, hgd', hgs, hgs', hll, q4, hlt, ewk, hd]
            exact ⟨k + 1, by omega, by omega, by omega, L', by simpa [roadOf] using hC1, hok, hw.keep x1 (.inl hd)⟩
          · have hrg := hok.rng ok q2 (by omega)
            have ew2 : IntKind.i64.wrap ((tcA v L' x.dst).time + x.min) = (tcA v L' x.dst).time + x.min := wrap64_of (by omega) (by omega)
            have ew3 : IntKind.i64.wrap ((tcA v L' x.dst).pts + 1) = (tcA v L' x.dst).pts + 1 := wrap64_of (by omega) (by omega)
            have hC3 := hC.more [.cells 3 [encRoad (roadOf v x)], .cells 2 [encC (cAdd (tcA v L' x.dst) x)]]
            have hC4 := (hC.set (L'.set i (cAdd (tcA v L' x.dst) x))).more [.cells 3 [encRoad (roadOf v x)], .cells 2 [encC (cAdd (tcA v L' x.dst) x)]]
            rw [List.map_set] at hC4
            simp [-Bool.exists_bool, encRoads, hC.all, e2, e5, e7, e8, e32, e33, e40, e41, e42, hltk, hr, hr', roadOf, hgd, hgd', hgs, hgs', hll, q4, hlt, ewk, hd, ew2, ew3]
            refine ⟨by decide, ?_⟩
            refine callS.pure (.bool (cless (cAdd (tcA v L' x.dst) x) (tcA v L' s))) (fun _ => graph_less (cAdd (tcA v L' x.dst) x) (tcA v L' s)) ?_
            simp [-Bool.exists_bool, encRoads, hC.all, e2, e5, e7, e8, e32, e33, e40, e41, e42, hltk, hr, hr', roadOf, hgd, hgd', hgs, hgs', hll, q4, hlt, ewk, hd, ew2, ew3]
            refine ⟨fun c => ?_, fun c1 c2 => ⟨k + 1, by omega, by omega, by omega, L', hC3, hok, hw.keep x1 (.inr (by rw [x4]; exact ⟨c1, c2⟩))⟩⟩
            obtain ⟨n1, n2⟩ := hok.step ok x3 (by omega) hb (by rw [x4]; exact c)
            rw [x4, hsi] at n1 n2
            exact ⟨k + 1, by omega, by omega, by omega, L'.set i (cAdd (tcA v L' x.dst) x), hC4, n1, hw.turn n2⟩
        · obtain rfl : k = (rowOf v s).length := by omega
          simp [-Bool.exists_bool, e2, e5, e7, e8, e32, e33, e40, e41, e42, ew]
          exact ⟨i + 1, by omega, by omega, by omega, L', hC, hok, by have := hw.close ok hsp (by rw [rowOf, List.length_map]; exact Nat.le_refl _); rwa [hsi] at this⟩
      · obtain rfl : i = (ptsN v).length := by omega
        simp [-Bool.exists_bool, e2, e5, e7, e32, e33]
        exact ⟨2 * muC L' + ch.toNat, hw.down, L', hC, hok, ⟨fun c x hx => (hw.still c).2 x hx (posN_lt (ok.ends x hx).1), rfl⟩⟩
set_option maxHeartbeats 8000000 in
theorem graph_Shortest (n : Net) (a b : Bytes) (hp : n.pts.length ≤ 1000) (hl : n.lks.length ≤ 1000) : ACalls Try.prog gl 42 [.agg (encNet n), .str a, .str b] h fun x h' => x = bestV (validN n) a b ∧ h' = h := by
  refine ACalls.fresh' (ACalls.body Try.f42 _ mixed Try.func42 rfl rfl (by simp [Try.ntmps42]) ?_)
  have ok := validN_ok n
  simp
  refine callS.any (graph_prepare n hp hl) ?_
  rintro x h1 ⟨m, g, rfl, hh1, hmge, hm⟩
  generalize validN n = v at *
  have hM : MapH h1 m v := ⟨hm⟩
  have hB : ∃ g1, h1 = h ++ g1 := ⟨_, by rw [hh1, List.append_assoc]⟩
  clear hh1 hmge
  have hR := RoadsH.new hM hB
  obtain ⟨p, hp⟩ : ∃ p, p = h1.length := ⟨_, rfl⟩
  have hml := hM.lt
  have hbl := base_len hB
  simp [encRoads]
  refine callS.pure _ (fun _ => graph_find v m a b (hM.more _)) ?_
  simp [encRoads]
  refine ⟨fun q => ?_, fun qa qb => ?_⟩
  · have hnone : bestP v a b = none := by
      unfold bestP
      rw [if_neg]
      rintro ⟨c1, c2⟩
      rcases q with q | q <;> simp_all
    rw [bestV, hnone]
    exact ⟨base_more hB _, .tup' (.cons .nil (.cons (.data _ (by simp)) (.cons (.data _ (by simp)) .nil)))⟩
  · have ea : numOf v a = (posN v a : Int) := by rw [numOf, if_pos qa]
    have eb : numOf v b = (posN v b : Int) := by rw [numOf, if_pos qb]
    rw [ea, eb]
    refine callS.any (graph_costs v m b ok qb) ?_
    rintro x h2 ⟨⟨L, rfl, hC⟩, rfl⟩
    have hll := hC.ok.len
    have hga := tcA_get hll qa
    have hga' := (List.getElem?_eq_some_iff.1 hga).2
    have hpa := posN_lt qa
    have hlk := ok.llen
    simp [encRoads, hga, hga', hll, hpa]
    refine ⟨fun c => ?_, fun c => ?_⟩
    · have hnone : bestP v a b = none := bestP_none ok fun l s h1 h2 => by
        have := (hC.opt l a s qa h1 h2).1
        omega
      rw [bestV, hnone]
      exact ⟨base_more hB _, .tup' (.cons .nil (.cons (.data _ (by simp)) (.cons (.data _ (by simp)) .nil)))⟩
    · rw [← hp] at hR ⊢
      have hsh := hC.short ok qa c
      have hpb := posN_lt qb
      have hR1 := hR.more [.cells 1 [encT a]]
      refine AWP.down mixed (fun M fr H => fr 9 = .ptr p 0 0 ∧ fr 10 = .int .i64 (posN v a) ∧ fr 11 = .int .i64 (posN v b) ∧ fr 13 = .ro (L.map encC) ∧ ∃ o x u, fr 14 = o ∧ fr 15 = .int .i64 (posN v u) ∧ RoadsH h H p m v ∧ Ls 1 (p + 1) H o ((a :: x).map encT) ∧ TWay v a b L x u ∧ M = (tcA v L u).pts.toNat) (tcA v L a).pts.toNat
        ⟨by simp, by simp, by simp, by simp, .own (p + 1) 0 1, [], a, by simp, by simp, by simpa [encRoads, encT] using hR1, Ls.own (es := [encT a]) (by simp [encT, hp]) (by omega) (by simp) (by simp [encT]), TWay.start qa c, rfl⟩ ?_
      clear hR hR1
      rintro M fr H ⟨e9, e10, e11, e13, o, x, u, e14, e15, hR, hL, hW, rfl⟩
      have hf := hL.rs.fix
      have hxl := hW.len
      have hup := posN_lt hW.pt
      have hRl := hR.all.1.2.1
      by_cases hub : u = b
      · subst hub
        have hbest := bestP_some ok qa qb (hW.best ok hC qa)
        simp [-appendOk, -appendK, -acells, -AV.solid, e9, e10, e11, e13, e14, e15, hf, hga, hga', hll, hpa]
        rw [bestV, hbest]
        exact ⟨by decide, hR.base, .tup' (.cons (hL.frz (by omega) (texts_data _)) (.cons (.data _ (by simp)) (.cons (.data _ (by simp)) .nil)))⟩
      · have hne : ¬ (posN v u : Int) = posN v b := fun e => hub (posN_inj ok hW.pt qb (by omega))
        have hrow := rowsR_get (posN_get hW.pt)
        have hrl := (List.getElem?_eq_some_iff.1 hrow).1
        have hrow' := (List.getElem?_eq_some_iff.1 hrow).2
        have hrlen := rowOf_len v u
        have hgu := tcA_get hll hW.pt
        have hgu' := (List.getElem?_eq_some_iff.1 hgu).2
        simp [-appendOk, -appendK, -acells, -AV.solid, encRoads, hR.all, e9, e10, e11, e13, e14, e15, hf, hne, hrow, hrow', hrl]
        refine AWP.up mixed (rowOf v u).length (fun k fr H => fr 9 = .ptr p 0 0 ∧ fr 10 = .int .i64 (posN v a) ∧ fr 11 = .int .i64 (posN v b) ∧ fr 13 = .ro (L.map encC) ∧ fr 14 = o ∧ fr 15 = .int .i64 (posN v u) ∧ fr 50 = .ro ((rowOf v u).map encRoad) ∧ fr 51 = .int .i64 (rowOf v u).length ∧ fr 52 = .int .i64 k ∧
            RoadsH h H p m v ∧ Ls 1 (p + 1) H o ((a :: x).map encT) ∧ ∀ j z, j < k → (lksOf v u)[j]? = some z → ¬ onWay v L z) 0 (by omega)
          ⟨by simp [e9], by simp [e10], by simp [e11], by simp [e13], by simp [e14], by simp [e15], by simp, by simp, by simp, hR, hL, fun j z hj => by omega⟩ ?_
        clear hR hL e9 e10 e11 e13 e14 e15 hRl
        rintro k fr H hk ⟨e9, e10, e11, e13, e14, e15, e50, e51, e52, hR, hL, hno⟩
        have hRl := hR.all.1.2.1
        rcases Nat.lt_or_ge k (rowOf v u).length with hlt | hge
        · obtain ⟨r, hr, hr'⟩ := get_lt hlt
          obtain ⟨y, y1, rfl, y3, y4⟩ := rowOf_get hr
          obtain ⟨q1, q2, q3⟩ := ok.ends y y3
          have q4 := posN_lt q2
          obtain ⟨r1, r2, r3⟩ := ok.rng y y3
          have hgd := tcA_get hll q2
          have hgd' := (List.getElem?_eq_some_iff.1 hgd).2
          have ewk := wrap_succ' (i := k) (by omega)
          have hpd := posN_get q2
          have hpd' := (List.getElem?_eq_some_iff.1 hpd).2
          have hon := onWay_iff (v := v) (L := L) y
          rw [y4] at hon
          have hR1 := hR.more [.cells 3 [encRoad (roadOf v y)], .cells 2 [encC (tcA v L y.dst)]]
          have hL1 := hL.more [.cells 3 [encRoad (roadOf v y)], .cells 2 [encC (tcA v L y.dst)]]
          have hmiss : ¬ onWay v L y → ∀ j z, j < k + 1 → (lksOf v u)[j]? = some z → ¬ onWay v L z := fun hn j z hj hz => by
            rcases Nat.lt_or_ge j k with h1 | h1
            · exact hno j z h1 hz
            · obtain rfl : j = k := by omega
              rw [y1] at hz
              rw [← Option.some.inj hz]; exact hn
          by_cases hd : (tcA v L y.dst).pts < 0
          · have hd' : ¬ 0 ≤ (tcA v L y.dst).pts := by omega
            simp [-appendOk, -appendK, -acells, -AV.solid, encRoads, hR.all, e9, e10, e11, e13, e14, e15, e50, e51, e52, hlt, hr, hr', roadOf, hgd, hgd', hgu, hgu', hll, q4, hup, ewk, hd, hd']
            exact ⟨by decide, k + 1, by omega, by omega, by omega, hR1, hL1, hmiss fun hc => hd' hc.1⟩
          · have hrg := hC.ok.rng ok q2 (by omega)
            have ew2 : IntKind.i64.wrap ((tcA v L y.dst).time + y.min) = (tcA v L y.dst).time + y.min := wrap64_of (by omega) (by omega)
            have ew3 : IntKind.i64.wrap ((tcA v L y.dst).pts + 1) = (tcA v L y.dst).pts + 1 := wrap64_of (by omega) (by omega)
            have hd' : 0 ≤ (tcA v L y.dst).pts := by omega
            simp [-appendOk, -appendK, -acells, -AV.solid, encRoads, hR.all, e9, e10, e11, e13, e14, e15, e50, e51, e52, hlt, hr, hr', roadOf, hgd, hgd', hgu, hgu', hll, q4, hup, ewk, hd, hd', ew2, ew3, hf, encT, hpd, hpd']
            refine ⟨by decide, fun c1 c2 => ?_, fun cc => ⟨k + 1, by omega, by omega, by omega, hR1, hL1, hmiss fun hc => ?_⟩⟩
            · have hyon : onWay v L y := hon.2 ⟨hd', c1, c2⟩
              obtain ⟨hW1, hW2⟩ := hW.step ok hC y1 hyon hno
              refine append_ls (lo := p + 1) (n := 1) (es := (a :: x).map encT) (ys := [encT y.dst]) (by simpa [encT, roadOf] using hL.more [.cells 3 [encRoad (roadOf v y)], .cells 2 [encC (tcA v L y.dst)], .cells 1 [encT y.dst]]) (by simp; omega) (by simp [appOk, encT]) (by simp; omega) ?_
              intro s1 H1 hs1 hg1
              have hs1f := hs1.rs.fix
              have hR2 := (hR.more [.cells 3 [encRoad (roadOf v y)], .cells 2 [encC (tcA v L y.dst)], .cells 1 [encT y.dst]]).grow (by simpa [encT, roadOf] using hg1) hL.above (by omega) (by omega) (by omega)
              simp [-appendOk, -appendK, -acells, -AV.solid, e9, e10, e11, e13, hs1f]
              exact ⟨(tcA v L y.dst).pts.toNat, by omega, x ++ [y.dst], y.dst, rfl, hR2, by simpa [encT] using hs1, hW1, rfl⟩
            · exact cc (hon.1 hc).2.1 (hon.1 hc).2.2
        · exfalso
          obtain ⟨z, z1, z2, z3⟩ := hW.exists ok hC hub
          obtain ⟨j, hj⟩ := List.getElem?_of_mem ((lksOf_mem v u z).2 ⟨z1, z2⟩)
          exact hno j z (by have := lt_of_get hj; rw [rowOf, List.length_map] at hge; omega) hj z3
end Go.Proofs.Ytjdchnbjegddhaa
