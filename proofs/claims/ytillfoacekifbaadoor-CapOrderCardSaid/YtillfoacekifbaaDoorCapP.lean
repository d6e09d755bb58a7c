/-
  Contracts: the program's Apply.
-/
import Derived.Test.YtillfoacekifbaaDoorCapR
import Derived.Test.YtillfoacekifbaaDoorCmp
import Derived.Test.YtillfoacekifbaaDoorCompare
import Derived.Test.YtillfoacekifbaaDoorStableInt
import Derived.Test.YtillfoacekifbaaDoorTollPay
import Derived.Test.YtillfoacekifbaaDoorAbsLast
set_option linter.unusedVariables false
set_option linter.unusedSimpArgs false
set_option maxRecDepth 100000
namespace Go.Proofs.YtillfoacekifbaaDoor
open Go Go.Abs Go.Toll
variable {gl : Globs} {h : AHeap}

theorem cap_Apply1 (ch : List TChg) (bx : Nat) (cv : AV) (hbx : h[bx]? = some (.cells 1 [[cv]])) (hcv : Rs 7 h cv (ch.map encChg)) (i k : Nat) (hi : i < ch.length) (hk : k < ch.length) :
    ACalls Tryd.prog gl 33 [.int .i64 i, .int .i64 k, .ptr bx 0 0] h fun v h' => v = .int .i64 (chgCmp (chD ch i) (chD ch k)) ∧ h' = h := by
  refine ACalls.data (.int _ _) (ACalls.body Tryd.f33 _ mixed Tryd.func33 rfl rfl (by simp [Tryd.ntmps33]) ?_)
  obtain ⟨x, hx, hx'⟩ := get_lt hi
  obtain ⟨y, hy, hy'⟩ := get_lt hk
  rw [chD_get hx, chD_get hy]
  have hi' : i < (ch.map encChg).length := by simpa using hi
  have hk' : k < (ch.map encChg).length := by simpa using hk
  have r := hcv.rd hi'
  have hix : (ch.map encChg)[((i : Nat) : Int).toNat]? = some (encChg x) := by simp [hx]
  have hky : (ch.map encChg)[((k : Nat) : Int).toNat]? = some (encChg y) := by simp [hy]
  have i0 : (0 : Int) ≤ i := by omega
  have k0 : (0 : Int) ≤ k := by omega
  have i1 : (i : Int) < (ch.map encChg).length := by omega
  have k1 : (k : Int) < (ch.map encChg).length := by omega
  simp [hbx, r.core, r.gd, r.iaddrOk, r.icore i0 i1, r.icore k0 k1, r.igd i0 i1, r.igd k0 k1, i0, k0, i1, k1, hi, hk, r.faddrOk i0 i1, r.faddrOk k0 k1, r.fcore i0 i1, r.fcore k0 k1, r.fgd i0 i1, r.fgd k0 k1, r.floadV i0 i1 hix, r.floadV k0 k1 hky, r.floadOk i0 i1 hix, r.floadOk k0 k1 hky]
  refine ⟨by decide, ?_⟩
  refine callS.pure _ (fun _ => cmp_Compare_int x.time y.time) ?_
  simp [hbx, r.core, r.gd, r.iaddrOk, r.icore i0 i1, r.icore k0 k1, r.igd i0 i1, r.igd k0 k1, i0, k0, i1, k1, hi, hk, r.faddrOk i0 i1, r.faddrOk k0 k1, r.fcore i0 i1, r.fcore k0 k1, r.fgd i0 i1, r.fgd k0 k1, r.floadV i0 i1 hix, r.floadV k0 k1 hky, r.floadOk i0 i1 hix, r.floadOk k0 k1 hky]
  refine callS.pure _ (fun _ => cmp_Compare_string x.key y.key) ?_
  simp
  refine callS.pure _ (fun _ => cmp_Or _ [cmpI x.time y.time, cmpS x.key y.key] (Rd.own (b := h.length) (es := [[.int .i64 (cmpI x.time y.time)], [.int .i64 (cmpS x.key y.key)]]) (by simp [cmpI, cmpS]) (by simp)) (by simp)) ?_
  simp [chgCmp, orI]
  split <;> simp_all
theorem cap_add (ms : List (Int × Int × Int)) (m : Nat) (hm : h[m]? = some (.map (ms.map encE))) (k p n v : Int) (hv : IntKind.i64.wrap ((lookE ms k p).getD 0 + n) = v) :
    ACalls Tryd.prog gl 37 [.agg [.map m], .agg [.int .i64 k, .int .i64 p], .int .i64 n] h fun x h' => x = .tup [] ∧ ∃ g, h' = h.set m (.map ((setE ms k p v).map encE)) ++ g := by
  refine ACalls.bodyL (fun i => if i = 1 then some [(3, 7)] else none) Tryd.f37 _ mixed Tryd.func37 rfl rfl (by simp [Tryd.ntmps37]) ?_
  have hl := (List.getElem?_eq_some_iff.1 hm).1
  have hm' := (List.getElem?_eq_some_iff.1 hm).2
  have hq : ∀ (a b : AV) (x y z : Int), encE (x, y, z) = (a, b) → a = .agg [.int .i64 x, .int .i64 y] := fun a b x y z e => by
    injection e with e1 _; exact e1.symm
  simp [hm', hl, alookD_E, aput_E, look_put, aplace_E, aentry_put, hv]
  refine ⟨by decide, fun a b x y z _ e => ?_, fun a b x y z _ e => ?_⟩ <;> obtain rfl := hq a b x y z e <;> simp
theorem chg_mem {l : List TChg} {x : TChg} (h : x ∈ l) (hok : firstI chgErr l = 0) : chgErr x = 0 := firstI_zero.1 hok x h
def lxP : Nat → Option (Nat × List (Nat × Nat)) := fun i => if i = 37 then some (8, []) else none
set_option maxHeartbeats 4000000 in
theorem cap_Apply (hgl : gl 0 = some monthCells) (l : List TCap) (ch : List TChg) (xl xc : AV) (rl : Rs 4 h xl (l.map encCap)) (rc : Rs 7 h xc (ch.map encChg)) (hl : l.length ≤ 2000) (hch : ch.length ≤ 2000) :
    ACalls Tryd.prog gl 19 [xl, xc] h fun v h' => v = .tup [.ro ((if applyErr l ch = 0 then appApply l ch else []).map encN), .int .i64 (applyErr l ch)] ∧ h' = h := by
  refine ACalls.fresh (ACalls.bodyM lxP Tryd.f19 _ mixed Tryd.func19 rfl rfl (by simp [Tryd.ntmps19]) ?_)
  have cl := rl.fix
  have cc := rc.fix
  have rl0 := (rl.append [.cells 1 [[xc]]]).len2
  have rc0 := (rc.append [.cells 1 [[xc]]]).len2
  simp [-AV.solid, -acells, cl, cc, rl0, rc0]
  refine ⟨fun a => ?_, fun a1 a2 => ?_⟩
  · have hE : applyErr l ch = 3 := by rw [applyErr, if_pos (by omega)]
    rw [hE]
    exact .tup' (.cons .nil (.cons (.data _ (by simp)) .nil))
  have hE : applyErr l ch = if firstI capErr l ≠ 0 then firstI capErr l else firstI chgErr ch := by rw [applyErr, if_neg (by omega)]
  refine AWP.upM lxP mixed l.length (fun i fr h' => fr 0 = xl ∧ fr 3 = .ptr h.length 0 0 ∧ fr 30 = xl ∧ fr 31 = .int .i64 l.length ∧ fr 32 = .int .i64 i ∧ firstI capErr l = firstI capErr (l.drop i) ∧ ∃ g, h' = h ++ .cells 1 [[xc]] :: g) 0 (by omega) ⟨by simp, by simp, by simp, by simp, by simp, by simp, [], rfl⟩ ?_
  rintro i fr h' hi ⟨e0, e3, e30, e31, e32, hf, g, rfl⟩
  rcases Nat.lt_or_ge i l.length with hlt | hge
  · obtain ⟨c, hg, hg'⟩ := get_lt hlt
    rw [drop_get hg, firstI] at hf
    have ew := wrap_succ' (i := i) (by omega)
    have rx := Rs.ix Tryd.prog (rl.append (.cells 1 [[xc]] :: g)) (i : Int) (by omega) (y := encCap c) (by simp [hg])
    simp [e0, e3, e30, e31, e32, hlt, ew, cl, cc, rx]
    refine callS.pure _ (fun _ => cap_Check c) ?_
    simp [e0, e3, e30, e31, e32, hlt, ew, cl, cc]
    refine ⟨fun a => ?_, fun a => ⟨i + 1, by omega, by omega, by omega, ?_⟩⟩
    · rw [if_pos a] at hf
      have hE : applyErr l ch = capErr c := by rw [hE, hf, if_pos a]
      rw [hE, if_neg a]
      exact .tup' (.cons .nil (.cons (.data _ (by simp)) .nil))
    · rw [if_neg (by simp [a])] at hf; exact hf
  rw [List.drop_eq_nil_of_le hge, firstI] at hf
  have hcap := hf
  rw [hf] at hE
  have hE : applyErr l ch = firstI chgErr ch := by simpa using hE
  have rcL := fun g => (rc.append g).len2
  have rlL := fun g => (rl.append g).len2
  simp [e0, e3, e30, e31, e32, Nat.not_lt.2 hge, cc, rcL]
  refine ⟨⟨by omega, by omega⟩, ?_⟩
  rw [ordC_zero]
  refine AWP.upM lxP mixed ch.length (fun i fr h' => fr 0 = xl ∧ fr 3 = .ptr h.length 0 0 ∧ fr 9 = .own (h.length + (g.length + 1)) 0 ch.length ∧ fr 45 = xc ∧ fr 46 = .int .i64 ch.length ∧ fr 47 = .int .i64 i ∧ firstI chgErr ch = firstI chgErr (ch.drop i) ∧
    ∃ g2, h' = h ++ .cells 1 [[xc]] :: (g ++ .cells 1 (ordC ch.length i) :: g2)) 0 (by omega) ⟨by simp [e0], by simp [e3], by simp, by simp, by simp, by simp, by simp, [], rfl⟩ ?_
  clear e0 e3 e30 e31 e32 hi hge hf
  rintro i fr h' hi ⟨e0, e3, e9, e45, e46, e47, hf, g2, rfl⟩
  rcases Nat.lt_or_ge i ch.length with hlt | hge
  · obtain ⟨x, hg, hg'⟩ := get_lt hlt
    rw [drop_get hg, firstI] at hf
    have ew := wrap_succ' (i := i) (by omega)
    have rx := fun g => Rs.ix Tryd.prog (rc.append g) (i : Int) (by omega) (y := encChg x) (by simp [hg])
    have rx0 := rx []
    have ol := ordC_len (n := ch.length) (i := i) (by omega)
    have oi := ordC_at (n := ch.length) (i := i) (by omega)
    have oi' := (List.getElem?_eq_some_iff.1 oi).2
    simp [e0, e3, e9, e45, e46, e47, hlt, ew, cl, cc, rx, rx0]
    refine ⟨fun a => ?_, fun a b => ?_⟩
    · have hx : chgErr x = 13 := by
        rw [chgErr, if_pos]
        rw [Bool.eq_false_iff]; intro hh; simp [amountB] at hh; omega
      rw [hx] at hf
      have hE : applyErr l ch = 13 := by rw [hE, hf]; simp
      rw [hE]
      exact .tup' (.cons .nil (.cons (.data _ (by simp)) .nil))
    have ham : ¬ amountB x.cents = false := by simp [amountB]; omega
    refine callS.pure _ (fun _ => cap_Period hgl ⟨[], [], 1, 0⟩ x.time) ?_
    simp [e0, e3, e9, e45, e46, e47, hlt, ew, cl, cc, rx, rx0]
    refine callS.pure _ (fun _ => cap_Period hgl ⟨[], [], 0, 0⟩ x.time) ?_
    simp [e0, e3, e9, e45, e46, e47, hlt, ew, cl, cc, rx, rx0, ol, oi, oi']
    refine ⟨fun c => ?_, fun c d => ?_⟩
    · have hx : chgErr x = 12 := by
        rw [chgErr, if_neg ham, if_pos]
        by_cases ht : isTimeB x.time = true
        · rw [perI_day, perI_month ht] at c
          exact c
        · exact .inl (by simpa using ht)
      rw [hx] at hf
      have hE : applyErr l ch = 12 := by rw [hE, hf]; simp
      rw [hE]
      exact .tup' (.cons .nil (.cons (.data _ (by simp)) .nil))
    · have hx : chgErr x = 0 := by
        have c' : ¬ perI 1 x.time < 0 := by omega
        have d' : ¬ perI 0 x.time < 0 := by omega
        have ht : isTimeB x.time = true := by
          rw [perI_day] at c'; simpa using c'
        rw [perI_month ht] at d'
        rw [chgErr, if_neg ham, if_neg]
        rw [ht]; simpa using d'
      rw [if_neg (by simp [hx])] at hf
      exact ⟨i + 1, by omega, by omega, by simp, hf, by rw [ordC_set hlt]⟩
  obtain rfl : i = ch.length := by omega
  rw [List.drop_eq_nil_of_le (Nat.le_refl _), firstI] at hf
  rw [hf] at hE
  rw [hE, if_pos rfl]
  obtain ⟨hl12, hch24, hcaps, hchgs⟩ := apply_ok hE
  simp [e0, e3, e9, e45, e46, e47]
  have hset : ∀ o, (h ++ AObj.cells 1 [[xc]] :: (g ++ .cells 1 (ordC ch.length ch.length) :: g2)).set (h.length + (g.length + 1)) o = h ++ .cells 1 [[xc]] :: (g ++ o :: g2) := fun o => by simp
  have hs := SortStable_Int (gl := gl) (h := h ++ .cells 1 [[xc]] :: (g ++ .cells 1 (ordC ch.length ch.length) :: g2)) (h.length + (g.length + 1)) ((List.range ch.length).map encNat) ch.length (by simp) (by omega) (by simp) (by
    intro e he
    obtain ⟨k, _, rfl⟩ := List.mem_map.1 he
    exact Elt1.int _ _) 33 [.ptr h.length 0 0] (fun x y => chgCmp (chD ch (toN x)) (chD ch (toN y))) (swo_enc ch) (by
      intro x hx y hy o
      obtain ⟨i, hi, rfl⟩ := List.mem_map.1 hx
      obtain ⟨k, hk, rfl⟩ := List.mem_map.1 hy
      rw [hset, toN_enc, toN_enc]
      exact cap_Apply1 ch h.length xc (by simp) (rc.append _) i k (List.mem_range.1 hi) (List.mem_range.1 hk))
  rw [sort_enc, hset, hset, ← ordC_all] at hs
  refine callS.any hs ?_
  rintro v h' ⟨rfl, rfl⟩
  clear hs hset
  have hG : (g ++ .cells 1 ((ordI ch).map encNat) :: g2)[g.length]? = some (.cells 1 ((ordI ch).map encNat)) := by simp
  have hsr : sortR (ltI ch) (List.range ch.length) = ordI ch := rfl
  rw [hsr]
  generalize g.length = b at *
  generalize (g ++ AObj.cells 1 ((ordI ch).map encNat) :: g2) = G at *
  have hb := (List.getElem?_eq_some_iff.1 hG).1
  have hG' := (List.getElem?_eq_some_iff.1 hG).2
  simp [e0, e3, e9, cc, rcL]
  refine ⟨⟨by omega, by omega⟩, ?_⟩
  have hz : List.replicate ch.length [AV.int .i64 0] = (st0 ch).out.map encN := by simp [st0]
  rw [hz]
  refine AWP.upM lxP mixed ch.length (fun j fr h' => fr 0 = xl ∧ fr 3 = .ptr h.length 0 0 ∧ fr 12 = .own (h.length + (G.length + 1)) 0 ch.length ∧ fr 13 = .ptr (h.length + (G.length + 1 + 1 + 1)) 0 0 ∧ fr 85 = .own (h.length + (b + 1)) 0 ch.length ∧ fr 86 = .int .i64 ch.length ∧ fr 87 = .int .i64 j ∧
    ∃ (s : RSt) (ms : List (Int × Int × Int)) (g3 : List AObj), s = stN l ch j ∧ h' = h ++ .cells 1 [[xc]] :: (G ++ .cells 1 (s.out.map encN) :: .map (ms.map encE) :: .cells 1 [[.map (h.length + (G.length + 1 + 1))]] :: g3) ∧
    MapOk l ms s.paid s.paid 0 ∧ s.out.length = ch.length ∧ Fine l s.paid) 0 (by omega) ⟨by simp [e0], by simp [e3], by simp, by simp, by simp, by simp, by simp, st0 ch, [], [], rfl, by simp, ?_, by simp [st0], ?_⟩ ?_
  · intro i c p _; simp [lookE, st0, sumC]
  · exact fine_nil fun c hc => (hcaps c hc).1
  clear e0 e3 e9 e45 e46 e47
  rintro j fr h' hj ⟨e0, e3, e12, e13, e85, e86, e87, s, ms, g3, hs, rfl, hmap, hol, hfine⟩
  rcases Nat.lt_or_ge j ch.length with hlt | hge
  · obtain ⟨i, hi, hi'⟩ := get_lt (l := ordI ch) (i := j) (by rw [ord_len]; exact hlt)
    have hil := ord_mem.1 (List.mem_of_getElem? hi)
    obtain ⟨x, hx, hx'⟩ := get_lt hil
    have hxm := List.mem_of_getElem? hx
    have hxc := (hchgs x hxm).1
    have hper := perOk_of hE hxm
    have rx := fun g => Rs.ix Tryd.prog (rc.append g) (i : Int) (by omega) (y := encChg x) (by simp [hx])
    have rx0 := rx []
    have hoj : ((ordI ch).map encNat)[j]? = some (encNat i) := by simp [hi]
    have hb0 : ¬ h.length + (b + 1) < h.length := by omega
    have holn : j < (ordI ch).length := by rw [ord_len]; exact hlt
    simp [e0, e3, e12, e13, e85, e86, e87, hlt, cl, cc, rx, rx0, hb, hb0, hG', ord_len, hi, hi', encNat, rlL]
    -- the least of what is left
    refine AWP.upM lxP mixed l.length (fun k fr h' => fr 0 = xl ∧ fr 3 = .ptr h.length 0 0 ∧ fr 12 = .own (h.length + (G.length + 1)) 0 ch.length ∧ fr 13 = .ptr (h.length + (G.length + 1 + 1 + 1)) 0 0 ∧ fr 85 = .own (h.length + (b + 1)) 0 ch.length ∧ fr 86 = .int .i64 ch.length ∧ fr 87 = .int .i64 j ∧
      fr 15 = .int .i64 i ∧ fr 16 = .ptr (h.length + (G.length + (g3.length + 1 + 1 + 1) + 1)) 0 0 ∧ fr 97 = xl ∧ fr 98 = .int .i64 l.length ∧ fr 99 = .int .i64 k ∧
      ∃ (n : Int) (g4 : List AObj), fr 17 = .int .i64 n ∧ okC n ∧ payN l s.paid x x.cents = payN (l.drop k) s.paid x n ∧ h' = h ++ .cells 1 [[xc]] :: (G ++ .cells 1 (s.out.map encN) :: .map (ms.map encE) :: .cells 1 [[.map (h.length + (G.length + 1 + 1))]] :: (g3 ++ .cells 7 [encChg x] :: g4))) 0 (by omega)
      ⟨by simp [e0], by simp [e3], by simp [e12], by simp [e13], by simp [e85], by simp [e86], by simp [e87], by simp, by simp, by simp, by simp, by simp, x.cents, [], by simp, hxc, by simp, by simp⟩ ?_
    clear e0 e3 e12 e13 e85 e86 e87
    rintro k fr h' hk ⟨e0, e3, e12, e13, e85, e86, e87, e15, e16, e97, e98, e99, n, g4, e17, hn, hpay, rfl⟩
    rcases Nat.lt_or_ge k l.length with hltk | hgek
    · obtain ⟨c, hc, hc'⟩ := get_lt hltk
      have hcm := List.mem_of_getElem? hc
      have rk := fun g => Rs.ix Tryd.prog (rl.append g) (k : Int) (by omega) (y := encCap c) (by simp [hc])
      have rk0 := rk []
      have ew := wrap_succ' (i := k) (by omega)
      simp [e0, e3, e12, e13, e85, e86, e87, e15, e16, e17, e97, e98, e99, hltk, cl, cc, rk, rk0]
      refine callS.pure _ (fun _ => cap_Matches c x) ?_
      have hpl : payN (l.drop k) s.paid x n = payN (l.drop (k + 1)) s.paid x (if matchB c x then min n (leftI c s.paid x.time) else n) := by rw [drop_get hc]; rfl
      rw [hpl] at hpay
      rw [leftI_fine hfine hper hcm] at hpay
      have hk0 := hmap k c (perI c.days x.time) hc
      rw [if_neg (by omega)] at hk0
      have hsum := hfine.2 c hcm (perI c.days x.time)
      have hcc := (hcaps c hcm).1
      have hq : ∀ (a b : AV) (x y z : Int), encE (x, y, z) = (a, b) → a = .agg [.int .i64 x, .int .i64 y] := fun a b x y z e => by
        injection e with e1 _; exact e1.symm
      have hw : IntKind.i64.wrap (c.cents - sumC c (perI c.days x.time) s.paid) = c.cents - sumC c (perI c.days x.time) s.paid := wrap64_of (by unfold okC at *; omega) (by unfold okC at *; omega)
      simp [e0, e3, e12, e13, e85, e86, e87, e15, e16, e17, e97, e98, e99, hltk, cl, cc, rk, rk0, ew]
      refine ⟨fun m => ⟨by decide, ?_⟩, fun m => ?_⟩
      · rw [if_pos m] at hpay
        refine callS.pure _ (fun _ => cap_Period hgl c x.time) ?_
        simp [e0, e3, e12, e13, e85, e86, e87, e15, e16, e17, e97, e98, e99, hltk, cl, cc, rk, rk0, ew, alookD_E, hk0, hw]
        refine ⟨fun a b x y z _ e => ?_, k + 1, by omega, by omega, by omega, ?_, hpay⟩
        · obtain rfl := hq a b x y z e; simp
        · unfold okC at *; omega
      · rw [if_neg (by simp [m])] at hpay
        exact ⟨k + 1, by omega, by omega, by omega, hn, hpay⟩
    rw [List.drop_eq_nil_of_le hgek] at hpay
    have hpay : payN l s.paid x x.cents = n := hpay
    simp [e0, e3, e12, e13, e85, e86, e87, e15, e16, e17, e97, e98, e99, Nat.not_lt.2 hgek, cl, cc, rlL]
    -- what is paid is added up
    refine AWP.upM lxP mixed l.length (fun k fr h' => fr 0 = xl ∧ fr 3 = .ptr h.length 0 0 ∧ fr 12 = .own (h.length + (G.length + 1)) 0 ch.length ∧ fr 13 = .ptr (h.length + (G.length + 1 + 1 + 1)) 0 0 ∧ fr 85 = .own (h.length + (b + 1)) 0 ch.length ∧ fr 86 = .int .i64 ch.length ∧ fr 87 = .int .i64 j ∧
      fr 15 = .int .i64 i ∧ fr 16 = .ptr (h.length + (G.length + (g3.length + 1 + 1 + 1) + 1)) 0 0 ∧ fr 122 = xl ∧ fr 123 = .int .i64 l.length ∧ fr 124 = .int .i64 k ∧ fr 17 = .int .i64 n ∧
      ∃ (ms : List (Int × Int × Int)) (g4 : List AObj), MapOk l ms s.paid (s.paid ++ [{ x with cents := n }]) k ∧ h' = h ++ .cells 1 [[xc]] :: (G ++ .cells 1 (s.out.map encN) :: .map (ms.map encE) :: .cells 1 [[.map (h.length + (G.length + 1 + 1))]] :: (g3 ++ .cells 7 [encChg x] :: g4))) 0 (by omega)
      ⟨by simp [e0], by simp [e3], by simp [e12], by simp [e13], by simp [e85], by simp [e86], by simp [e87], by simp [e15], by simp [e16], by simp, by simp, by simp, by simp [e17], ms, g4, ?_, by simp⟩ ?_
    · intro i c p hc
      have := hmap i c p hc
      rw [if_neg (by omega)] at this
      rw [if_neg (by omega)]; exact this
    clear e0 e3 e12 e13 e85 e86 e87 e15 e16 e17 e97 e98 e99 hmap hgek hk
    clear ms g4
    rintro k fr h' hk ⟨e0, e3, e12, e13, e85, e86, e87, e15, e16, e122, e123, e124, e17, ms, g4, hmap, rfl⟩
    have hf2 := fine_step hfine hper hxc.1
    rw [hpay] at hf2
    rcases Nat.lt_or_ge k l.length with hltk | hgek
    · obtain ⟨c, hc, hc'⟩ := get_lt hltk
      have hcm := List.mem_of_getElem? hc
      have rk := fun g => Rs.ix Tryd.prog (rl.append g) (k : Int) (by omega) (y := encCap c) (by simp [hc])
      have rk0 := rk []
      have ew := wrap_succ' (i := k) (by omega)
      have hcc := (hcaps c hcm).1
      simp [e0, e3, e12, e13, e85, e86, e87, e15, e16, e17, e122, e123, e124, hltk, cl, cc, rk, rk0]
      refine callS.pure _ (fun _ => cap_Matches c x) ?_
      simp [e0, e3, e12, e13, e85, e86, e87, e15, e16, e17, e122, e123, e124, hltk, cl, cc, rk, rk0, ew]
      refine ⟨fun m => ⟨by decide, ?_⟩, fun m => ?_⟩
      · simp [preOps, e0, e3, e12, e13, e85, e86, e87, e15, e16, e17, e122, e123, e124, hltk, cl, cc, rk, rk0, ew]
        refine callS.pure _ (fun _ => cap_Period hgl c x.time) ?_
        simp [preOps, e0, e3, e12, e13, e85, e86, e87, e15, e16, e17, e122, e123, e124, hltk, cl, cc, rk, rk0, ew]
        have hk0 := hmap k c (perI c.days x.time) hc
        rw [if_neg (by omega)] at hk0
        have h1 := hfine.2 c hcm (perI c.days x.time)
        have h2 := hf2.2 c hcm (perI c.days x.time)
        have hct : countsB c (perI c.days x.time) { x with cents := n } = true := by
          have m' : matchB c { x with cents := n } = true := m
          simp [countsB, m']
        have h3 : sumC c (perI c.days x.time) (s.paid ++ [{ x with cents := n }]) = sumC c (perI c.days x.time) s.paid + n := by
          rw [sumC_append, sumC_one, if_pos hct]
        refine callS.any (cap_add ms (h.length + (G.length + 1 + 1)) (by simp) k (perI c.days x.time) n (sumC c (perI c.days x.time) (s.paid ++ [{ x with cents := n }])) (by
          rw [hk0, h3]
          exact wrap64_of (by unfold okC at *; omega) (by unfold okC at *; omega))) ?_
        rintro v h' ⟨rfl, g5, rfl⟩
        simp [e0, e3, e12, e13, e85, e86, e87, e15, e16, e17, e122, e123, e124, hltk, cl, cc, rk, rk0, ew]
        refine ⟨k + 1, by omega, by omega, by omega, setE ms k (perI c.days x.time) (sumC c (perI c.days x.time) (s.paid ++ [{ x with cents := n }])), hmap.set hc rfl fun p' hp' => sumC_other ?_, rfl⟩
        rw [Bool.eq_false_iff]
        intro hh
        simp only [countsB, Bool.and_eq_true, decide_eq_true_eq] at hh
        exact hp' hh.2.symm
      · refine ⟨k + 1, by omega, by omega, by omega, ms, hmap.skip hc fun p' => sumC_other ?_, rfl⟩
        have m' : matchB c { x with cents := n } = false := m
        simp [countsB, m']
    have ewj := wrap_succ' (i := j) (by omega)
    have hio : (s.out.map encN)[i]? = some (encN s.out[i]) := by simp [hol, hil]
    have hlo : i < s.out.length := by omega
    simp [e0, e3, e12, e13, e85, e86, e87, e15, e16, e17, e122, e123, e124, Nat.not_lt.2 hgek, cl, cc, ewj, hlo, hol, hil]
    have hnx := stN_succ (l := l) hi hx
    rw [← hs, hpay] at hnx
    refine ⟨j + 1, by omega, by omega, by omega, ms, ?_, ?_, ?_, ?_⟩
    · rw [hnx]
      rw [List.map_set]; exact ⟨rfl, rfl⟩
    · rw [hnx]; exact hmap.done hgek _
    · rw [hnx]; simpa using hol
    · rw [hnx]; exact hf2
  · obtain rfl : j = ch.length := by omega
    simp [e0, e3, e12, e13, e85, e86, e87]
    have hso : s.out = appApply l ch := by rw [hs, stN_all]
    rw [hso] at hol ⊢
    exact .tup' (.cons (Frz.ownD (m := 1) (es := (appApply l ch).map encN) (by simp) (by omega) (by simp; omega) (by rw [List.drop_zero, List.take_of_length_le (by simp; omega)]) (by simp)) (.cons (.data _ (by simp)) .nil))
end Go.Proofs.YtillfoacekifbaaDoor
