/-
  Contracts: groups of readings, the other telling.
-/
import Derived.Test.YtmnmbkcdjpidgaaMergeG
import Derived.Test.YtmnmbkcdjpidgaaInsert
set_option linter.unusedVariables false
set_option linter.unusedSimpArgs false
set_option maxRecDepth 100000
namespace Go.Proofs.Ytmnmbkcdjpidgaa
open Go Go.Abs Go.Toll
variable {gl : Globs} {h : AHeap}

theorem idx_step {gs : List (List TSeen)} {s z : TSeen} {k : Nat} {q2 : List TSeen} (hq : gs[k]? = some (z :: q2)) : idxP (fun i => joinsB (headG (gs.getD i [])) s) k (gs.length - k) =
    if joinsB z s = true then (k : Int) else idxP (fun i => joinsB (headG (gs.getD i [])) s) (k + 1) (gs.length - (k + 1)) := by
  have hk := (List.getElem?_eq_some_iff.1 hq).1
  have e : headG (gs.getD k []) = z := by rw [List.getD_eq_getElem?_getD, hq]; rfl
  rw [show gs.length - k = (gs.length - (k + 1)) + 1 by omega, idxP]
  simp only [e]
theorem merge_put {H0 H H1 : AHeap} {cs : List AV} {gs : List (List TSeen)} {bx k lo : Nat} {c d : AV} {q : List TSeen} {s : TSeen} {o : AObj} (hN : Nest 11 H0.length H (.own bx 0 cs.length) cs (gs.map fun q => q.map encSeen))
    (hNL : NL 11 H0.length H cs (gs.map fun q => q.map encSeen)) (hc : cs[k]? = some c) (hq : gs[k]? = some q) (hd : Ls 11 H0.length H1 d (q.map encSeen ++ [encSeen s])) (hg : Grow lo (H ++ [o]) c H1) (hlo : H0.length ≤ lo)
    (hn : ∀ b off len, d = .own b off len → (H ++ [o]).length ≤ b) (hH : ∃ t, H = H0 ++ t) :
    Nest 11 H0.length (H1.set bx (.cells 1 ((cs.map fun c => [c]).set k [d]))) (.own bx 0 cs.length) (cs.set k d) ((gs.set k (q ++ [s])).map fun q => q.map encSeen) ∧
    NL 11 H0.length (H1.set bx (.cells 1 ((cs.map fun c => [c]).set k [d]))) (cs.set k d) ((gs.set k (q ++ [s])).map fun q => q.map encSeen) ∧ ∃ t, H1.set bx (.cells 1 ((cs.map fun c => [c]).set k [d])) = H0 ++ t := by
  have hk := (List.getElem?_eq_some_iff.1 hc).1
  obtain ⟨hlx, hbx⟩ : H0.length ≤ bx ∧ bx < H.length := by
    rcases hN.out.1 with ⟨e, _⟩ | ⟨b, e, h1, h2⟩
    · cases e
    · injection e with e1; subst e1
      exact ⟨h1, (List.getElem?_eq_some_iff.1 h2).1⟩
  have hlen : (H ++ [o]).length ≤ H1.length := hg.len
  have hms : (gs.set k (q ++ [s])).map (fun q => q.map encSeen) = (gs.map fun q => q.map encSeen).set k (q.map encSeen ++ [encSeen s]) := by
    rw [List.map_set, List.map_append]; rfl
  have hdb : ∀ b off len, d = .own b off len → b ≠ bx ∧ H.length < b := fun b off len e => by
    have := hn b off len e
    simp at this
    omega
  have hd2 : Ls 11 H0.length (H1.set bx (.cells 1 ((cs.map fun c => [c]).set k [d]))) d (q.map encSeen ++ [encSeen s]) := hd.keep' fun b len o e ho => by
    rw [List.getElem?_set_ne (Ne.symm (hdb b _ _ e).1)]; exact ho
  have keep : ∀ b o', H[b]? = some o' → b ≠ bx → (∀ off len, cs[k]? ≠ some (.own b off len)) → (H1.set bx (.cells 1 ((cs.map fun c => [c]).set k [d])))[b]? = some o' := fun b o' hb hne hnc => by
    rw [List.getElem?_set_ne (Ne.symm hne)]
    exact hg.keep b o' (by rw [List.getElem?_append_left (List.getElem?_eq_some_iff.1 hb).1]; exact hb) fun off len e => hnc off len (by rw [hc, e])
  rw [hms]
  refine ⟨hN.put rfl hk hd2.rs (fun b off len e => ⟨?_, (hdb b off len e).1, fun off' len' hm => ?_⟩) keep ?_, hNL.put hN rfl hk hd2 keep, ?_⟩
  · rcases hd.1 with ⟨e1, _⟩ | ⟨b', e1, h1, _⟩
    · rw [e1] at e; cases e
    · rw [e1] at e; injection e with e2; omega
  · have := hN.lt hm
    have := (hdb b off len e).2
    omega
  · simp at hlen
    rw [List.getElem?_set_self (by omega)]
  · obtain ⟨t, rfl⟩ := hH
    obtain ⟨t1, rfl⟩ := hg.base H0 hlo ⟨t ++ [o], by rw [List.append_assoc]⟩
    exact ⟨_, List.set_append_right _ _ hlx⟩
def lxR : Nat → Option (Nat × List (Nat × Nat)) := fun i => if i = 22 then some (14, [(4, 11), (5, 11)]) else none
set_option maxHeartbeats 4000000 in
theorem ref15_Merge (l : List TSeen) (hl : l.length ≤ 1000) (hsh : ∀ s ∈ l, s.short) : ACalls Try.prog gl 18 [.ro (l.map encSeen)] h fun v h' => v = .ro ((mergeG [] (sortS l)).map fun g => [.ro (g.map encSeen)]) ∧ h' = h := by
  refine ACalls.fresh (ACalls.bodyM lxR Try.f18 _ mixed Try.func18 rfl rfl (by simp [Try.ntmps18]) ?_)
  have hadd : ∀ (ds : List TSeen) (z : TSeen), ds.map encSeen ++ [encSeen z] = (ds ++ [z]).map encSeen := fun ds z => by rw [List.map_append]; rfl
  have hadd2 : ∀ (ds es : List TSeen), ds.map encSeen ++ es.map encSeen = (ds ++ es).map encSeen := fun ds es => (List.map_append ..).symm
  simp
  refine AWP.upM lxR mixed l.length (fun i fr h' => fr 0 = .ro (l.map encSeen) ∧ fr 4 = .int .i64 i ∧ ∃ o x g, fr 3 = x ∧ Ls 11 h.length h' x (o.map encSeen) ∧ orderF [] l = orderF o (l.drop i) ∧ o.length ≤ i ∧ (∀ s ∈ o, s.short) ∧ h' = h ++ g) 0 (by omega)
    ⟨by simp, by simp, [], .nil, [], by simp, Ls.nil, by simp, by simp, by simp, by simp⟩ ?_
  · rintro i fr h' hi ⟨e0, e4, o, x, g, e3, hL, hm, hol, hos, rfl⟩
    have hf := hL.rs.fix
    rcases Nat.lt_or_ge i l.length with hlt | hge
    · obtain ⟨s, hs, hs'⟩ := get_lt hlt
      have ew := wrap_succ' (i := i) (by omega)
      rw [drop_get hs, orderF] at hm
      simp [-appendOk, -appendK, e0, e3, e4, hlt, hs, hs', hf]
      refine ⟨fun q1 q2 => ?_, fun q => ?_⟩
      · refine ⟨i + 1, by omega, by omega, by omega, o, hL, ?_, by omega, hos⟩
        rw [hm, if_neg (by simp [groupB, q1, q2])]
      have q' : groupB s = true := by
        by_cases h1 : s.kind = 1 <;> simp [groupB, h1]
        exact q h1
      rw [q', if_pos rfl] at hm
      refine AWP.upM lxR mixed o.length (fun k fr h' => fr 0 = .ro (l.map encSeen) ∧ fr 3 = x ∧ fr 4 = .int .i64 i ∧ fr 5 = .int .i64 k ∧ (∀ j y, j < k → o[j]? = some y → seenCmp y s ≤ 0) ∧ ∃ g2, h' = h ++ (g ++ g2)) 0 (by omega)
        ⟨by simp [e0], by simp [e3], by simp [e4], by simp, by simp, [], by simp⟩ ?_
      clear e0 e3 e4
      rintro k fr h' hk ⟨e0, e3, e4, e5, hle, g2, rfl⟩
      have hL2 := hL.more g2
      rw [List.append_assoc] at hL2
      have cut1 := hL2.rs.cut Try.prog (by omega) none (some (k : Int)) (by simp [sliceOk, loOk, hiOf]; omega)
      have cut2 : ∀ H, Ls 11 h.length H x (o.map encSeen) → Rs 11 H (aslice x (some (k : Int)) none) ((o.drop k).map encSeen) ∧ sliceTOk Try.prog H (.slice 25) x (some (k : Int)) none := fun H hH => by
        have := hH.rs.cut Try.prog (by omega) (some (k : Int)) none (by simp [sliceOk, loOk, hiOf]; omega)
        exact ⟨by have e : ((o.map encSeen).take o.length) = o.map encSeen := List.take_of_length_le (by simp)
                  simpa [hiOf, -aslice, e] using this.1, this.2 25 (by simp) (by simp)⟩
      have sl1 : Rs 11 (h ++ (g ++ g2)) (aslice x none (some (k : Int))) ((o.take k).map encSeen) := by simpa [hiOf, -aslice] using cut1.1
      have sf1 := sl1.fix
      have st1 := cut1.2 25 (by simp) (by simp)
      rcases Nat.lt_or_ge k o.length with hltk | hgek
      · obtain ⟨y, hy, hy'⟩ := get_lt hltk
        have ewk := wrap_succ' (i := k) (by omega)
        have rx := Rs.ix Try.prog hL2.rs k (by omega) (y := encSeen y) (by simp [hy])
        have hlt' : k < (o.map encSeen).length := by simpa using hltk
        simp [-appendOk, -appendK, -aslice, -sliceTOk, lxR, e0, e3, e4, e5, hlt, hs, hs', hf, hltk, hL2.alen, hL2.rs.len2, rx]
        refine ⟨by decide, ?_⟩
        refine callS.pure _ (fun _ => ref13_Compare y s (hos y (List.mem_of_getElem? hy))) ?_
        simp [-appendOk, -appendK, -aslice, -sliceTOk, lxR, e0, e3, e4, e5, hlt, hs, hs', hf, hltk, ewk, st1, sf1]
        refine ⟨fun c => ⟨k + 1, by omega, by omega, by omega, ?_⟩, fun c => ?_⟩
        · intro j z hj hz
          rcases Nat.lt_or_ge j k with h1 | h1
          · exact hle j z h1 hz
          · obtain rfl : j = k := by omega
            rw [hy] at hz
            obtain rfl := Option.some.inj hz
            exact c
        · have hst : ∀ z, o[k]? = some z → ¬ seenCmp z s ≤ 0 := fun z hz => by rw [hy] at hz; obtain rfl := Option.some.inj hz; omega
          have hput : putO o s = o.take k ++ s :: o.drop k := putO_at o s k (by omega) hle hst
          refine append_new (lo := h.length) (n := 11) (es := []) (ys := (o.take k).map encSeen) Ls.nil (by simp) (appOk_rs sl1 (by simp) (by simp) (by simp)) (by simp; omega) ?_
          intro s1 h1 hs1 hg1 hn1
          have hs1f := hs1.rs.fix
          have hx1 := hL2.grow hg1 (by simp)
          obtain ⟨t1, rfl⟩ := hg1.base h (by simp) ⟨_, rfl⟩
          simp [-appendOk, -appendK, -aslice, -sliceTOk, lxR, e0, e3, e4, e5, hlt, hs, hs', hf, hs1f]
          have hxb : ∀ b len, x = .own b 0 len → b < (h ++ (g ++ g2)).length := fun b len e => hL2.rs.lt e
          refine append_new (lo := h.length) (n := 11) (es := (o.take k).map encSeen) (ys := [encSeen s]) (by simpa using hs1.more [.cells 11 [encSeen s]]) (by simp) (by simp [appOk]) (by simp; omega) ?_
          intro s2 h2 hs2 hg2 hn2
          have hs2f := hs2.rs.fix
          have hx2 := (hx1.more [.cells 11 [encSeen s]]).grow (by simpa using hg2) (fun b e _ off len e' => by have := hxb _ _ e; have := hn1 _ _ _ e'; omega)
          obtain ⟨t2, rfl⟩ := hg2.base h (by simp) ⟨_, rfl⟩
          have sl2 := cut2 _ hx2
          have sf2 := sl2.1.fix
          simp [-appendOk, -appendK, -aslice, -sliceTOk, lxR, e0, e3, e4, e5, hlt, hs, hs', hf, hs2f, sl2.2, sf2]
          refine append_new (lo := h.length) (n := 11) (es := (o.take k).map encSeen ++ [encSeen s]) (ys := (o.drop k).map encSeen) hs2 (by simp) (appOk_rs sl2.1 (by simp) (by simp) (by simp)) (by simp; omega) ?_
          intro s3 h3 hs3 hg3 hn3
          have hs3f := hs3.rs.fix
          obtain ⟨t3, rfl⟩ := hg3.base h (by simp) ⟨_, rfl⟩
          simp [lxR, e0, e4, hs3f, ew]
          refine ⟨i + 1, by omega, by omega, by omega, putO o s, by rw [hput]; simpa using hs3, hm, by rw [hput]; simp; omega, fun z hz => ?_⟩
          rcases (mem_putO o s z).1 hz with rfl | hz
          · exact hsh z (List.mem_of_getElem? hs)
          · exact hos z hz
      · simp [-appendOk, -appendK, -aslice, -sliceTOk, lxR, e0, e3, e4, e5, hlt, hs, hs', hf, Nat.not_lt.2 hgek, hL2.alen, hL2.rs.len2]
        refine ⟨by decide, ?_⟩
        refine callS.pure (.int .i64 0) (fun hG => absurd hG (by simp)) ?_
        simp [-appendOk, -appendK, -aslice, -sliceTOk, lxR, e0, e3, e4, e5, hlt, hs, hs', hf, st1, sf1]
        have hst : ∀ z, o[k]? = some z → ¬ seenCmp z s ≤ 0 := fun z hz => by have := (List.getElem?_eq_some_iff.1 hz).1; omega
        have hput : putO o s = o.take k ++ s :: o.drop k := putO_at o s k (by omega) hle hst
        refine append_new (lo := h.length) (n := 11) (es := []) (ys := (o.take k).map encSeen) Ls.nil (by simp) (appOk_rs sl1 (by simp) (by simp) (by simp)) (by simp; omega) ?_
        intro s1 h1 hs1 hg1 hn1
        have hs1f := hs1.rs.fix
        have hx1 := hL2.grow hg1 (by simp)
        obtain ⟨t1, rfl⟩ := hg1.base h (by simp) ⟨_, rfl⟩
        simp [-appendOk, -appendK, -aslice, -sliceTOk, lxR, e0, e3, e4, e5, hlt, hs, hs', hf, hs1f]
        have hxb : ∀ b len, x = .own b 0 len → b < (h ++ (g ++ g2)).length := fun b len e => hL2.rs.lt e
        refine append_new (lo := h.length) (n := 11) (es := (o.take k).map encSeen) (ys := [encSeen s]) (by simpa using hs1.more [.cells 11 [encSeen s]]) (by simp) (by simp [appOk]) (by simp; omega) ?_
        intro s2 h2 hs2 hg2 hn2
        have hs2f := hs2.rs.fix
        have hx2 := (hx1.more [.cells 11 [encSeen s]]).grow (by simpa using hg2) (fun b e _ off len e' => by have := hxb _ _ e; have := hn1 _ _ _ e'; omega)
        obtain ⟨t2, rfl⟩ := hg2.base h (by simp) ⟨_, rfl⟩
        have sl2 := cut2 _ hx2
        have sf2 := sl2.1.fix
        simp [-appendOk, -appendK, -aslice, -sliceTOk, lxR, e0, e3, e4, e5, hlt, hs, hs', hf, hs2f, sl2.2, sf2]
        refine append_new (lo := h.length) (n := 11) (es := (o.take k).map encSeen ++ [encSeen s]) (ys := (o.drop k).map encSeen) hs2 (by simp) (appOk_rs sl2.1 (by simp) (by simp) (by simp)) (by simp; omega) ?_
        intro s3 h3 hs3 hg3 hn3
        have hs3f := hs3.rs.fix
        obtain ⟨t3, rfl⟩ := hg3.base h (by simp) ⟨_, rfl⟩
        simp [lxR, e0, e4, hs3f, ew]
        refine ⟨i + 1, by omega, by omega, by omega, putO o s, by rw [hput]; simpa using hs3, hm, by rw [hput]; simp; omega, fun z hz => ?_⟩
        rcases (mem_putO o s z).1 hz with rfl | hz
        · exact hsh z (List.mem_of_getElem? hs)
        · exact hos z hz
    · rw [List.drop_eq_nil_of_le hge] at hm
      simp [-appendOk, -appendK, e0, e3, e4, Nat.not_lt.2 hge, hf]
      have hmo : mergeG [] (sortS l) = mergeG [] o := by rw [← mergeG_kept, ← orderF_all, hm, orderF]
      have hgo : ∀ s ∈ o, groupB s = true := fun s hs => by
        have e : o = sortS (l.filter groupB) := by rw [← orderF_all, hm, orderF]
        rw [e] at hs
        exact (List.mem_filter.1 ((mem_sortR _).1 hs)).2
      rw [hmo]
      clear hm hmo
      have hxb : ∀ b len, x = .own b 0 len → b < (h ++ g).length := fun b len e => hL.rs.lt e
      generalize hH0 : h ++ g = H0 at *
      refine AWP.upM lxR mixed o.length (fun i fr h' => fr 3 = x ∧ fr 8 = .int .i64 i ∧ ∃ cs gs y g', fr 7 = y ∧ Nest 11 H0.length h' y cs (gs.map fun q => q.map encSeen) ∧ NL 11 H0.length h' cs (gs.map fun q => q.map encSeen) ∧ mergeG [] o = mergeG gs (o.drop i) ∧ gs.length ≤ i ∧ (∀ q ∈ gs, q ≠ [] ∧ q.length ≤ i) ∧ h' = H0 ++ g') 0 (by omega)
        ⟨by simp [e3], by simp, [], [], .nil, [], by simp, Nest.nil, NL.nil, by simp, by simp, by simp, by simp⟩ ?_
      clear e0 e3 e4
      rintro i fr h' hi ⟨e3, e8, cs, gs, y, g', e7, hN, hNL, hm, hgl, hgq, rfl⟩
      have hy := hN.rs.fix
      have hL1 := hL.more g'
      rcases Nat.lt_or_ge i o.length with hlt | hge
      · obtain ⟨s, hs, hs'⟩ := get_lt hlt
        have ew := wrap_succ' (i := i) (by omega)
        have rs := Rs.ix Try.prog hL1.rs i (by omega) (y := encSeen s) (by simp [hs])
        rw [drop_get hs, mergeG, if_pos (hgo s (List.mem_of_getElem? hs))] at hm
        have hcl : cs.length = gs.length := by simpa using hN.len
        simp [-appendOk, -appendK, e3, e7, e8, hlt, hf, hL1.rs.len2]
        refine AWP.upM lxR mixed gs.length (fun k fr h' => fr 3 = x ∧ fr 7 = y ∧ fr 8 = .int .i64 i ∧ fr 9 = .int .i64 k ∧ atG gs s = idxP (fun i => joinsB (headG (gs.getD i [])) s) k (gs.length - k) ∧ ∃ g2, h' = H0 ++ (g' ++ g2)) 0 (by omega)
          ⟨by simp [e3], by simp [e7], by simp [e8], by simp, by simp [atG], [], by simp⟩ ?_
        clear e3 e7 e8
        rintro k fr h' hk ⟨e3, e7, e8, e9, hat, g2, rfl⟩
        have hN2 := hN.more g2
        rw [List.append_assoc] at hN2
        have hNL2 := hNL.more g2
        rw [List.append_assoc] at hNL2
        have hL2 := hL.more (g' ++ g2)
        have rs := Rs.ix Try.prog hL2.rs i (by omega) (y := encSeen s) (by simp [hs])
        have hoi : i < (o.map encSeen).length := by simpa using hlt
        rcases Nat.lt_or_ge k gs.length with hltk | hgek
        · obtain ⟨q, hq, hq'⟩ := get_lt hltk
          obtain ⟨c, hc, hc'⟩ := get_lt (l := cs) (i := k) (by omega)
          have ewk := wrap_succ' (i := k) (by omega)
          have rx := Rs.ix Try.prog hN2.rs k (by omega) (y := [c]) (by simp [hc])
          obtain ⟨r1, r2⟩ := hN2.each k c _ hc (by rw [List.getElem?_map, hq]; rfl)
          have r1f := r1.fix
          obtain ⟨hqn, hql⟩ := hgq q (List.mem_of_getElem? hq)
          obtain ⟨z, q2, rfl⟩ := List.exists_cons_of_ne_nil hqn
          have r0 := Rs.ix Try.prog r1 0 (by omega) (y := encSeen z) (by simp)
          have hcc : k < cs.length := by omega
          simp [-appendOk, -appendK, lxR, e3, e7, e8, e9, hf, hy, hltk, hcl, hN2.rs.len2, hL2.rs.len2, rx, rs, r1f, r0, hc, hc']
          refine ⟨by decide, ?_⟩
          refine callS.pure _ (fun _ => ref15_joins z s) ?_
          rw [idx_step hq] at hat
          obtain ⟨bx, rfl, hbx, hbb⟩ : ∃ bx, y = .own bx 0 cs.length ∧ H0.length ≤ bx ∧ (H0 ++ (g' ++ g2))[bx]? = some (.cells 1 (cs.map fun c => [c])) := by
            rcases hN2.out.1 with ⟨_, e⟩ | ⟨bx, e, h1, h2⟩
            · simp at e; subst e; simp at hcc
            · exact ⟨bx, by rw [e]; simp, h1, h2⟩
          have hLc := hNL2 k c _ hc (by rw [List.getElem?_map, hq]; rfl)
          generalize hH : H0 ++ (g' ++ g2) = H at *
          have hbb' := (List.getElem?_eq_some_iff.1 hbb).2
          have hbbl := (List.getElem?_eq_some_iff.1 hbb).1
          simp [-appendOk, -appendK, lxR, e3, e7, e8, e9, hf, hy, hltk, hcl, hL2.rs.len2, rs, r1f, hc, hc', hbb, hbb', hbbl, preOps, ewk]
          refine ⟨fun c1 => ⟨k + 1, by omega, by omega, by omega, by rw [hat, c1]; simp, g2, hH.symm⟩, fun c1 => ⟨fun c2 => by omega, fun c2 => ⟨⟨by decide, by decide⟩, ?_⟩⟩⟩
          rw [c1, if_pos rfl] at hat
          refine append_new (lo := H0.length) (n := 11) (es := (z :: q2).map encSeen) (ys := [encSeen s]) (by simpa using hLc.more [.cells 11 [encSeen s]]) (by rw [← hH]; simp) (by simp [appOk]) (by simp at hql ⊢; omega) ?_
          intro d H1 hd hg1 hn1
          have hdf := hd.rs.fix
          have hbb1 : H1[bx]? = some (.cells 1 (cs.map fun c => [c])) := hg1.keep bx _ (by rw [List.getElem?_append_left hbbl]; exact hbb) (fun off len e => (r2 _ _ _ e).2 _ _ rfl)
          have hbb1' := (List.getElem?_eq_some_iff.1 hbb1).2
          have hbbl1 := (List.getElem?_eq_some_iff.1 hbb1).1
          simp [-appendOk, -appendK, -acells, -AV.solid, lxR, e3, e7, e8, e9, hf, hy, hltk, hcl, rs, r1f, hdf, hc, hc', hbb, hbb', hbbl, hbb1, hbb1', hbbl1, preOps, ew]
          obtain ⟨p1, p2, t, p3⟩ := merge_put hN2 hNL2 hc hq hd (by simpa using hg1) (Nat.le_refl _) (by simpa using hn1) ⟨_, hH.symm⟩
          refine ⟨i + 1, by omega, by omega, by omega, cs.set k d, gs.set k ((z :: q2) ++ [s]), by rw [← hcl]; exact p1, p2, ?_, by simp; omega, fun q hq => ?_, t, p3⟩
          · rw [hm, placeG, hat, if_neg (by omega), Int.toNat_natCast, List.getD_eq_getElem?_getD, hq]; rfl
          · rcases List.mem_or_eq_of_mem_set hq with hq | hq
            · exact ⟨(hgq q hq).1, by have := (hgq q hq).2; omega⟩
            · rw [hq]; simp at hql ⊢; omega
        · simp [-appendOk, -appendK, lxR, e3, e7, e8, e9, hf, hy, Nat.not_lt.2 hgek, hcl, hN2.rs.len2, hL2.rs.len2, rs]
          refine ⟨by decide, ?_⟩
          refine callS.pure (.int .i64 0) (fun hG => absurd hG (by simp)) ?_
          obtain rfl : k = gs.length := by omega
          have hat : atG gs s = -1 := by rw [hat, Nat.sub_self]; rfl
          generalize hH : H0 ++ (g' ++ g2) = H at *
          simp [-appendOk, -appendK, lxR, e3, e7, e8, e9, hf, hy, hcl, hN2.rs.len2, hL2.rs.len2, rs]
          refine append_new (lo := H0.length) (n := 1) (es := cs.map fun c => [c]) (ys := [[.nil]]) (by simpa using hN2.out.more [.cells 1 [[.nil]]]) (by rw [← hH]; simp) (by simp [appOk]) (by simp; omega) ?_
          intro y1 H1 hy1 hg1 hn1
          have hy1' : Ls 1 H0.length H1 y1 ((cs ++ [AV.nil]).map fun c => [c]) := by simpa using hy1
          have hN3 := (hN2.more [.cells 1 [[.nil]]]).add (c := .nil) (r := []) hg1 hy1' Rs.nil (by simp) hn1
          have hNL3 := (hNL2.more [.cells 1 [[.nil]]]).addNil (hN2.more [.cells 1 [[.nil]]]) hg1
          obtain ⟨bx, rfl, hbx, hbb⟩ : ∃ bx, y1 = .own bx 0 (cs ++ [AV.nil]).length ∧ H0.length ≤ bx ∧ H1[bx]? = some (.cells 1 ((cs ++ [AV.nil]).map fun c => [c])) := by
            rcases hy1'.1 with ⟨_, e⟩ | ⟨bx, e, h1, h2⟩
            · simp at e
            · exact ⟨bx, by rw [e]; simp, h1, h2⟩
          have hbb' := (List.getElem?_eq_some_iff.1 hbb).2
          have hbbl := (List.getElem?_eq_some_iff.1 hbb).1
          obtain ⟨t1, ht1⟩ := hg1.base H0 (by omega) ⟨g' ++ (g2 ++ [.cells 1 [[.nil]]]), by rw [← hH]; simp⟩
          have hLx : Ls 11 h.length H1 x (o.map encSeen) := (hL2.more [.cells 1 [[.nil]]]).grow hg1 fun b e _ off len e' => by
            have := hxb _ _ e
            rcases hN2.out.1 with ⟨e1, _⟩ | ⟨b1, e1, h1, _⟩
            · rw [e1] at e'; cases e'
            · rw [e1] at e'; injection e' with e2; omega
          have rs := Rs.ix Try.prog hLx.rs i (by omega) (y := encSeen s) (by simp [hs])
          have hcg : (cs ++ [AV.nil])[gs.length]? = some .nil := by rw [← hcl]; simp
          simp [-appendOk, -appendK, lxR, e3, e8, e9, hf, hcl, hbb, hbb', hbbl, preOps, hLx.rs.len2, rs]
          refine ⟨⟨by decide, by decide⟩, by omega, ?_⟩
          refine append_new (lo := H0.length) (n := 11) (es := []) (ys := [encSeen s]) Ls.nil (by rw [ht1]; simp) (by simp [appOk]) (by simp) ?_
          intro d H2 hd hg2 hn2
          have hdf := hd.rs.fix
          have hbb2 : H2[bx]? = some (.cells 1 ((cs ++ [AV.nil]).map fun c => [c])) := hg2.keep bx _ (by rw [List.getElem?_append_left hbbl]; exact hbb) (by simp)
          have hbb2' := (List.getElem?_eq_some_iff.1 hbb2).2
          have hbbl2 := (List.getElem?_eq_some_iff.1 hbb2).1
          have hmn : (gs ++ [[]]).map (fun q : List TSeen => q.map encSeen) = (gs.map fun q => q.map encSeen) ++ [[]] := by simp
          obtain ⟨p1, p2, t, p3⟩ := merge_put (gs := gs ++ [[]]) (k := gs.length) (q := []) (by rw [hmn]; exact hN3) (by rw [hmn]; exact hNL3) hcg (by simp) hd (by simpa using hg2) (Nat.le_refl _) (by simpa using hn2) ⟨_, ht1⟩
          have hs1 : ((cs ++ [AV.nil]).map fun c => [c]).set gs.length [d] = (cs.map fun c => [c]) ++ [[d]] := by rw [← hcl]; simp
          have hs2 : (cs ++ [AV.nil]).set gs.length d = cs ++ [d] := by rw [← hcl]; simp
          have hs3 : (gs ++ [[]]).set gs.length ([] ++ [s]) = gs ++ [[s]] := by simp
          rw [hs1] at p1 p2 p3
          rw [hs2, hs3] at p1 p2
          simp [-appendOk, -appendK, -acells, -AV.solid, lxR, e3, e8, e9, hf, hdf, hcl, hbb, hbb', hbbl, hbb2, hbb2', hbbl2, preOps, hLx.rs.len2, rs, ew]
          refine ⟨by omega, i + 1, by omega, by omega, by omega, cs ++ [d], gs ++ [[s]], by rw [← hcl]; simpa using p1, p2, ?_, by simp; omega, fun q hq => ?_, t, p3⟩
          · rw [hm, placeG, hat, if_pos (by omega)]
          · rcases List.mem_append.1 hq with hq | hq
            · exact ⟨(hgq q hq).1, by have := (hgq q hq).2; omega⟩
            · rw [List.mem_singleton.1 hq]; simp
      · rw [List.drop_eq_nil_of_le hge, mergeG] at hm
        simp [e3, e7, e8, Nat.not_lt.2 hge, hf, hy, hL1.rs.len2]
        rw [hm]
        subst hH0
        refine ⟨g ++ g', by simp, ?_⟩
        have := hN.frz (m := h.length) (by simp) (fun r hr e he => by
          obtain ⟨q, _, rfl⟩ := List.mem_map.1 hr
          exact encSeen_data q e he)
        rw [List.map_map] at this
        simpa [Function.comp_def] using this
end Go.Proofs.Ytmnmbkcdjpidgaa
