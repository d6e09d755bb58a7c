/-
  Contracts: groups of readings.
-/
import Derived.Test.YtmnmbkcdjpidgaaSeenR
import Derived.Test.YtmnmbkcdjpidgaaStableSeen
import Derived.Test.YtmnmbkcdjpidgaaTollMerge
set_option linter.unusedVariables false
set_option linter.unusedSimpArgs false
set_option maxRecDepth 100000
namespace Go.Proofs.Ytmnmbkcdjpidgaa
open Go Go.Abs Go.Toll
variable {gl : Globs} {h : AHeap}

theorem score_Merge1 (g : List TSeen) (s : TSeen) (b n p : Nat) (hg : g ≠ []) (hn : n = g.length) (hb : h[b]? = some (.cells 11 (g.map encSeen))) (hp : h[p]? = some (.cells 11 [encSeen s])) :
    ACalls Try.prog gl 35 [.own b 0 n, .ptr p 0 0] h fun v h' => v = .bool (joinsB (headG g) s) ∧ h' = h := by
  refine ACalls.data (.bool _) (ACalls.body Try.f35 _ mixed Try.func35 rfl rfl (by simp [Try.ntmps35]) ?_)
  subst hn
  cases g with
  | nil => exact absurd rfl hg
  | cons x g =>
    simp [hb, hp]
    refine ⟨by decide, ?_⟩
    refine callS.pure _ (fun _ => score_joins x s) ?_
    simp [headG]
theorem IndexFunc_Groups (x : AV) (vs : List AV) (n : Nat) (hn : n = vs.length) (hx : Rs 1 h x (vs.map fun v => [v])) (hl : n ≤ 1000000) (hv : ∀ v ∈ vs, v.core = v ∧ v.gd = true) (f : FuncId) (caps : List AV) (p : Nat → Bool)
    (hp : ∀ i v, vs[i]? = some v → ∀ g, ACalls Try.prog gl f (v :: caps) (h ++ g) fun w h' => w = .bool (p i) ∧ h' = h ++ g) :
    ACalls Try.prog gl 34 [x, .fn (.func f) [] caps] h fun v h' => v = .int .i64 (idxP p 0 n) ∧ h' = h := by
  refine ACalls.data (by simp) (ACalls.body Try.f34 _ mixed Try.func34 rfl rfl (by simp [Try.ntmps34]) ?_)
  have c := hx.fix
  have c2 := hx.len2
  simp [c, c2, ← hn]
  refine AWP.up mixed n (fun i fr h' => fr 0 = x ∧ fr 1 = .fn (.func f) [] caps ∧ fr 7 = .int .i64 n ∧ fr 8 = .int .i64 i ∧ idxP p 0 n = idxP p i (n - i) ∧ ∃ g, h' = h ++ g) 0 (by omega) ⟨by simp, by simp, by simp, by simp, by simp, [], by simp⟩ ?_
  rintro i fr h' hi ⟨e0, e1, e7, e8, hf, g, rfl⟩
  have hx := hx.append g
  rcases Nat.lt_or_ge i n with hlt | hge
  · obtain ⟨v, hg, hg'⟩ := get_lt (l := vs) (i := i) (by omega)
    rw [show n - i = (n - (i + 1)) + 1 by omega, idxP] at hf
    have ew := wrap_succ' (i := i) (by omega)
    have rx := Rs.ix Try.prog hx i (by omega) (y := [v]) (by simp [hg])
    have hv1 := hv v (List.mem_of_getElem? hg)
    simp [e0, e1, e7, e8, hlt, c, rx, hv1]
    refine callS.pure _ (fun _ => hp i v hg g) ?_
    simp [e0, e1, e7, e8, ew]
    refine ⟨fun hpy => by rw [hf, if_pos hpy], fun hpy => ⟨i + 1, by omega, by omega, by simp, by rw [hf, if_neg (by rw [hpy]; simp)]⟩⟩
  · obtain rfl : i = n := by omega
    rw [Nat.sub_self] at hf
    simp [e0, e1, e7, e8, hf, idxP]
def lxG : Nat → Option (Nat × List (Nat × Nat)) := fun i => if i = 11 then some (11, [(4, 8), (5, 8)]) else none
set_option maxHeartbeats 4000000 in
theorem score_Merge (l : List TSeen) (hl : l.length ≤ 1000) : ACalls Try.prog gl 17 [.ro (l.map encSeen)] h fun v h' => v = .ro ((mergeG [] (sortS l)).map fun g => [.ro (g.map encSeen)]) ∧ h' = h := by
  refine ACalls.fresh (ACalls.bodyM lxG Try.f17 _ mixed Try.func17 rfl rfl (by simp [Try.ntmps17]) ?_)
  have htk : (l.map encSeen).take l.length = l.map encSeen := List.take_of_length_le (by simp)
  simp [lxG, htk]
  refine ⟨by omega, ?_⟩
  have hs := SortStable_Seen (gl := gl) (h := h ++ [.dead, .cells 11 (l.map encSeen)]) (h.length + 1) (l.map encSeen) l.length (by simp) (by omega) (by simp) (by simp) 33 [] (fun x y => seenCmp (decS x) (decS y)) swo_decS (by
    intro a ha b hb o
    obtain ⟨a, _, rfl⟩ := List.mem_map.1 ha
    obtain ⟨b, _, rfl⟩ := List.mem_map.1 hb
    exact detect_Compare a b)
  rw [sortS_map] at hs
  simp at hs
  refine callS.any hs ?_
  rintro v h' ⟨rfl, rfl⟩
  have hSl := sortS_len l
  generalize sortS l = S at *
  clear hs htk
  obtain ⟨n, hn⟩ : ∃ n, n = S.length := ⟨_, rfl⟩
  simp [← hSl, ← hn]
  refine AWP.upM lxG mixed n (fun i fr h' => fr 13 = .own (h.length + 1) 0 n ∧ fr 14 = .int .i64 n ∧ fr 15 = .int .i64 i ∧ ∃ bs gs g, mergeG [] S = mergeG gs (S.drop i) ∧ gs.length ≤ i ∧ (∀ q ∈ gs, q.length ≤ i) ∧ h' = h ++ .dead :: .cells 11 (S.map encSeen) :: g ∧ Grp (h.length + 2) h' (fr 4) bs gs) 0 (by omega)
    ⟨by simp, by simp, by simp, [], [], [], by simp, by simp, by simp, by simp, by simp; exact Grp.nil _ _⟩ ?_
  rintro i fr h' hi ⟨e13, e14, e15, bs, gs, g, hm, hgl, hgm, hh, hG⟩
  obtain ⟨x, e4⟩ : ∃ x, fr 4 = x := ⟨_, rfl⟩
  rw [e4] at hG
  rcases Nat.lt_or_ge i n with hlt | hge
  · obtain ⟨s, hs, hs'⟩ := get_lt (l := S) (i := i) (by omega)
    have hltS : i < S.length := by omega
    rw [drop_get hs, mergeG] at hm
    have ew := wrap_succ' (i := i) (by omega)
    have hbS : h'[h.length + 1]? = some (.cells 11 (S.map encSeen)) := by rw [hh]; simp
    have hbS' := (List.getElem?_eq_some_iff.1 hbS).2
    have hbSl := (List.getElem?_eq_some_iff.1 hbS).1
    simp [lxG, e13, e14, e15, e4, hlt, hltS, hs, hs', ew, hbS, hbS', hbSl]
    have hG' := hG.more [.cells 11 [encSeen s]]
    have hbig : ∃ t, h' ++ [.cells 11 [encSeen s]] = h ++ .dead :: .cells 11 (S.map encSeen) :: t := ⟨_, by rw [hh, List.append_assoc]; rfl⟩
    refine ⟨by omega, fun q1 q2 => ?_, fun q => ?_⟩
    · refine ⟨i + 1, by omega, by omega, by omega, bs, gs, ?_, by omega, fun q hq => by have := hgm q hq; omega, hbig, hG'⟩
      rw [hm, if_neg (by simp [groupB, q1, q2])]
    · have q' : groupB s = true := by
        by_cases h1 : s.kind = 1 <;> simp [groupB, h1]
        exact q h1
      rw [q', if_pos rfl] at hm
      have hx : x.core = x ∧ x.gd = true := by rcases hG.out with ⟨rfl, _⟩ | ⟨bx, rfl, _⟩ <;> exact ⟨rfl, rfl⟩
      have hvs : (bs.zipWith (fun b (g : List TSeen) => AV.own b 0 g.length) gs).map (fun v => [v]) = cellsG bs gs := by rw [cellsG, List.map_zipWith]
      have hvl : gs.length = (bs.zipWith (fun b (g : List TSeen) => AV.own b 0 g.length) gs).length := by simp [hG.len]
      have hatv : ∀ (i : Nat) (v : AV), (bs.zipWith (fun b (g : List TSeen) => AV.own b 0 g.length) gs)[i]? = some v → ∃ b g, bs[i]? = some b ∧ gs[i]? = some g ∧ v = .own b 0 g.length := by
        intro i v e
        rw [List.getElem?_zipWith] at e
        split at e
        · rename_i b g h1 h2
          exact ⟨_, _, h1, h2, (Option.some.inj e).symm⟩
        · cases e
      have hRs : Rs 1 (h' ++ [.cells 11 [encSeen s]]) x ((bs.zipWith (fun b (g : List TSeen) => AV.own b 0 g.length) gs).map fun v => [v]) := by
        rw [hvs]
        rcases hG'.out with ⟨rfl, e⟩ | ⟨bx, rfl, _, _, e⟩
        · subst e
          simp [cellsG]; exact Rs.nil
        · rw [← cellsG_len hG.len]
          exact Rs.own (b := bx) e (by
            rw [← hvs]; intro e he
            obtain ⟨v, _, rfl⟩ := List.mem_map.1 he
            rfl)
      simp [hx]
      refine callS.pure _ (fun _ => IndexFunc_Groups x (bs.zipWith (fun b (g : List TSeen) => AV.own b 0 g.length) gs) gs.length hvl hRs (by omega) (fun v hv => by
          obtain ⟨k, hk⟩ := List.getElem?_of_mem hv
          obtain ⟨b, g, _, _, rfl⟩ := hatv k v hk
          exact ⟨rfl, rfl⟩) 35 [AV.ptr h'.length 0 0] (fun i => joinsB (headG (gs.getD i [])) s) (fun k v hk g2 => by
          obtain ⟨b, g, h1, h2, rfl⟩ := hatv k v hk
          obtain ⟨h3, h4, h5⟩ := (hG'.more g2).each k b g h1 h2
          have := score_Merge1 (gl := gl) g s b g.length h'.length h3 rfl h5 (by simp)
          rwa [List.getD_eq_getElem?_getD, h2])) ?_
      have hat : idxP (fun i => joinsB (headG (gs.getD i [])) s) 0 gs.length = atG gs s := rfl
      rw [hat]
      have hpre : ∀ (c : Nat) (o : AObj), h.length + 2 ≤ c → ∃ t, h'.set c o = h ++ .dead :: .cells 11 (S.map encSeen) :: t := fun c o hc => by
        obtain ⟨d, rfl⟩ : ∃ d, c = h.length + (d + 2) := ⟨c - h.length - 2, by omega⟩
        exact ⟨g.set d o, by rw [hh, List.set_append, if_neg (by omega)]; simp⟩
      have hpre2 : ∀ H : AHeap, (∃ t, H = h ++ .dead :: .cells 11 (S.map encSeen) :: t) → ∀ (c : Nat) (o : AObj), h.length + 2 ≤ c → ∃ t, H.set c o = h ++ .dead :: .cells 11 (S.map encSeen) :: t := fun H hH c o hc => by
        obtain ⟨g, rfl⟩ := hH
        obtain ⟨d, rfl⟩ : ∃ d, c = h.length + (d + 2) := ⟨c - h.length - 2, by omega⟩
        exact ⟨g.set d o, by rw [List.set_append, if_neg (by omega)]; simp⟩
      have hnew : atG gs s = -1 → mergeG [] S = mergeG (gs ++ [[s]]) (S.drop (i + 1)) := fun e => by rw [hm, placeG, if_pos (by omega)]
      rcases hG.out with ⟨rfl, rfl⟩ | ⟨bx, rfl, hb1, hb2, hb3⟩
      · have hz : atG [] s = -1 := rfl
        simp [lxG, e4, e13, e14, e15, hz, ew]
        refine ⟨i + 1, by omega, by omega, by omega, [h'.length + 1], [[s]], hnew hz, by simp, by simp, ⟨_, by rw [hh, List.append_assoc]; rfl⟩, ?_⟩
        obtain rfl : bs = [] := List.length_eq_zero_iff.1 hG.len
        show Grp _ _ (.own (h'.length + 3) 0 (([] : List (List TSeen)).length + 1)) ([] ++ [h'.length + 1]) ([] ++ [[s]])
        refine Grp.add hG s (h'.length + 1) (h'.length + 3) (by omega) (fun k o hk _ => ?_) (by omega) (by omega) (by omega) (by simp) (by simp [cellsG])
        rw [List.getElem?_append_left (List.getElem?_eq_some_iff.1 hk).1]; exact hk
      · have hb3' := (List.getElem?_eq_some_iff.1 hb3).2
        have hbl := (List.getElem?_eq_some_iff.1 hb3).1
        have hcl := cellsG_len hG.len
        have hc1 : ∀ e ∈ cellsG bs gs, e.length = 1 := by
          rw [← hvs]; intro e he
          obtain ⟨v, _, rfl⟩ := List.mem_map.1 he
          rfl
        have hct : (cellsG bs gs).take gs.length = cellsG bs gs := List.take_of_length_le (by omega)
        rcases idxP_range (fun i => joinsB (headG (gs.getD i [])) s) gs.length 0 with hz | ⟨k, hz, _, hk, _⟩
        · rw [hat] at hz
          simp [lxG, e4, e13, e14, e15, hz, hb3, hb3', hbl, hcl, hct, ew]
          obtain ⟨t, ht⟩ := hpre bx .dead hb1
          refine ⟨⟨hc1, by omega, by omega⟩, i + 1, by omega, by omega, by omega, bs ++ [h'.length + 1], gs ++ [[s]], hnew hz, by simp; omega, fun q hq => ?_, ⟨_, by rw [ht, List.append_assoc]; rfl⟩, ?_⟩
          · rcases List.mem_append.1 hq with hq | hq
            · have := hgm q hq; omega
            · rw [List.mem_singleton.1 hq]; simp
          · refine Grp.add hG s (h'.length + 1) (h'.length + 3) (by omega) (fun k o hk hne => ?_) (by omega) (by omega) (by omega) (by simp) (by simp)
            have hkb : k ≠ bx := fun e => hne (by rw [e])
            rw [List.getElem?_append_left (by simpa using (List.getElem?_eq_some_iff.1 hk).1), List.getElem?_set_ne (Ne.symm hkb)]; exact hk
        · rw [hat] at hz
          obtain ⟨q1, hq1, hq1'⟩ := get_lt (l := gs) (i := k) (by omega)
          obtain ⟨b1, hbb, hbb'⟩ := get_lt (l := bs) (i := k) (by have := hG.len; omega)
          obtain ⟨hne, hlo1, hblk⟩ := hG.each k b1 q1 hbb hq1
          have hblk' := (List.getElem?_eq_some_iff.1 hblk).2
          have hbl1 := (List.getElem?_eq_some_iff.1 hblk).1
          have hcat := cellsG_at hbb hq1
          have hcat' := (List.getElem?_eq_some_iff.1 hcat).2
          have hkl : k < gs.length := by omega
          have hqt : (q1.map encSeen).take q1.length = q1.map encSeen := List.take_of_length_le (by simp)
          have hql := hgm q1 (List.mem_of_getElem? hq1)
          have hnn : ¬ ((k : Int) < 0) := by omega
          have hbne : b1 ≠ bx := fun e => hb2 (e ▸ List.mem_of_getElem? hbb)
          simp [lxG, e4, e13, e14, e15, hz, hb3, hb3', hbl, hcl, hct, ew, hkl, hcat, hcat', hblk, hblk', hbl1, hqt, hnn, hbne, Ne.symm hbne, preOps]
          refine ⟨⟨by decide, by decide⟩, ?_⟩
          have hmk : placeG gs s = gs.set k (q1 ++ [s]) := by
            rw [placeG, hz, if_neg hnn, Int.toNat_natCast, List.getD_eq_getElem?_getD, hq1]; rfl
          obtain ⟨t, ht⟩ := hpre2 _ (hpre b1 .dead hlo1) bx (.cells 1 ((cellsG bs gs).set k [.own (h'.length + 2) 0 (q1.length + 1)])) hb1
          refine ⟨⟨by omega, by omega⟩, i + 1, by omega, by omega, by omega, bs.set k (h'.length + 2), gs.set k (q1 ++ [s]), by rw [hm, hmk], by simp; omega, fun q hq => ?_, ⟨_, by rw [ht, List.append_assoc]; rfl⟩, ?_⟩
          · rcases List.mem_or_eq_of_mem_set hq with hq | hq
            · have := hgm q hq; omega
            · rw [hq]; simp; omega
          · refine Grp.put hG s hbb hq1 bx (h'.length + 2) (by omega) rfl (fun c o hc hn1 hn2 => ?_) (by omega) (by simp) ?_
            · rw [List.getElem?_append_left (by simpa using (List.getElem?_eq_some_iff.1 hc).1), List.getElem?_set_ne (Ne.symm hn2), List.getElem?_set_ne (Ne.symm hn1)]; exact hc
            · rw [List.getElem?_append_left (by simpa using hbl), List.getElem?_set_self (by simpa using hbl)]
  · obtain rfl : i = n := by omega
    rw [List.drop_eq_nil_of_le (by omega), mergeG] at hm
    have hx : x.core = x ∧ x.gd = true := by rcases hG.out with ⟨rfl, _⟩ | ⟨bx, rfl, _⟩ <;> exact ⟨rfl, rfl⟩
    simp [e13, e14, e15, e4, hx]
    rw [hm]
    subst hh
    exact ⟨_, rfl, hG.frz (by omega)⟩
end Go.Proofs.Ytmnmbkcdjpidgaa
