/-
  Contracts: the laws of checks.
-/
import Derived.Test.YtcbaojkchiphkaaLawTimes
import Derived.Test.YtcbaojkchiphkaaCheck
import Derived.Test.YtcbaojkchiphkaaAbsBorrow
set_option linter.unusedVariables false
set_option linter.unusedSimpArgs false
set_option maxRecDepth 100000
namespace Go.Proofs.Ytcbaojkchiphkaa
open Go Go.Abs Go.Toll
variable {gl : Globs} {h : AHeap}

theorem small_len {t : Topo} (h : smallB t = true) : t.net.pts.length ≤ 12 ∧ t.net.lks.length ≤ 30 ∧ t.sys.length ≤ 100 := by
  simp [smallB] at h
  omega

theorem law_Checks (x : Tariff) (t : Topo) : ACalls Try.prog gl 7 [.agg (encTariff x), .agg (encTopo t)] h fun v h' => v = .bool true := by
  refine ACalls.mono (ACalls.data (.bool true) (ACalls.body Try.f7 _ mixed Try.func7 rfl rfl (by simp [Try.ntmps7]) ?_)) fun _ _ h => h.1
  simp
  refine callS.pure _ (fun _ => law_short x) ?_
  simp
  refine callS.pure _ (fun _ => law_small t) ?_
  simp
  intro hs ht
  have h1 := short_len hs
  have h2 := small_len ht
  refine ⟨by decide, ?_⟩
  refine callS.pure _ (fun _ => tariff_Check x t (by omega) (by omega) (by omega) (by omega) (by omega)) ?_
  simp
  refine callS.pure _ (fun _ => ref22_Check x t (by omega) (by omega) (by omega) (by omega) (by omega)) ?_
  simp
  refine callS.pure _ (fun _ => law_alive) ?_
  simp

theorem law_Lists (l : List Tariff) (t : Topo) : ACalls Try.prog gl 8 [.ro (l.map encTariff), .agg (encTopo t)] h fun v h' => v = .bool true := by
  refine ACalls.mono (ACalls.data (.bool true) (ACalls.body Try.f8 _ mixed Try.func8 rfl rfl (by simp [Try.ntmps8]) ?_)) fun _ _ h => h.1
  simp
  refine callS.pure _ (fun _ => law_few l) ?_
  simp
  refine callS.pure _ (fun _ => law_small t) ?_
  simp
  intro hs ht
  have h1 := few_len hs
  have h2 := small_len ht
  have h3 : ∀ y ∈ l, y.bands.length ≤ 1000 ∧ y.rates.length ≤ 1000 := fun y hy => by have := h1.2 y hy; omega
  refine ⟨by decide, ?_⟩
  refine callS.pure _ (fun _ => tariff_CheckAll l t (by omega) h3 (by omega) (by omega) (by omega)) ?_
  simp
  refine callS.pure _ (fun _ => ref22_CheckAll l t (by omega) h3 (by omega) (by omega) (by omega)) ?_
  simp
  refine callS.pure _ (fun _ => law_alive) ?_
  simp

theorem countIn_cons {x : Tariff} {l : List Tariff} {t : Int} : countIn (x :: l) t = countIn l t + if inIv x.valid t = true then 1 else 0 := by
  rw [countIn, List.countP_cons]; rfl

theorem tariff_At_nil (t : Int) : ACalls Try.prog gl 12 [.nil, .int .i64 t] h fun v h' => v = .tup [.agg (encTariff ⟨⟨0, 0⟩, [], []⟩), .int .i64 22] ∧ h' = h := by
  refine ACalls.fresh (ACalls.body Try.f12 _ mixed Try.func12 rfl rfl (by simp [Try.ntmps12]) ?_)
  simp
  refine AWP.up mixed 0 (fun i fr h' => fr 4 = .ptr h.length 0 0 ∧ fr 9 = .int .i64 0 ∧ fr 10 = .int .i64 i ∧ ∃ g, h' = h ++ .cells 4 [[.int .i64 0, .int .i64 0, .nil, .nil]] :: g) 0 (by omega) ⟨by simp, by simp, by simp, [], rfl⟩ ?_
  rintro i fr h' hi ⟨e4, e9, e10, g, rfl⟩
  obtain rfl : i = 0 := by omega
  simp [e4, e9, e10]
  exact .tup' (.cons (.agg' (.cons (.data _ (by simp)) (.cons (.data _ (by simp)) (.cons .nil (.cons .nil .nil))))) (.cons (.data _ (by simp)) .nil))

set_option maxHeartbeats 1000000 in
theorem law_One [GOk gl] (l : List Tariff) (t : Topo) (tm : Int) : ACalls Try.prog gl 9 [.ro (l.map encTariff), .agg (encTopo t), .int .i64 tm] h fun v h' => v = .bool true := by
  refine ACalls.mono (ACalls.data (.bool true) (ACalls.body Try.f9 _ mixed Try.func9 rfl rfl (by simp [Try.ntmps9]) ?_)) fun _ _ h => h.1
  simp
  refine callS.pure _ (fun _ => law_few l) ?_
  simp
  refine callS.pure _ (fun _ => law_small t) ?_
  simp
  by_cases hfew : fewB l = true
  · have h1 := few_len hfew
    by_cases hsm : smallB t = true
    · have h2 := small_len hsm
      have h3 : ∀ y ∈ l, y.bands.length ≤ 1000 ∧ y.rates.length ≤ 1000 := fun y hy => by have := h1.2 y hy; omega
      refine callS.pure _ (fun _ => tariff_CheckAll l t (by omega) h3 (by omega) (by omega) (by omega)) ?_
      simp [hfew, hsm]
      intro hall
      have hone := one_law (by omega) hall tm
      have ew0 : IntKind.i64.wrap ((l.length : Int) - 1) = (l.length : Int) - 1 := wrap64_of (by omega) (by omega)
      refine AWP.down mixed (fun k fr h' => k ≤ l.length ∧ fr 0 = .ro (l.map encTariff) ∧ fr 2 = .int .i64 tm ∧ fr 4 = .ptr h.length 0 0 ∧ fr 8 = .int .i64 (countIn (l.drop k) tm) ∧ (∃ z, fr 9 = .int .i64 z ∧ z = (k : Int) - 1) ∧
        ∃ rs g, fr 7 = rs ∧ h' = h ++ .cells 3 [encTopo t] :: g ∧ ((rs = .nil ∧ l.drop k = []) ∨ ∃ m, rs = .own (h.length + (m + 1)) 0 (l.drop k).length ∧ g[m]? = some (.cells 4 ((l.drop k).reverse.map encTariff)))) l.length
        ⟨by omega, by simp, by simp, by simp, by simp [countIn], ⟨_, by simp, ew0⟩, .nil, [], by simp, by simp, .inl ⟨rfl, by simp⟩⟩ ?_
      rintro k fr h' ⟨hk, e0, e2, e4, e8, ⟨z, e9, hz⟩, rs, g, e7, rfl, hg⟩
      rcases Nat.eq_zero_or_pos k with rfl | hpos
      · subst hz
        rw [List.drop_zero] at hg e8
        obtain ⟨n, A, hc, ha, hb, hnA⟩ : ∃ (n : Nat) (A : Tariff × Int), countIn l tm = n ∧ atT l tm = A ∧ atT l.reverse tm = A ∧ (n = 0 ∧ A.2 = 22 ∨ n = 1 ∧ A.2 = 0) := by
          rcases hone with ⟨a, b, c⟩ | ⟨x, a, b, c⟩
          · exact ⟨_, _, a, b, c, .inl ⟨rfl, rfl⟩⟩
          · exact ⟨_, _, a, b, c, .inr ⟨rfl, rfl⟩⟩
        have hAl := atT_len h1.2 tm
        have hrev := allErr_reverse (by omega) hall
        have h3r : ∀ y ∈ l.reverse, y.bands.length ≤ 1000 ∧ y.rates.length ≤ 1000 := fun y hy => h3 y (List.mem_reverse.1 hy)
        rw [ha] at hAl
        rw [hc] at e8
        obtain ⟨c1, c2, hcall, hfrz⟩ : rs.core = rs ∧ rs.gd = true ∧ (∀ g', ACalls Try.prog gl 12 [rs, .int .i64 tm] (h ++ .cells 3 [encTopo t] :: (g ++ g')) fun v h' => v = .tup [.agg (encTariff A.1), .int .i64 A.2] ∧ h' = h ++ .cells 3 [encTopo t] :: (g ++ g')) ∧
            ∀ g', Frz 0 (h ++ .cells 3 [encTopo t] :: (g ++ g')) rs (.ro (l.reverse.map encTariff)) := by
          rcases hg with ⟨rfl, rfl⟩ | ⟨m, rfl, hm⟩
          · refine ⟨rfl, rfl, fun g' => ?_, fun g' => .nil⟩
            rw [← ha]
            exact tariff_At_nil tm
          · obtain ⟨hm1, hm2⟩ := List.getElem?_eq_some_iff.1 hm
            refine ⟨rfl, rfl, fun g' => ?_, fun g' => ?_⟩
            · rw [← hb]
              have hl' : l.length = (l.reverse.map encTariff).length := by simp
              rw [hl']
              exact tariff_At _ l.reverse (Rd.own (by simp [hm1, hm2]) (by simp)) (by simp; omega) h3r tm
            · exact Frz.ownD (m := 4) (es := l.reverse.map encTariff) (by simp [hm1, hm2]) (by omega) (by simp) (by rw [List.drop_zero, List.take_of_length_le (by simp)]) (by simp)
        simp [e0, e2, e4, e7, e8, e9]
        refine callS.pure _ (fun _ => tariff_At _ l (Rd.ro (by simp)) (by omega) h3 tm) ?_
        rw [ha]
        simp [e0, e2, e4, e7, e8, e9, c1, c2]
        refine callS.pure _ (fun _ => hcall _) ?_
        simp [e0, e2, e4, e7, e8, e9, c1, c2]
        have hq : (decide ((n : Int) ≤ 1) && (A.2 == 0) == ((n : Int) == 1)) = true := by
          rcases hnA with ⟨rfl, h⟩ | ⟨rfl, h⟩ <;> rw [h] <;> rfl
        rw [hq]
        refine callS.pure _ (fun _ => ref22_Same A.1 A.1 (by omega)) ?_
        simp [e0, e2, e4, e7, e8, e9, c1, c2, tarEqB_self, hq]
        refine callS.pure _ (fun _ => ACalls.borrow (args' := [.ro (l.reverse.map encTariff), .agg (encTopo t)]) (by simp) (.cons (hfrz _) (.cons (.data _ (by simp)) .nil)) (tariff_CheckAll l.reverse t (by simp; omega) h3r (by omega) (by omega) (by omega))) ?_
        simp [hrev, hq]
        refine callS.pure _ (fun _ => law_alive) ?_
        simp
      · obtain ⟨i, rfl⟩ : ∃ i, k = i + 1 := ⟨k - 1, by omega⟩
        obtain rfl : z = (i : Int) := by omega
        have hlt : i < l.length := by omega
        obtain ⟨x, hx, hx'⟩ := get_lt hlt
        have hd : l.drop i = x :: l.drop (i + 1) := drop_get hx
        have ew : IntKind.i64.wrap ((i : Int) - 1) = (i : Int) - 1 := wrap64_of (by omega) (by omega)
        have ec : IntKind.i64.wrap ((countIn (l.drop (i + 1)) tm : Int) + 1) = ((countIn (l.drop (i + 1)) tm + 1 : Nat) : Int) := wrap_succ' (by
          have := List.countP_le_length (p := fun x => inIv x.valid tm) (l := l.drop (i + 1))
          rw [countIn]; rw [List.length_drop] at this; omega)
        have hmd : (l.map encTariff).drop i = encTariff x :: (l.map encTariff).drop (i + 1) := by rw [← List.map_drop, hd, List.map_cons, List.map_drop]
        have hc := countIn_cons (x := x) (l := l.drop (i + 1)) (t := tm)
        rw [← hd] at hc
        have hcI : x.valid.lo ≤ tm → tm < x.valid.hi → countIn (l.drop i) tm = countIn (l.drop (i + 1)) tm + 1 := fun p1 p2 => by rw [hc, if_pos (by simp [inIv, p1, p2])]
        have hcO : (x.valid.lo ≤ tm → x.valid.hi ≤ tm) → countIn (l.drop i) tm = countIn (l.drop (i + 1)) tm := fun p1 => by
          rw [hc, if_neg (by intro hh; simp [inIv] at hh; have := p1 hh.1; omega), Nat.add_zero]
        rcases hg with ⟨rfl, hnil⟩ | ⟨m, rfl, hm⟩
        · have hnil' : (l.map encTariff).drop (i + 1) = [] := by rw [← List.map_drop, hnil]; rfl
          have hll : l.length = i + 1 := by have := congrArg List.length hnil; simp at this; omega
          simp [e0, e2, e4, e7, e8, e9, hlt, hx, hx', ew, ec]
          refine ⟨fun p1 p2 => ⟨i, by omega, by omega, ?_, rfl, g.length + 1, ⟨rfl, by omega⟩, ?_⟩, fun p1 => ⟨i, by omega, by omega, ?_, rfl, g.length + 1, ⟨rfl, by omega⟩, ?_⟩⟩
          · rw [hcI p1 p2]; omega
          · rw [if_neg (by omega), Nat.add_sub_cancel_left, hmd, hnil']; rfl
          · rw [hcO p1]
          · rw [if_neg (by omega), Nat.add_sub_cancel_left, hmd, hnil']; rfl
        · obtain ⟨hm1, hm2⟩ := List.getElem?_eq_some_iff.1 hm
          have hb0 : ¬ h.length + (m + 1) < h.length := by omega
          have tl : ((l.drop (i + 1)).reverse.map encTariff).take (l.length - (i + 1)) = (l.drop (i + 1)).reverse.map encTariff := List.take_of_length_le (by simp)
          simp [e0, e2, e4, e7, e8, e9, hlt, hx, hx', ew, ec, hm1, hm2, hb0, tl]
          have hlen4 : ∀ y ∈ l.map encTariff, y.length = 4 := by simp
          have tk : ((l.map encTariff).drop (i + 1)).reverse.take (l.length - (i + 1)) = ((l.map encTariff).drop (i + 1)).reverse := List.take_of_length_le (by simp)
          rw [tk]
          refine ⟨⟨fun y hy => hlen4 y (List.mem_of_mem_drop (List.mem_reverse.1 hy)), by omega, by omega⟩, fun p1 p2 => ⟨i, by omega, by omega, ?_, rfl, g.length + 1, ⟨rfl, by omega⟩, ?_⟩, fun p1 => ⟨i, by omega, by omega, ?_, rfl, g.length + 1, ⟨rfl, by omega⟩, ?_⟩⟩
          · rw [hcI p1 p2]; omega
          · rw [if_neg (by omega), Nat.add_sub_cancel_left, hmd, List.reverse_cons]; rfl
          · rw [hcO p1]
          · rw [if_neg (by omega), Nat.add_sub_cancel_left, hmd, List.reverse_cons]; rfl
    · refine callS.pure (.int .i64 0) (fun hG => absurd hG (by simp [hsm])) ?_
      simp [hfew, hsm]
  · refine callS.pure (.int .i64 0) (fun hG => absurd hG (by simp [hfew])) ?_
    simp [hfew]
end Go.Proofs.Ytcbaojkchiphkaa
