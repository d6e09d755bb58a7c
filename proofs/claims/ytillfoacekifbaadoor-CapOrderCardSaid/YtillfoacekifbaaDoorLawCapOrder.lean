/-
  Contracts: the law that the order of the charges does not matter.
-/
import Derived.Test.YtillfoacekifbaaDoorLawCap
import Derived.Test.YtillfoacekifbaaDoorAbsPerm
import Derived.Test.YtillfoacekifbaaDoorTollOrder
set_option linter.unusedVariables false
set_option linter.unusedSimpArgs false
set_option maxRecDepth 100000
namespace Go.Proofs.YtillfoacekifbaaDoor
open Go Go.Abs Go.Toll
variable {gl : Globs} {h : AHeap}

theorem law_same (ch : List TChg) (hl : ch.length ≤ 2000) : ACalls Tryd.prog gl 24 [.ro (ch.map encChg)] h fun v h' => v = .bool (Toll.sameB ch) ∧ h' = h := by
  refine ACalls.data (.bool _) (ACalls.body Tryd.f24 _ mixed Tryd.func24 rfl rfl (by simp [Tryd.ntmps24]) ?_)
  simp
  refine AWP.up mixed ch.length (fun i fr h' => fr 0 = .ro (ch.map encChg) ∧ fr 3 = .int .i64 i ∧ (∀ x, x < i → ∀ y, y < x → sameAt ch x y = false) ∧ ∃ g, h' = h ++ g) 0 (by omega) ⟨by simp, by simp, fun _ h => by omega, [], by simp⟩ ?_
  rintro i fr h' hi ⟨e0, e3, hf, g, rfl⟩
  rcases Nat.lt_or_ge i ch.length with hlt | hge
  · obtain ⟨x, hg, hg'⟩ := get_lt hlt
    have ew := wrap_succ' (i := i) (by omega)
    simp [e0, e3, hlt, ew]
    refine AWP.up mixed i (fun k fr h' => fr 0 = .ro (ch.map encChg) ∧ fr 3 = .int .i64 i ∧ fr 4 = .int .i64 k ∧ (∀ y, y < k → sameAt ch i y = false) ∧ ∃ g, h' = h ++ g) 0 (by omega) ⟨by simp [e0], by simp [e3], by simp, fun _ h => by omega, g, by simp⟩ ?_
    clear e0 e3
    rintro k fr h' hk ⟨e0, e3, e4, hf2, g, rfl⟩
    rcases Nat.lt_or_ge k i with hltk | hgek
    · obtain ⟨y, hy, hy'⟩ := get_lt (l := ch) (i := k) (by omega)
      have hltk2 : k < ch.length := by omega
      have ewk := wrap_succ' (i := k) (by omega)
      have hs : sameAt ch i k = (decide (x.time = y.time) && decide (x.key = y.key)) := by rw [sameAt, chD_get hg, chD_get hy]
      have hr : sameAt ch i k = false → ∀ y, y < k + 1 → sameAt ch i y = false := by
        intro hh z hz
        rcases Nat.lt_or_ge z k with h1 | h1
        · exact hf2 z h1
        · obtain rfl : z = k := by omega
          exact hh
      simp [e0, e3, e4, hlt, hltk, hltk2, hg, hg', hy, hy', ewk]
      refine ⟨by decide, fun q q2 => ?_, fun q => ⟨k + 1, by omega, by omega, by omega, hr ?_⟩⟩
      · exact List.any_eq_true.2 ⟨i, List.mem_range.2 hlt, List.any_eq_true.2 ⟨k, List.mem_range.2 hltk, by rw [hs]; simp [q, q2]⟩⟩
      · rw [hs]; simpa using q
    · simp [e0, e3, e4, Nat.not_lt.2 hgek, ew]
      obtain rfl : k = i := by omega
      refine ⟨k + 1, by omega, by omega, by omega, ?_⟩
      intro z hz
      rcases Nat.lt_or_ge z k with h1 | h1
      · exact hf z h1
      · obtain rfl : z = k := by omega
        exact hf2
  · obtain rfl : i = ch.length := by omega
    have : Toll.sameB ch = false := by
      simp only [Toll.sameB, List.any_eq_false, List.mem_range, Bool.not_eq_true]
      exact hf
    simp [e0, e3, this]

theorem r13 : List.range 13 = [0,1,2,3,4,5,6,7,8,9,10,11,12] := rfl
def lxO : Nat → Option RMode := fun id => if id = 24 then some (.perm [([0,1,2,3,4,5,6,7,8,9,10,11,12], [(4,0),(4,2)]), ([0,1,2,4,5,3,6,7,8,9,10,11,12], [(3,0)]), ([0,2,4,5,1,3,6,7,8,9,10,11,12], [])]) else none
def turnC (ch : List TChg) (k : Nat) : List AV := encChg (chD ch (ch.length - 1 - k))
theorem turn_all (ch : List TChg) : (List.range ch.length).map (turnC ch) = ch.reverse.map encChg := by
  refine List.ext_getElem? fun i => ?_
  rw [List.getElem?_map, List.getElem?_map]
  rcases Nat.lt_or_ge i ch.length with hi | hi
  · rw [List.getElem?_range hi, List.getElem?_reverse hi]
    obtain ⟨x, hx, _⟩ := get_lt (l := ch) (i := ch.length - 1 - i) (by omega)
    rw [hx]; simp [turnC, chD_get hx]
  · rw [List.getElem?_eq_none (by simpa using hi), List.getElem?_eq_none (by simpa using hi)]; rfl
def zO : List AV := [.str [], .str [], .str [], .int .i64 0, .int .i64 0, .nil, .int .i64 0]
theorem zO_len : zO.length = 7 := rfl
theorem zO_drop : zO.drop 7 = [] := rfl

set_option maxHeartbeats 4000000 in
theorem law_Order [GOk gl] (hgl : gl 0 = some monthCells) (l : List TCap) (ch : List TChg) (m : TChg) :
    ACalls Tryd.prog gl 8 [.ro (l.map encCap), .ro (ch.map encChg), .agg (encChg m)] h fun v h' => v = .bool true := by
  refine ACalls.mono (ACalls.data (.bool true) (ACalls.bodyN lxO Tryd.f8 _ mixed Tryd.func8 rfl rfl (by simp [Tryd.ntmps8]) ?_)) fun _ _ h => h.1
  simp [lxO]
  refine callS.pure _ (fun hG => law_same ch (by simp at hG; omega)) ?_
  simp
  intro q1 q2 hsame
  refine callS.pure _ (fun _ => cap_Apply hgl l ch _ _ (Rs.ro (by simp)) (Rs.ro (by simp)) (by omega) (by omega)) ?_
  simp
  intro he
  rw [if_pos he]
  have hlen := (app_get l ch).2.1
  have hrev := fun (i : Nat) (hi : i < ch.length) => app_rev l hsame hi
  have hrevE := apply_rev he
  have hmore := fun (m : TChg) => app_more (m := m) l (ch := ch)
  have hok := apply_ok he
  generalize appApply l ch = P at *
  obtain ⟨n, hn⟩ : ∃ n, n = ch.length := ⟨_, rfl⟩
  simp [hlen, ← hn]
  refine ⟨by omega, ?_⟩
  rw [fillC_zero (turnC ch)]
  refine AWP.up mixed n (fun i fr h' => fr 0 = .ro (l.map encCap) ∧ fr 1 = .ro (ch.map encChg) ∧ fr 5 = .ptr h.length 0 0 ∧ fr 6 = .bool false ∧ fr 7 = .ro (P.map encN) ∧ fr 9 = .int .i64 n ∧ fr 10 = .own (h.length + 1) 0 n ∧ fr 11 = .int .i64 i ∧
    ∃ (mt : Int) (g : AHeap), (∀ x ∈ ch.take i, x.time < mt) ∧ h' = h ++ .cells 7 [encChg { m with time := mt }] :: .cells 7 (fillC (turnC ch) zO n i) :: g) 0 (by omega)
    ⟨by simp, by simp, by simp, by simp, by simp, by simp, by simp, by simp, m.time, [], by simp, by simp [zO]⟩ ?_
  · rintro i fr h' hi ⟨e0, e1, e5, e6, e7, e9, e10, e11, mt, g, hmt, rfl⟩
    rcases Nat.lt_or_ge i n with hlt | hge
    · obtain ⟨x, hg, hg'⟩ := get_lt (l := ch) (i := i) (by omega)
      obtain ⟨y, hy, hy'⟩ := get_lt (l := ch) (i := n - 1 - i) (by omega)
      have hltC : i < ch.length := by omega
      have hltY : n - 1 - i < ch.length := by omega
      have ew := wrap_succ' (i := i) (by omega)
      have hl := fillC_len (turnC ch) zO (n := n) (i := i) (by omega)
      have ha := fillC_at (turnC ch) zO (n := n) (i := i) (by omega)
      have ha' := (List.getElem?_eq_some_iff.1 ha).2
      have w1 : IntKind.i64.wrap ((n : Int) - 1) = ((n - 1 : Nat) : Int) := by rw [wrap64_of (by omega) (by omega)]; omega
      have w2 : IntKind.i64.wrap (((n - 1 : Nat) : Int) - (i : Int)) = ((n - 1 - i : Nat) : Int) := by rw [wrap64_of (by omega) (by omega)]; omega
      have hty := (hok.2.2.2 x (List.mem_of_getElem? hg)).2.1
      have htr := isTime_range hty
      have w3 : IntKind.i64.wrap (x.time + 1) = x.time + 1 := wrap64_of (by omega) (by omega)
      have hset : (fillC (turnC ch) zO n i).set i (encChg y) = fillC (turnC ch) zO n (i + 1) := by
        rw [← fillC_set (turnC ch) zO hlt, turnC, chD_get (by rw [← hn]; exact hy)]
      simp [e0, e1, e5, e6, e7, e9, e10, e11, hlt, ew, hl, ha, ha', w1, w2, hltC, hltY, hg, hg', hy, hy', zO_len, zO_drop]
      refine ⟨by decide, fun q => ?_, fun q => ?_⟩
      · refine ⟨i + 1, by omega, by omega, by omega, x.time + 1, ?_, w3, hset⟩
        intro z hz
        rw [List.take_add_one, hg] at hz
        rcases List.mem_append.1 hz with hz | hz
        · have := hmt z hz; omega
        · obtain rfl : z = x := by simpa using hz
          omega
      · refine ⟨i + 1, by omega, by omega, by omega, mt, ?_, rfl, hset⟩
        intro z hz
        rw [List.take_add_one, hg] at hz
        rcases List.mem_append.1 hz with hz | hz
        · exact hmt z hz
        · obtain rfl : z = x := by simpa using hz
          omega
    · obtain rfl : i = n := by omega
      have hmt2 : ∀ x ∈ ch, x.time < mt := by
        intro x hx
        exact hmt x (by rw [List.take_of_length_le (by omega)]; exact hx)
      have hmore := hmore { m with time := mt } hmt2
      have hall : fillC (turnC ch) zO i i = ch.reverse.map encChg := by rw [fillC_all, hn, turn_all]
      obtain ⟨M, hM⟩ : ∃ M : TChg, M = { m with time := mt } := ⟨_, rfl⟩
      rw [hall, ← hM]
      rw [← hM] at hmore
      simp [e0, e1, e5, e6, e7, e9, e10, e11]
      refine callS.pure _ (fun _ => cap_Apply hgl l ch.reverse _ _ (Rs.ro (by simp)) (Rs.sub (b := h.length + 1) (all := ch.reverse.map encChg) (off := 0) (len := i) (by simp) (by simp; omega) (by rw [List.drop_zero, List.take_of_length_le (by simp; omega)]) (by simp)) (by omega) (by simp; omega)) ?_
      rw [if_pos hrevE, hrevE]
      have hol : (appApply l ch.reverse).length = i := by rw [(app_get l ch.reverse).2.1, List.length_reverse, hn]
      generalize appApply l ch.reverse = O at *
      simp [e0, e1, e5, e6, e7, e9, e10, e11, hol]
      refine AWP.up mixed i (fun k fr h' => fr 0 = .ro (l.map encCap) ∧ fr 1 = .ro (ch.map encChg) ∧ fr 5 = .ptr h.length 0 0 ∧ fr 7 = .ro (P.map encN) ∧ fr 9 = .int .i64 i ∧ fr 12 = .ro (O.map encN) ∧ fr 14 = .int .i64 k ∧
        ∃ (g : AHeap), h' = h ++ .cells 7 [encChg M] :: g) 0 (by omega)
        ⟨by simp [e0], by simp [e1], by simp [e5], by simp [e7], by simp [e9], by simp, by simp, _, by simp; rfl⟩ ?_
      rintro k fr h' hk ⟨e0, e1, e5, e7, e9, e12, e14, g, rfl⟩
      rcases Nat.lt_or_ge k i with hlt | hge
      · obtain ⟨a, ho, ho'⟩ := get_lt (l := O) (i := k) (by omega)
        obtain ⟨b, hp, hp'⟩ := get_lt (l := P) (i := i - 1 - k) (by omega)
        have hltO : k < O.length := by omega
        have hltP : i - 1 - k < P.length := by omega
        have ew := wrap_succ' (i := k) (by omega)
        have w1 : IntKind.i64.wrap ((i : Int) - 1) = ((i - 1 : Nat) : Int) := by rw [wrap64_of (by omega) (by omega)]; omega
        have w2 : IntKind.i64.wrap (((i - 1 : Nat) : Int) - (k : Int)) = ((i - 1 - k : Nat) : Int) := by rw [wrap64_of (by omega) (by omega)]; omega
        have hab : a = b := by
          have := hrev (i - 1 - k) (by omega)
          rw [hp, show ch.length - 1 - (i - 1 - k) = k by omega, ho] at this
          exact Option.some.inj this
        simp [e0, e1, e5, e7, e9, e12, e14, hlt, ew, w1, w2, hltO, hltP, ho, ho', hp, hp', hab]
        exact ⟨by decide, k + 1, by omega, by omega, by omega⟩
      · obtain rfl : k = i := by omega
        simp [e0, e1, e5, e7, e9, e12, e14, -awp_drawN]
        rw [awp_drawN]
        simp only [lxO, if_true]
        refine ⟨by decide, ?_⟩
        generalize hK : AThen _ _ Exit.normal = K
        obtain ⟨R, hR⟩ : ∃ R : List Int, R = if applyErr l (ch ++ [M]) = 0 then appApply l (ch ++ [M]) else [] := ⟨_, rfl⟩
        obtain ⟨E, hE⟩ : ∃ E : Int, E = applyErr l (ch ++ [M]) := ⟨_, rfl⟩
        have key : ∀ (fr' : AFrame) (g' : AHeap), fr' 7 = .ro (P.map encN) → fr' 9 = .int .i64 k → fr' 15 = .ro (R.map encN) → fr' 16 = .int .i64 E → K fr' (h ++ g') := by
          intro fr' g' f7 f9 f15 f16
          rw [← hK]
          have wk : IntKind.i64.wrap ((k : Int) + 1) = ((k + 1 : Nat) : Int) := by rw [wrap64_of (by omega) (by omega)]; omega
          simp [f7, f9, f15, f16, wk]
          refine ⟨fun q => ?_, fun q => ?_⟩
          · refine callS.pure _ (fun _ => law_alive hgl) ?_
            simp
          · have hE0 : applyErr l (ch ++ [M]) = 0 := by rw [← hE, q]
            rw [if_pos hE0] at hR
            have hRl : R.length = k + 1 := by rw [hR, (app_get l _).2.1]; simp [hn]
            have hRP : R.take k = P := by rw [hR, hn]; exact hmore
            have hRE : (R.map encN).take k = P.map encN := by rw [← List.map_take, hRP]
            have hPl : P.length ≤ 2000 := by omega
            rw [hRE, hRl]
            simp
            refine callS.pure _ (fun _ => ref25_SameInts P P hPl) ?_
            simp
            refine callS.pure _ (fun _ => law_alive hgl) ?_
            simp
        have htk : (ch.map encChg).take ch.length = ch.map encChg := List.take_of_length_le (by simp)
        rw [permAll_cons, permAll_cons, permAll_cons]
        refine ⟨⟨by decide +kernel, ?_⟩, ⟨by decide +kernel, ?_⟩, ⟨by decide +kernel, ?_⟩, trivial⟩
        all_goals
          simp [permOps, permOp, lastAct, isAct, actB, r13, e0, e1, e5, e7, e9, htk]
          refine ⟨by omega, by omega, ?_⟩
          refine callS.pure _ (fun _ => cap_Apply hgl l (ch ++ [M]) _ _ (Rs.ro (by simp)) (Rs.sub (b := h.length + (g.length + 3 + 1)) (all := (ch ++ [M]).map encChg) (off := 0) (len := ch.length + 1) (by simp) (by simp) (by rw [List.drop_zero, List.take_of_length_le (by simp)]) (fun e he => by obtain ⟨y, _, rfl⟩ := List.mem_map.1 he; rfl)) (by omega) (by simp; omega)) ?_
          rw [← hE, hE, ← hR, ← hE]
          simp [permOps, permOp, lastAct, isAct, actB, r13, e0, e1, e5, e7, e9, htk]
          exact key _ _ (by simp [e7]) (by simp [e9]) (by simp) (by simp)
end Go.Proofs.YtillfoacekifbaaDoor
