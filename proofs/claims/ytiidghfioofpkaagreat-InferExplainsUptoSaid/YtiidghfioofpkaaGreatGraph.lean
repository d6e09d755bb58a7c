/-
  Contracts: networks: what makes them valid; a point of a name.
-/
import Derived.Test.YtiidghfioofpkaaGreatName
set_option linter.unusedVariables false
set_option linter.unusedSimpArgs false
set_option maxRecDepth 100000
namespace Go.Proofs.YtiidghfioofpkaaGreat
open Go Go.Abs Go.Toll
variable {gl : Globs} {h : AHeap}

theorem keys_known (l : List Pt) : ∀ p ∈ knownM l, ∃ s : Bytes, p = (.str s, .bool true) := by
  intro p hp
  obtain ⟨q, _, rfl⟩ := List.mem_map.1 hp
  exact ⟨q.name, rfl⟩
theorem keysOk_known (l : List Pt) (s : Bytes) : keysOk Tryz.prog 9 (.str s) (knownM l) := by
  refine ⟨by simp [aggFit], [.str], by simp, by simp, fun p hp => ?_⟩
  obtain ⟨q, _, rfl⟩ := List.mem_map.1 hp
  simp
theorem keysOk_pairs (l : List Lk) (a b : Bytes) : keysOk Tryz.prog 147 (.agg [.str a, .str b]) (pairsM l) := by
  refine ⟨by simp [aggFit], [.str, .str], by simp, by simp, fun p hp => ?_⟩
  obtain ⟨q, _, rfl⟩ := List.mem_map.1 hp
  simp

set_option maxHeartbeats 2000000 in
theorem graph_Check (n : Net) (hp : n.pts.length ≤ 1000) (hl : n.lks.length ≤ 1000) : ACalls Tryz.prog gl 58 [.agg (encNet n)] h fun v h' => v = .int .i64 (netErr n) ∧ h' = h := by
  refine ACalls.data (.int _ _) (ACalls.body Tryz.f58 _ mixed Tryz.func58 rfl rfl (by simp [Tryz.ntmps58]) ?_)
  by_cases hb : 64 < n.pts.length ∨ 128 < n.lks.length
  · have : netErr n = 3 := by rw [netErr, if_pos hb]
    rcases hb with hb | hb
    · have hb' : (64 : Int) < n.pts.length := by omega
      simp [this, hb']
    · have hb' : (128 : Int) < n.lks.length := by omega
      simp [this, hb']
  have hb1 : ¬ (64 : Int) < n.pts.length := by omega
  have hb2 : ¬ (128 : Int) < n.lks.length := by omega
  have hne : netErr n = if ptsErr [] n.pts ≠ 0 then ptsErr [] n.pts else lksErr n.pts [] n.lks := by rw [netErr, if_neg hb]
  simp [hb1, hb2]
  refine AWP.up mixed n.pts.length (fun i fr h' => fr 1 = .ptr h.length 0 0 ∧ fr 3 = .map (h.length + 1) ∧ fr 22 = .ro (n.pts.map encPt) ∧ fr 23 = .int .i64 n.pts.length ∧ fr 24 = .int .i64 i ∧
    ptsErr [] n.pts = ptsErr (n.pts.take i) (n.pts.drop i) ∧ ∃ g, h' = h ++ .cells 2 [encNet n] :: .map (knownM (n.pts.take i)) :: g) 0 (by omega) ⟨by simp, by simp, by simp, by simp, by simp, by simp, [], by simp [knownM]⟩ ?_
  rintro i fr h' hi ⟨e1, e3, e22, e23, e24, hf, g, rfl⟩
  rcases Nat.lt_or_ge i n.pts.length with hlt | hge
  · obtain ⟨p, hg, hg'⟩ := get_lt hlt
    rw [drop_get hg, ptsErr] at hf
    have ew := wrap_succ' (i := i) (by omega)
    have ht : n.pts.take (i + 1) = n.pts.take i ++ [p] := by rw [List.take_add_one, hg]; rfl
    simp [e1, e3, e22, e23, e24, hlt, hg, hg', ew]
    refine callS.pure _ (fun _ => text_Name p.name) ?_
    simp [e1, e3, e22, e23, e24, hlt, hg, hg', ew, -keysOk, keysOk_known, look_known]
    refine ⟨fun q1 => ?_, fun q1 => ⟨fun q2 => ?_, fun q2 => ⟨fun q3 => ?_, fun q3 q4 => ?_⟩⟩⟩
    · rw [hne, hf]; simp [q1]
    · rw [hne, hf]; simp [q1, q2]
    · have q3' : p.kind < 1 ∨ 4 < p.kind := by omega
      rw [hne, hf]; simp [q1, q2, q3']
    · have q3' : ¬ (p.kind < 1 ∨ 4 < p.kind) := by omega
      refine callS.pure _ (fun _ => text_Name p.sys) ?_
      simp [e1, e3, e22, e23, e24, hlt, hg, hg', ew, -keysOk, keysOk_known, look_known, aset_known q2]
      refine ⟨fun q5 q6 => ?_, fun q5 => ⟨i + 1, by omega, by omega, by omega, ?_, by rw [ht]⟩⟩
      · rw [hne, hf]; simp [q1, q2, q3', q5, q6]
      · rw [hf, ht]
        have q5' : ¬ (p.sys ≠ [] ∧ nameB p.sys = false) := by rintro ⟨a, b⟩; rw [q5 a] at b; cases b
        rw [if_neg (by simp [q1]), if_neg (by simp [q2]), if_neg q3', if_neg q5']
  · rw [List.drop_eq_nil_of_le hge, ptsErr] at hf
    rw [hf] at hne
    have hne : netErr n = lksErr n.pts [] n.lks := by simpa using hne
    simp [e1, e3, e22, e23, e24, Nat.not_lt.2 hge]
    rw [List.take_of_length_le hge]
    refine AWP.up mixed n.lks.length (fun j fr h' => fr 1 = .ptr h.length 0 0 ∧ fr 3 = .map (h.length + 1) ∧ fr 6 = .map (h.length + (g.length + 1 + 1)) ∧ fr 63 = .ro (n.lks.map encLk) ∧ fr 64 = .int .i64 n.lks.length ∧ fr 65 = .int .i64 j ∧
      lksErr n.pts [] n.lks = lksErr n.pts (n.lks.take j) (n.lks.drop j) ∧ ∃ g1, h' = h ++ .cells 2 [encNet n] :: .map (knownM n.pts) :: (g ++ .map (pairsM (n.lks.take j)) :: g1)) 0 (by omega) ⟨by simp [e1], by simp [e3], by simp, by simp, by simp, by simp, by simp, [], by simp [pairsM]⟩ ?_
    clear e1 e3 e22 e23 e24 hf hi hge
    rintro j fr h' hj ⟨e1, e3, e6, e63, e64, e65, hf, g1, rfl⟩
    rcases Nat.lt_or_ge j n.lks.length with hlt | hge
    · obtain ⟨x, hg, hg'⟩ := get_lt hlt
      rw [drop_get hg, lksErr] at hf
      have ew := wrap_succ' (i := j) (by omega)
      have ht : n.lks.take (j + 1) = n.lks.take j ++ [x] := by rw [List.take_add_one, hg]; rfl
      simp [e1, e3, e6, e63, e64, e65, hlt, hg, hg', ew, -keysOk, keysOk_known, look_known, keysOk_pairs, look_pairs]
      have hlk : (n.lks.take j).any (fun y => decide (y.src = x.src) && decide (y.dst = x.dst)) = hasLk (n.lks.take j) x.src x.dst := rfl
      rw [hlk] at hf
      refine ⟨fun q => ?_, fun q1 q2 q3 => ⟨fun q4 => ?_, fun q4 => ⟨fun q5 => ?_, fun q5 q6 q7 => ?_⟩⟩⟩
      · rw [hne, hf, if_pos (by rcases q with (q | q) | q <;> simp [q])]
      · rw [hne, hf, if_neg (by simp [q1, q2, q3]), if_pos q4]
      · rw [hne, hf, if_neg (by simp [q1, q2, q3]), if_neg (by simp [q4]), if_pos (by omega)]
      · refine ⟨j + 1, by omega, by omega, by omega, ?_, by rw [ht]; exact aset_pairs q4⟩
        rw [hf, ht, if_neg (by simp [q1, q2, q3]), if_neg (by simp [q4]), if_neg (by omega)]
    · rw [List.drop_eq_nil_of_le hge, lksErr] at hf
      simp [e1, e3, e6, e63, e64, e65, Nat.not_lt.2 hge, hne, hf]
theorem graph_Find (n : Net) (s : Bytes) (hp : n.pts.length ≤ 1000) (hl : n.lks.length ≤ 1000) : ACalls Tryz.prog gl 50 [.agg (encNet n), .str s] h fun v h' => v = .tup [.agg (encPt ((findPt n s).getD pt0)), .bool (findPt n s).isSome] ∧ h' = h := by
  refine ACalls.data (by simp) (ACalls.body Tryz.f50 _ mixed Tryz.func50 rfl rfl (by simp [Tryz.ntmps50]) ?_)
  simp
  refine callS.pure _ (fun _ => graph_Check n hp hl) ?_
  simp
  refine ⟨fun hne => by simp [findPt, hne, pt0], fun hz => ?_⟩
  refine AWP.up mixed n.pts.length (fun i fr h' => fr 1 = .str s ∧ fr 4 = .ptr (h.length + 1) 0 0 ∧ fr 13 = .ro (n.pts.map encPt) ∧ fr 14 = .int .i64 n.pts.length ∧ fr 15 = .int .i64 i ∧
    findPt n s = (n.pts.drop i).find? (fun p => decide (p.name = s)) ∧ ∃ g, h' = h ++ .cells 2 [encNet n] :: .cells 3 [encPt pt0] :: g) 0 (by omega) ⟨by simp, by simp, by simp, by simp, by simp, by simp [findPt, hz], [], by simp [pt0]⟩ ?_
  rintro i fr h' hi ⟨e1, e4, e13, e14, e15, hf, g, rfl⟩
  rcases Nat.lt_or_ge i n.pts.length with hlt | hge
  · obtain ⟨p, hg, hg'⟩ := get_lt hlt
    rw [drop_get hg, List.find?_cons] at hf
    have ew := wrap_succ' (i := i) (by omega)
    simp [e1, e4, e13, e14, e15, hlt, hg, hg', ew]
    refine ⟨fun hq => ?_, fun hq => ⟨i + 1, by omega, by omega, by omega, ?_⟩⟩
    · simp [hq] at hf
      simp [hf, hq]
    · simp [hq] at hf
      exact hf
  · rw [List.drop_eq_nil_of_le hge] at hf
    simp at hf
    simp [e1, e4, e13, e14, e15, Nat.not_lt.2 hge, hf, pt0]
/-- The index of the first of the first k points with a name, or -1. -/
theorem ref07_place (l : List Pt) (m : Nat) (s : Bytes) (hl : l.length ≤ 1000) : ACalls Tryz.prog gl 65 [.ro (l.map encPt), .int .i64 m, .str s] h fun v h' => v = .int .i64 (idxI (fun p : Pt => decide (p.name = s)) (l.take m)) ∧ h' = h := by
  refine ACalls.data (.int _ _) (ACalls.body Tryz.f65 _ mixed Tryz.func65 rfl rfl (by simp [Tryz.ntmps65]) ?_)
  simp
  refine AWP.up mixed (l.take m).length (fun i fr h' => fr 0 = .ro (l.map encPt) ∧ fr 1 = .int .i64 m ∧ fr 2 = .str s ∧ fr 7 = .int .i64 i ∧
    idxI (fun p : Pt => decide (p.name = s)) (l.take m) = idxFrom (fun p : Pt => decide (p.name = s)) i ((l.take m).drop i) ∧ ∃ g, h' = h ++ g) 0 (by omega) ⟨by simp, by simp, by simp, by simp, by simp [idxI], [], by simp⟩ ?_
  rintro i fr h' hi ⟨e0, e1, e2, e7, hf, g, rfl⟩
  rcases Nat.lt_or_ge i (l.take m).length with hlt | hge
  · obtain ⟨p, hg, hg'⟩ := get_lt hlt
    rw [drop_get hg, idxFrom] at hf
    rw [List.length_take] at hlt hi
    rw [List.getElem?_take_of_lt (by omega)] at hg
    have hg2 : l[i]'(by omega) = p := by rw [List.getElem?_eq_getElem (by omega)] at hg; exact Option.some.inj hg
    have ew := wrap_succ' (i := i) (by omega)
    have h1 : i < m := by omega
    have h2 : i < l.length := by omega
    simp [e0, e1, e2, e7, h1, h2, hg, hg2, ew]
    refine ⟨fun hq => ?_, fun hq => ⟨i + 1, by omega, by omega, by omega, ?_⟩⟩
    · simp [hq] at hf; rw [hf]
    · simp [hq] at hf; exact hf
  · rw [List.drop_eq_nil_of_le hge, idxFrom] at hf
    rw [List.length_take] at hge
    by_cases h1 : i < m
    · have h2 : ¬ i < l.length := by omega
      simp [e0, e1, e2, e7, h1, h2, hf]
    · simp [e0, e1, e2, e7, h1, hf]
set_option maxHeartbeats 2000000 in
theorem ref07_Check (n : Net) (hp : n.pts.length ≤ 1000) (hl : n.lks.length ≤ 1000) : ACalls Tryz.prog gl 85 [.agg (encNet n)] h fun v h' => v = .int .i64 (netErr n) ∧ h' = h := by
  refine ACalls.data (.int _ _) (ACalls.body Tryz.f85 _ mixed Tryz.func85 rfl rfl (by simp [Tryz.ntmps85]) ?_)
  by_cases hb : 64 < n.pts.length ∨ 128 < n.lks.length
  · have : netErr n = 3 := by rw [netErr, if_pos hb]
    rcases hb with hb | hb
    · have hb' : (64 : Int) < n.pts.length := by omega
      simp [this, hb']
    · have hb' : (128 : Int) < n.lks.length := by omega
      simp [this, hb']
  have hb1 : ¬ (64 : Int) < n.pts.length := by omega
  have hb2 : ¬ (128 : Int) < n.lks.length := by omega
  have hne : netErr n = if ptsErr [] n.pts ≠ 0 then ptsErr [] n.pts else lksErr n.pts [] n.lks := by rw [netErr, if_neg hb]
  simp [hb1, hb2]
  refine AWP.up mixed n.pts.length (fun i fr h' => fr 1 = .ptr h.length 0 0 ∧ fr 3 = .int .i64 i ∧
    ptsErr [] n.pts = ptsErr (n.pts.take i) (n.pts.drop i) ∧ ∃ g, h' = h ++ .cells 2 [encNet n] :: g) 0 (by omega) ⟨by simp, by simp, by simp, [], by simp⟩ ?_
  rintro i fr h' hi ⟨e1, e3, hf, g, rfl⟩
  rcases Nat.lt_or_ge i n.pts.length with hlt | hge
  · obtain ⟨p, hg, hg'⟩ := get_lt hlt
    rw [drop_get hg, ptsErr] at hf
    have ew := wrap_succ' (i := i) (by omega)
    have ht : n.pts.take (i + 1) = n.pts.take i ++ [p] := by rw [List.take_add_one, hg]; rfl
    simp [e1, e3, hlt, hg, hg', ew]
    refine callS.pure _ (fun _ => ref01_Name p.name) ?_
    simp [e1, e3, hlt, hg, hg', ew]
    refine ⟨fun q1 => by rw [hne, hf]; simp [q1], fun q1 => ?_⟩
    refine callS.pure _ (fun _ => ref07_place n.pts i p.name hp) ?_
    simp [e1, e3, hlt, hg, hg', ew, idxPt_nonneg]
    refine ⟨fun q2 => by rw [hne, hf]; simp [q1, q2], fun q2 => ⟨fun q3 => ?_, fun q3 q4 => ?_⟩⟩
    · have q3' : p.kind < 1 ∨ 4 < p.kind := by omega
      rw [hne, hf]; simp [q1, q2, q3']
    · have q3' : ¬ (p.kind < 1 ∨ 4 < p.kind) := by omega
      refine callS.pure _ (fun _ => ref01_Name p.sys) ?_
      simp [e1, e3, hlt, hg, hg', ew]
      refine ⟨fun q5 q6 => ?_, fun q5 => ⟨i + 1, by omega, by omega, by omega, ?_⟩⟩
      · rw [hne, hf]; simp [q1, q2, q3', q5, q6]
      · rw [hf, ht]
        have q5' : ¬ (p.sys ≠ [] ∧ nameB p.sys = false) := by rintro ⟨a, b⟩; rw [q5 a] at b; cases b
        rw [if_neg (by simp [q1]), if_neg (by simp [q2]), if_neg q3', if_neg q5']
  · rw [List.drop_eq_nil_of_le hge, ptsErr] at hf
    rw [hf] at hne
    have hne : netErr n = lksErr n.pts [] n.lks := by simpa using hne
    simp [e1, e3, Nat.not_lt.2 hge]
    refine AWP.up mixed n.lks.length (fun j fr h' => fr 1 = .ptr h.length 0 0 ∧ fr 5 = .int .i64 j ∧
      lksErr n.pts [] n.lks = lksErr n.pts (n.lks.take j) (n.lks.drop j) ∧ ∃ g, h' = h ++ .cells 2 [encNet n] :: g) 0 (by omega) ⟨by simp [e1], by simp, by simp, g, by simp⟩ ?_
    clear e1 e3 hf hi hge
    rintro j fr h' hj ⟨e1, e5, hf, g, rfl⟩
    rcases Nat.lt_or_ge j n.lks.length with hlt | hge
    · obtain ⟨x, hg, hg'⟩ := get_lt hlt
      rw [drop_get hg, lksErr] at hf
      have hlk : (n.lks.take j).any (fun y => decide (y.src = x.src) && decide (y.dst = x.dst)) = hasLk (n.lks.take j) x.src x.dst := rfl
      rw [hlk] at hf
      have ew := wrap_succ' (i := j) (by omega)
      have ht : n.lks.take (j + 1) = n.lks.take j ++ [x] := by rw [List.take_add_one, hg]; rfl
      simp [e1, e5, hlt, hg, hg', ew]
      refine callS.pure _ (fun _ => ref07_place n.pts 64 x.src hp) ?_
      simp [e1, e5, hlt, hg, hg', ew, idxPt_lt, hasPt_take_len n.pts _ 64 (by omega)]
      refine callS.pure _ (fun _ => ref07_place n.pts 64 x.dst hp) ?_
      simp [e1, e5, hlt, hg, hg', ew, idxPt_lt, hasPt_take_len n.pts _ 64 (by omega)]
      refine ⟨fun q => ?_, fun q1 q2 q3 => ?_⟩
      · rw [hne, hf, if_pos (by rcases q with (q | q) | q <;> simp [q])]
      refine AWP.up mixed j (fun k fr h' => fr 1 = .ptr h.length 0 0 ∧ fr 5 = .int .i64 j ∧ fr 6 = .ptr (h.length + (g.length + 1)) 0 0 ∧ fr 7 = .int .i64 k ∧ hasLk (n.lks.take k) x.src x.dst = false ∧
        h' = h ++ .cells 2 [encNet n] :: (g ++ [.cells 4 [encLk x]])) 0 (by omega) ⟨by simp [e1], by simp [e5], by simp, by simp, by simp [hasLk], by simp⟩ ?_
      clear e1 e5
      rintro k fr h' hk ⟨e1, e5, e6, e7, hno, rfl⟩
      rcases Nat.lt_or_ge k j with hlt2 | hge2
      · obtain ⟨y, hy, hy'⟩ := get_lt (l := n.lks) (i := k) (by omega)
        have ew2 := wrap_succ' (i := k) (by omega)
        have hk2 : k < n.lks.length := by omega
        have hno2 : hasLk (n.lks.take (k + 1)) x.src x.dst = (decide (y.src = x.src) && decide (y.dst = x.dst)) := by
          rw [List.take_add_one, hy, hasLk, List.any_append]
          rw [hasLk] at hno
          rw [hno]; simp
        simp [e1, e5, e6, e7, hlt2, hk2, hy, hy', ew2]
        refine ⟨by decide, fun s1 s2 => ?_, fun s1 => ⟨k + 1, by omega, by omega, by omega, ?_⟩⟩
        · have : hasLk (n.lks.take j) x.src x.dst = true := by
            rw [hasLk, List.any_eq_true]
            refine ⟨y, ?_, by simp [s1, s2]⟩
            rw [List.mem_iff_getElem?]
            exact ⟨k, by rw [List.getElem?_take_of_lt hlt2]; exact hy⟩
          rw [hne, hf, if_neg (by simp [q1, q2, q3]), if_pos this]
        · rw [hno2]
          by_cases s2 : y.src = x.src
          · simp [s1 s2]
          · simp [s2]
      · obtain rfl : k = j := by omega
        simp [e1, e5, e6, e7, ew]
        refine ⟨fun q5 => ?_, fun q5 q6 q7 => ⟨k + 1, by omega, by omega, by omega, ?_⟩⟩
        · rw [hne, hf, if_neg (by simp [q1, q2, q3]), if_neg (by simp [hno]), if_pos (by omega)]
        · rw [hf, ht, if_neg (by simp [q1, q2, q3]), if_neg (by simp [hno]), if_neg (by omega)]
    · rw [List.drop_eq_nil_of_le hge, lksErr] at hf
      simp [e1, e5, Nat.not_lt.2 hge, hne, hf]
theorem ref07_valid (n : Net) (hp : n.pts.length ≤ 1000) (hl : n.lks.length ≤ 1000) : ACalls Tryz.prog gl 64 [.agg (encNet n)] h fun v h' => v = .agg (encNet (validN n)) ∧ h' = h := by
  refine ACalls.fresh (ACalls.body Tryz.f64 _ mixed Tryz.func64 rfl rfl (by simp [Tryz.ntmps64]) ?_)
  simp
  refine callS.pure _ (fun _ => ref07_Check n hp hl) ?_
  simp
  refine ⟨fun hz => ?_, fun hz => ?_⟩
  · simp [validN, hz]
    exact .agg' (.cons .nil (.cons .nil .nil))
  · simp [validN, hz]
    exact .data _ (by simp)
theorem ref07_Find (n : Net) (s : Bytes) (hp : n.pts.length ≤ 1000) (hl : n.lks.length ≤ 1000) : ACalls Tryz.prog gl 41 [.agg (encNet n), .str s] h fun v h' => v = .tup [.agg (encPt ((findPt n s).getD pt0)), .bool (findPt n s).isSome] ∧ h' = h := by
  refine ACalls.data (by simp) (ACalls.body Tryz.f41 _ mixed Tryz.func41 rfl rfl (by simp [Tryz.ntmps41]) ?_)
  simp
  refine callS.pure _ (fun _ => ref07_valid n hp hl) ?_
  have hv := validN_len n
  rw [findPt_eq]
  generalize validN n = v at *
  simp
  refine callS.pure _ (fun _ => ref07_place v.pts 64 s (by omega)) ?_
  rw [List.take_of_length_le (by omega)]
  rcases idxI_spec (fun p : Pt => decide (p.name = s)) v.pts with ⟨h1, h2⟩ | ⟨k, x, h1, h2, h3⟩
  · rw [h1, h2]
    simp [pt0]
  · rw [h1, h3]
    obtain ⟨hk, hk'⟩ := List.getElem?_eq_some_iff.1 h2
    have hk0 : ¬ (k : Int) < 0 := by omega
    simp [hk, hk', h2]
end Go.Proofs.YtiidghfioofpkaaGreat
