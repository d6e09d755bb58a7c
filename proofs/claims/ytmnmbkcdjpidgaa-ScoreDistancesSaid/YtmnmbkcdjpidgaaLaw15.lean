/-
  Contracts: the laws of costs.
-/
import Derived.Test.YtmnmbkcdjpidgaaAwake15
import Derived.Test.YtmnmbkcdjpidgaaTollFar
import Derived.Test.YtmnmbkcdjpidgaaTollInsert
import Derived.Test.YtmnmbkcdjpidgaaTollSeenShape
set_option linter.unusedVariables false
set_option linter.unusedSimpArgs false
set_option maxRecDepth 100000
namespace Go.Proofs.Ytmnmbkcdjpidgaa
open Go Go.Abs Go.Toll
variable {gl : Globs} {h : AHeap}

theorem law_Pairs (a b : TSeen) (p : TPass) (lane : Int) (hp : p.dat) : ACalls Try.prog gl 3 [.agg (encSeen a), .agg (encSeen b), .agg (encPass p), .int .i64 lane] h fun v h' => v = .bool true := by
  refine ACalls.mono (ACalls.data (.bool true) (ACalls.body Try.f3 _ mixed Try.func3 rfl rfl (by simp [Try.ntmps3]) ?_)) fun _ _ h => h.1
  simp
  refine callS.pure _ (fun _ => law_isTime a.time) ?_
  simp
  refine callS.pure _ (fun _ => law_isTime b.time) ?_
  simp
  refine callS.pure _ (fun _ => law_isTime p.time) ?_
  simp
  refine ⟨fun _ => ?_, fun c1 c2 c3 => ?_⟩
  · refine callS.pure _ (fun _ => law_awake) ?_
    simp
  · have ha := mid_time c1
    have hb := mid_time c2
    have hc := mid_time c3
    refine ⟨by decide, ?_⟩
    refine callS.pure _ (fun _ => score_Pair a b ha hb) ?_
    simp
    refine callS.pure _ (fun _ => ref15_Pair a b ha hb) ?_
    simp
    refine callS.pure _ (fun _ => score_Axles p lane b hc hb) ?_
    simp
    refine callS.pure _ (fun _ => ref15_Axles p lane b hc hb) ?_
    simp
    refine callS.pure _ (fun _ => law_awake) ?_
    simp
theorem law_Merges (l : List TSeen) (hs : ∀ s ∈ l, s.short) : ACalls Try.prog gl 4 [.ro (l.map encSeen)] h fun v h' => v = .bool true := by
  refine ACalls.mono (ACalls.data (.bool true) (ACalls.body Try.f4 _ mixed Try.func4 rfl rfl (by simp [Try.ntmps4]) ?_)) fun _ _ h => h.1
  simp
  refine callS.pure _ (fun _ => law_great l) ?_
  simp
  refine ⟨fun _ => ?_, fun c1 => ?_⟩
  · refine callS.pure _ (fun _ => law_awake) ?_
    simp
  · have hl : l.length ≤ 30 := by simp [greatB] at c1; omega
    refine callS.pure _ (fun _ => score_Merge l (by omega)) ?_
    simp
    refine callS.pure _ (fun _ => ref15_Merge l (by omega) hs) ?_
    simp
    have hlen := len_groups l
    have hmem := fun g hg s hs' => hs s (mem_groups (l := l) (g := g) (s := s) hg hs')
    generalize mergeG [] (sortS l) = G at *
    refine AWP.up mixed G.length (fun i fr h' => fr 3 = .ro (G.map fun g => [.ro (g.map encSeen)]) ∧ fr 4 = .ro (G.map fun g => [.ro (g.map encSeen)]) ∧ fr 19 = .int .i64 G.length ∧ fr 20 = .int .i64 i ∧ ∃ g, h' = h ++ g) 0 (by omega)
      ⟨by simp, by simp, by simp, by simp, [], by simp⟩ ?_
    rintro i fr h' hi ⟨e3, e4, e19, e20, g, rfl⟩
    rcases Nat.lt_or_ge i G.length with hlt | hge
    · obtain ⟨q, hq, hq'⟩ := get_lt hlt
      have ew := wrap_succ' (i := i) (by omega)
      simp [e3, e4, e19, e20, hlt, hq, hq', ew]
      refine ⟨by decide, ?_⟩
      refine callS.pure _ (fun _ => ref13_SameSeens q q (by have := hlen.2 q (List.mem_of_getElem? hq); omega) (hmem q (List.mem_of_getElem? hq))) ?_
      simp [e3, e4, e19, e20, hlt, hq, hq', ew]
      exact ⟨i + 1, by omega, by omega, by omega⟩
    · simp [e3, e4, e19, e20, Nat.not_lt.2 hge]
      refine callS.pure _ (fun _ => law_awake) ?_
      simp
theorem law_Confidences (a b c d : Int) : ACalls Try.prog gl 6 [.int .i64 a, .int .i64 b, .int .i64 c, .int .i64 d] h fun v h' => v = .bool true := by
  refine ACalls.mono (ACalls.data (.bool true) (ACalls.body Try.f6 _ mixed Try.func6 rfl rfl (by simp [Try.ntmps6]) ?_)) fun _ _ h => h.1
  simp
  refine ⟨fun _ => ?_, fun c1 c2 c3 c4 c5 c6 c7 c8 => ?_⟩
  · refine callS.pure _ (fun _ => law_awake) ?_
    simp
  · have h1 : confOk a b := by unfold confOk; omega
    have h2 : confOk c b := by unfold confOk; omega
    have h3 : confOk a d := by unfold confOk; omega
    refine callS.pure _ (fun _ => score_Confidence a b h1) ?_
    simp
    refine callS.pure _ (fun _ => ref15_Confidence a b h1) ?_
    simp
    refine callS.pure _ (fun _ => score_Confidence c b h2) ?_
    simp
    refine ⟨⟨by unfold confI; omega, by unfold confI; omega⟩, fun _ _ _ => ?_⟩
    refine callS.pure _ (fun _ => score_Confidence a d h3) ?_
    have hbd : ¬ b < 0 → confI a b ≤ confI a d := fun hb => by
      unfold confI
      rw [if_neg (by omega), if_neg (by omega)]
      omega
    by_cases hb : b < 0
    · simp [hb]
      refine callS.pure _ (fun _ => law_awake) ?_
      simp
    · have := hbd hb
      simp [hb, this]
      refine callS.pure _ (fun _ => law_awake) ?_
      simp
set_option maxHeartbeats 2000000 in
theorem law_Distances (a b : TSeen) (p : TPass) (n : Int) (hp : p.dat) : ACalls Try.prog gl 7 [.agg (encSeen a), .agg (encSeen b), .agg (encPass p), .int .i64 n] h fun v h' => v = .bool true := by
  refine ACalls.mono (ACalls.data (.bool true) (ACalls.body Try.f7 _ mixed Try.func7 rfl rfl (by simp [Try.ntmps7]) ?_)) fun _ _ h => h.1
  simp
  refine callS.pure _ (fun _ => law_isTime a.time) ?_
  simp
  refine callS.pure _ (fun _ => law_isTime b.time) ?_
  simp
  refine callS.pure _ (fun _ => law_isTime p.time) ?_
  simp
  refine ⟨fun _ => ?_, fun c1 c2 c3 c4 c5 => ?_⟩
  · refine callS.pure _ (fun _ => law_awake) ?_
    simp
  · have ha := mid_time c1
    have hb := mid_time c2
    have hc := mid_time c3
    refine ⟨by decide, ?_⟩
    refine callS.pure _ (fun _ => score_Pair a b ha hb) ?_
    simp
    refine callS.pure _ (fun _ => score_Axles p a.lane b hc hb) ?_
    simp
    have w1 : IntKind.i64.wrap (b.time + n) = b.time + n := wrap64_of (by unfold mid at hb; omega) (by unfold mid at hb; omega)
    have w2 : IntKind.i64.wrap (b.time - n) = b.time - n := wrap64_of (by unfold mid at hb; omega) (by unfold mid at hb; omega)
    have hr1 := pairI_range a b
    have hr2 := axlesI_range p.point p.time a.lane b
    have rb := isTime_range c2
    have ra := isTime_range c1
    have rp := isTime_range c3
    simp only [w1, w2]
    refine ⟨by omega, fun _ _ _ _ => ?_⟩
    have f1 := pair_far a b n c4
    have f2 := axles_far p.point p.time a.lane b n c4
    refine ⟨fun q => ?_, fun q => ?_⟩
    · have ex : awayI a.time b.time n = b.time + n := by rw [awayI, if_pos (by omega)]
      rw [ex] at f1
      refine callS.pure _ (fun _ => score_Pair a { b with time := b.time + n } ha (show mid (b.time + n) by unfold mid; omega)) ?_
      simp
      refine callS.pure _ (fun _ => law_isTime (b.time + n)) ?_
      simp [w1, w2]
      refine ⟨fun a1 a2 => ⟨⟨a1, a2⟩, fun a3 => ⟨⟨a1, a2⟩, a3⟩⟩, fun a1 a2 => f1 a2, fun _ => ⟨fun q2 => ?_, fun q2 => ?_⟩⟩
      · have ey : awayI p.time b.time n = b.time + n := by rw [awayI, if_pos (by omega)]
        rw [ey] at f2
        refine callS.pure _ (fun _ => score_Axles p a.lane { b with time := b.time + n } hc (show mid (b.time + n) by unfold mid; omega)) ?_
        simp
        refine callS.pure _ (fun _ => law_isTime (b.time + n)) ?_
        simp [w1, w2]
        refine ⟨fun a1 a2 => ⟨⟨a1, a2⟩, fun a3 => ⟨⟨a1, a2⟩, a3⟩⟩, fun a1 a2 => f2 a2, fun _ => ?_⟩
        refine callS.pure _ (fun _ => law_awake) ?_
        simp
      · have ey : awayI p.time b.time n = b.time - n := by rw [awayI, if_neg (by omega)]
        rw [ey] at f2
        refine callS.pure _ (fun _ => score_Axles p a.lane { b with time := b.time - n } hc (show mid (b.time - n) by unfold mid; omega)) ?_
        simp
        refine callS.pure _ (fun _ => law_isTime (b.time - n)) ?_
        simp [w1, w2]
        refine ⟨fun a1 a2 => ⟨⟨a1, a2⟩, fun a3 => ⟨⟨a1, a2⟩, a3⟩⟩, fun a1 a2 => f2 a2, fun _ => ?_⟩
        refine callS.pure _ (fun _ => law_awake) ?_
        simp
    · have ex : awayI a.time b.time n = b.time - n := by rw [awayI, if_neg (by omega)]
      rw [ex] at f1
      refine callS.pure _ (fun _ => score_Pair a { b with time := b.time - n } ha (show mid (b.time - n) by unfold mid; omega)) ?_
      simp
      refine callS.pure _ (fun _ => law_isTime (b.time - n)) ?_
      simp [w1, w2]
      refine ⟨fun a1 a2 => ⟨⟨a1, a2⟩, fun a3 => ⟨⟨a1, a2⟩, a3⟩⟩, fun a1 a2 => f1 a2, fun _ => ⟨fun q2 => ?_, fun q2 => ?_⟩⟩
      · have ey : awayI p.time b.time n = b.time + n := by rw [awayI, if_pos (by omega)]
        rw [ey] at f2
        refine callS.pure _ (fun _ => score_Axles p a.lane { b with time := b.time + n } hc (show mid (b.time + n) by unfold mid; omega)) ?_
        simp
        refine callS.pure _ (fun _ => law_isTime (b.time + n)) ?_
        simp [w1, w2]
        refine ⟨fun a1 a2 => ⟨⟨a1, a2⟩, fun a3 => ⟨⟨a1, a2⟩, a3⟩⟩, fun a1 a2 => f2 a2, fun _ => ?_⟩
        refine callS.pure _ (fun _ => law_awake) ?_
        simp
      · have ey : awayI p.time b.time n = b.time - n := by rw [awayI, if_neg (by omega)]
        rw [ey] at f2
        refine callS.pure _ (fun _ => score_Axles p a.lane { b with time := b.time - n } hc (show mid (b.time - n) by unfold mid; omega)) ?_
        simp
        refine callS.pure _ (fun _ => law_isTime (b.time - n)) ?_
        simp [w1, w2]
        refine ⟨fun a1 a2 => ⟨⟨a1, a2⟩, fun a3 => ⟨⟨a1, a2⟩, a3⟩⟩, fun a1 a2 => f2 a2, fun _ => ?_⟩
        refine callS.pure _ (fun _ => law_awake) ?_
        simp
end Go.Proofs.Ytmnmbkcdjpidgaa
