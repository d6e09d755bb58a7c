/-
  Contracts: costs of pairs, and confidence.
-/
import Derived.Test.YtmnmbkcdjpidgaaTab
import Derived.Test.YtmnmbkcdjpidgaaAbsList
import Derived.Test.YtmnmbkcdjpidgaaTollSeen
set_option linter.unusedVariables false
set_option linter.unusedSimpArgs false
set_option maxRecDepth 100000
namespace Go.Proofs.Ytmnmbkcdjpidgaa
open Go Go.Abs Go.Toll
variable {gl : Globs} {h : AHeap}

theorem score_distance (a b : Int) (ha : mid a) (hb : mid b) : ACalls Try.prog gl 28 [.int .i64 a, .int .i64 b] h fun v h' => v = .int .i64 (distI a b) ∧ h' = h := by
  refine ACalls.data (.int _ _) (ACalls.body Try.f28 _ mixed Try.func28 rfl rfl (by simp [Try.ntmps28]) ?_)
  simp
  unfold mid at *
  rw [wrap64_of (by omega) (by omega)]; rfl
theorem score_lacks (s : TSeen) : ACalls Try.prog gl 29 [.agg (encSeen s)] h fun v h' => v = .int .i64 (lackI s.score) ∧ h' = h := by
  refine ACalls.data (.int _ _) (ACalls.body Try.f29 _ mixed Try.func29 rfl rfl (by simp [Try.ntmps29]) ?_)
  have w1 : IntKind.i64.wrap (1000 - min (max s.score 0) 1000) = 1000 - min (max s.score 0) 1000 := wrap64_of (by omega) (by omega)
  have w2 : IntKind.i64.wrap ((1000 - min (max s.score 0) 1000).tdiv 10) = lackI s.score := by
    rw [Int.tdiv_eq_ediv_of_nonneg (by omega)]
    exact wrap64_of (by omega) (by omega)
  simp [w1, w2]
theorem score_Pair (a b : TSeen) (ha : mid a.time) (hb : mid b.time) : ACalls Try.prog gl 12 [.agg (encSeen a), .agg (encSeen b)] h fun v h' => v = .int .i64 (pairI a b) ∧ h' = h := by
  refine ACalls.data (.int _ _) (ACalls.body Try.f12 _ mixed Try.func12 rfl rfl (by simp [Try.ntmps12]) ?_)
  simp
  refine callS.pure _ (fun _ => score_distance a.time b.time ha hb) ?_
  simp
  have hd := distI_nonneg a.time b.time
  refine ⟨fun q => ?_, fun k1 k2 k3 _ k5 => ⟨by decide, ?_⟩⟩
  · rw [pairI, if_pos]
    rcases q with (((q | q) | q) | q) | q
    · exact .inl q
    · exact .inr (.inl q)
    · exact .inr (.inr (.inl q))
    · omega
    · exact .inr (.inr (.inr q))
  have hP : pairI a b = 10 * distI a.time b.time + lackI a.score + lackI b.score + if a.lane ≠ b.lane then 50 else 0 := by
    rw [pairI, if_neg]
    rintro (q | q | q | q)
    · exact q k1
    · exact q k2
    · exact q k3
    · omega
  have h1 := lackI_range a.score
  have h2 := lackI_range b.score
  generalize distI a.time b.time = d at *
  have w1 : IntKind.i64.wrap (10 * d) = 10 * d := wrap64_of (by omega) (by omega)
  have w2 : IntKind.i64.wrap (10 * d + lackI a.score) = 10 * d + lackI a.score := wrap64_of (by omega) (by omega)
  have w3 : IntKind.i64.wrap (10 * d + lackI a.score + lackI b.score) = 10 * d + lackI a.score + lackI b.score := wrap64_of (by omega) (by omega)
  have w4 : IntKind.i64.wrap (10 * d + lackI a.score + lackI b.score + 50) = 10 * d + lackI a.score + lackI b.score + 50 := wrap64_of (by omega) (by omega)
  refine callS.pure _ (fun _ => score_lacks a) ?_
  simp
  refine callS.pure _ (fun _ => score_lacks b) ?_
  simp [w1, w2, w3, w4, hP]
  exact fun q => by rw [if_pos q, Int.add_zero]
theorem score_Axles (p : TPass) (lane : Int) (s : TSeen) (hp : mid p.time) (hs : mid s.time) : ACalls Try.prog gl 14 [.agg (encPass p), .int .i64 lane, .agg (encSeen s)] h fun v h' => v = .int .i64 (axlesI p.point p.time lane s) ∧ h' = h := by
  refine ACalls.data (.int _ _) (ACalls.body Try.f14 _ mixed Try.func14 rfl rfl (by simp [Try.ntmps14]) ?_)
  simp
  refine callS.pure _ (fun _ => score_distance p.time s.time hp hs) ?_
  have hd := distI_nonneg p.time s.time
  simp
  refine ⟨fun q => ?_, fun k1 k2 _ k4 => ?_⟩
  · rw [axlesI, if_pos]
    rcases q with ((q | q) | q) | q
    · exact .inl q
    · exact .inr (.inl q)
    · omega
    · exact .inr (.inr q)
  have hP : axlesI p.point p.time lane s = 5 * distI p.time s.time + if s.lane ≠ lane then 40 else 0 := by
    rw [axlesI, if_neg]
    rintro (q | q | q)
    · exact q k1
    · exact q k2
    · omega
  generalize distI p.time s.time = d at *
  have w1 : IntKind.i64.wrap (5 * d) = 5 * d := wrap64_of (by omega) (by omega)
  have w2 : IntKind.i64.wrap (5 * d + 40) = 5 * d + 40 := wrap64_of (by omega) (by omega)
  simp [w1, w2, hP]
  exact fun q => by rw [if_pos q, Int.add_zero]
theorem ref15_distance (a b : Int) (ha : mid a) (hb : mid b) : ACalls Try.prog gl 30 [.int .i64 a, .int .i64 b] h fun v h' => v = .int .i64 (distI a b) ∧ h' = h := by
  refine ACalls.data (.int _ _) (ACalls.body Try.f30 _ mixed Try.func30 rfl rfl (by simp [Try.ntmps30]) ?_)
  unfold mid at *
  have w1 : IntKind.i64.wrap (b - a) = b - a := wrap64_of (by omega) (by omega)
  have w2 : IntKind.i64.wrap (a - b) = a - b := wrap64_of (by omega) (by omega)
  simp [w1, w2, distI]
  omega
theorem ref15_lacks (s : TSeen) : ACalls Try.prog gl 31 [.agg (encSeen s)] h fun v h' => v = .int .i64 (lackI s.score) ∧ h' = h := by
  refine ACalls.data (.int _ _) (ACalls.body Try.f31 _ mixed Try.func31 rfl rfl (by simp [Try.ntmps31]) ?_)
  have w : ∀ n : Int, 0 ≤ n → n ≤ 1000 → IntKind.i64.wrap ((IntKind.i64.wrap (1000 - n)).tdiv 10) = (1000 - n) / 10 := fun n h1 h2 => by
    have e : IntKind.i64.wrap (1000 - n) = 1000 - n := wrap64_of (by omega) (by omega)
    rw [e, Int.tdiv_eq_ediv_of_nonneg (by omega)]
    exact wrap64_of (by omega) (by omega)
  simp
  refine ⟨fun q => ?_, fun q => ⟨fun q2 => ?_, fun q2 => ?_⟩⟩
  · have := w 0 (by omega) (by omega)
    simp at this
    rw [this, lackI]; omega
  · have := w 1000 (by omega) (by omega)
    simp at this
    rw [this, lackI]; omega
  · rw [w _ q q2, lackI]; omega
theorem ref15_Pair (a b : TSeen) (ha : mid a.time) (hb : mid b.time) : ACalls Try.prog gl 13 [.agg (encSeen a), .agg (encSeen b)] h fun v h' => v = .int .i64 (pairI a b) ∧ h' = h := by
  refine ACalls.data (.int _ _) (ACalls.body Try.f13 _ mixed Try.func13 rfl rfl (by simp [Try.ntmps13]) ?_)
  simp
  refine callS.pure _ (fun _ => ref15_distance a.time b.time ha hb) ?_
  simp
  have hd := distI_nonneg a.time b.time
  refine ⟨fun q => ?_, fun k1 k2 k3 k5 => ⟨by decide, ?_⟩⟩
  · rw [pairI, if_pos]
    rcases q with ((q | q) | q) | q
    · exact .inl q
    · exact .inr (.inl q)
    · exact .inr (.inr (.inl q))
    · exact .inr (.inr (.inr q))
  have hP : pairI a b = 10 * distI a.time b.time + lackI a.score + lackI b.score + if a.lane ≠ b.lane then 50 else 0 := by
    rw [pairI, if_neg]
    rintro (q | q | q | q)
    · exact q k1
    · exact q k2
    · exact q k3
    · omega
  have h1 := lackI_range a.score
  have h2 := lackI_range b.score
  have hdc := fun h => ref15_distance (gl := gl) (h := h) a.time b.time ha hb
  generalize distI a.time b.time = d at *
  have w1 : IntKind.i64.wrap (10 * d) = 10 * d := wrap64_of (by omega) (by omega)
  have w2 : IntKind.i64.wrap (10 * d + lackI a.score) = 10 * d + lackI a.score := wrap64_of (by omega) (by omega)
  have w3 : IntKind.i64.wrap (10 * d + lackI a.score + lackI b.score) = 10 * d + lackI a.score + lackI b.score := wrap64_of (by omega) (by omega)
  have w4 : IntKind.i64.wrap (10 * d + lackI a.score + lackI b.score + 50) = 10 * d + lackI a.score + lackI b.score + 50 := wrap64_of (by omega) (by omega)
  refine callS.pure _ (fun _ => hdc _) ?_
  simp
  refine callS.pure _ (fun _ => ref15_lacks a) ?_
  simp
  refine callS.pure _ (fun _ => ref15_lacks b) ?_
  simp [w1, w2, w3, w4, hP]
  exact fun q => by rw [if_pos q, Int.add_zero]
theorem ref15_Axles (p : TPass) (lane : Int) (s : TSeen) (hp : mid p.time) (hs : mid s.time) : ACalls Try.prog gl 15 [.agg (encPass p), .int .i64 lane, .agg (encSeen s)] h fun v h' => v = .int .i64 (axlesI p.point p.time lane s) ∧ h' = h := by
  refine ACalls.data (.int _ _) (ACalls.body Try.f15 _ mixed Try.func15 rfl rfl (by simp [Try.ntmps15]) ?_)
  simp
  refine callS.pure _ (fun _ => ref15_distance p.time s.time hp hs) ?_
  have hd := distI_nonneg p.time s.time
  simp
  refine ⟨fun q => ?_, fun k1 k2 k4 => ?_⟩
  · rw [axlesI, if_pos]
    rcases q with (q | q) | q
    · exact .inl q
    · exact .inr (.inl q)
    · exact .inr (.inr q)
  have hP : axlesI p.point p.time lane s = 5 * distI p.time s.time + if s.lane ≠ lane then 40 else 0 := by
    rw [axlesI, if_neg]
    rintro (q | q | q)
    · exact q k1
    · exact q k2
    · omega
  have hdc := fun h => ref15_distance (gl := gl) (h := h) p.time s.time hp hs
  generalize distI p.time s.time = d at *
  have w1 : IntKind.i64.wrap (5 * d) = 5 * d := wrap64_of (by omega) (by omega)
  have w2 : IntKind.i64.wrap (5 * d + 40) = 5 * d + 40 := wrap64_of (by omega) (by omega)
  refine callS.pure _ (fun _ => hdc _) ?_
  simp [w1, w2, hP]
  exact fun q => by rw [if_pos q, Int.add_zero]
/-- Numbers for which a confidence is specified. -/
def confOk (best margin : Int) : Prop := 0 ≤ best ∧ best ≤ 34359738368 ∧ -1 ≤ margin ∧ margin ≤ 34359738368
theorem score_Confidence (best margin : Int) (hc : confOk best margin) : ACalls Try.prog gl 23 [.int .i64 best, .int .i64 margin] h fun v h' => v = .int .i64 (confI best margin) ∧ h' = h := by
  refine ACalls.data (.int _ _) (ACalls.body Try.f23 _ mixed Try.func23 rfl rfl (by simp [Try.ntmps23]) ?_)
  unfold confOk at hc
  have w : ∀ m : Int, -1 ≤ m → m ≤ 34359738368 → IntKind.i64.wrap (IntKind.i64.wrap (600 + IntKind.i64.wrap (2 * m)) - best) = 600 + 2 * m - best := fun m h1 h2 => by
    have e1 : IntKind.i64.wrap (2 * m) = 2 * m := wrap64_of (by omega) (by omega)
    have e2 : IntKind.i64.wrap (600 + 2 * m) = 600 + 2 * m := wrap64_of (by omega) (by omega)
    rw [e1, e2]
    exact wrap64_of (by omega) (by omega)
  have w1 := w 1000 (by omega) (by omega)
  have w2 := w margin (by omega) (by omega)
  simp [w1, w2]
  refine ⟨fun q => ?_, fun q => ?_⟩
  · have := w1; simp at this; simp [this, confI, q]
  · simp [confI, q]
theorem ref15_Confidence (best margin : Int) (hc : confOk best margin) : ACalls Try.prog gl 24 [.int .i64 best, .int .i64 margin] h fun v h' => v = .int .i64 (confI best margin) ∧ h' = h := by
  refine ACalls.data (.int _ _) (ACalls.body Try.f24 _ mixed Try.func24 rfl rfl (by simp [Try.ntmps24]) ?_)
  unfold confOk at hc
  have w : ∀ m : Int, -1 ≤ m → m ≤ 34359738368 → IntKind.i64.wrap (IntKind.i64.wrap (600 + IntKind.i64.wrap (2 * m)) - best) = 600 + 2 * m - best := fun m h1 h2 => by
    have e1 : IntKind.i64.wrap (2 * m) = 2 * m := wrap64_of (by omega) (by omega)
    have e2 : IntKind.i64.wrap (600 + 2 * m) = 600 + 2 * m := wrap64_of (by omega) (by omega)
    rw [e1, e2]
    exact wrap64_of (by omega) (by omega)
  have w1 := w 1000 (by omega) (by omega)
  have w2 := w margin (by omega) (by omega)
  simp at w1
  simp [w1, w2]
  by_cases q : margin = -1
  · simp [q, confI]; omega
  · simp [q, confI]; omega
theorem law_isTime (t : Int) : ACalls Try.prog gl 10 [.int .i64 t] h fun v h' => v = .bool (isTimeB t) ∧ h' = h := by
  refine ACalls.data (.bool _) (ACalls.body Try.f10 _ mixed Try.func10 rfl rfl (by simp [Try.ntmps10]) ?_)
  simp [isTimeB]
theorem mid_time {t : Int} (h : isTimeB t = true) : mid t := by
  have := isTime_range h
  unfold mid; omega
end Go.Proofs.Ytmnmbkcdjpidgaa
