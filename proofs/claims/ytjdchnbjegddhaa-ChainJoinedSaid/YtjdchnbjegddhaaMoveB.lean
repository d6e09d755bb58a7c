/-
  Contracts: feasible passages, paths within a system.
-/
import Derived.Test.YtjdchnbjegddhaaMoveA
set_option linter.unusedVariables false
set_option linter.unusedSimpArgs false
set_option maxRecDepth 100000
namespace Go.Proofs.Ytjdchnbjegddhaa
open Go Go.Abs Go.Toll
variable {gl : Globs} {h : AHeap}

theorem feas_eq {v : Net} (ok : NetOk v) (a b : Bytes) (s t : Int) : feasM v a b s t = (hasPt v.pts a && hasPt v.pts b && isTimeB s && isTimeB t && decide (leastM v a b ≤ t - s)) := by
  have h := leastM_pos ok a b
  unfold feasM laterB
  by_cases c : leastM v a b ≤ t - s
  · have : s < t := by omega
    simp [this, c, Bool.and_assoc]
  · simp [c]
set_option maxHeartbeats 4000000 in
theorem topology_Feasible (t : Topo) (a b : TPass) (hp : t.net.pts.length ≤ 1000) (hl : t.net.lks.length ≤ 1000) (hs : t.sys.length ≤ 1000) : ACalls Try.prog gl 27 [.agg (encTopo t), .agg (encPass a), .agg (encPass b)] h fun x h' => x = .bool (feasM (validT t).net a.point b.point a.time b.time) ∧ h' = h := by
  refine ACalls.data (.bool _) (ACalls.body Try.f27 _ mixed Try.func27 rfl rfl (by simp [Try.ntmps27]) ?_)
  simp
  refine callS.pure _ (fun _ => topology_valid t hp hl hs) ?_
  have hv := validT_len t
  have hvn := validN_T t
  have ok := okT t
  have ha := findPt_v t a.point
  have hb := findPt_v t b.point
  generalize validT t = v at *
  rw [feas_eq ok]
  simp
  refine callS.pure _ (fun _ => graph_Find v.net a.point (by omega) (by omega)) ?_
  rw [ha]
  generalize (findPt v.net a.point).getD pt0 = P
  simp
  refine callS.pure _ (fun _ => graph_Find v.net b.point (by omega) (by omega)) ?_
  rw [hb]
  generalize (findPt v.net b.point).getD pt0 = Q
  cases qa : hasPt v.net.pts a.point with
  | false =>
    simp
    refine callS.pure (.bool true) (fun c => by cases c) ?_
    simp
    refine callS.pure (.bool true) (fun c => by cases c) ?_
    simp
  | true =>
    cases qb : hasPt v.net.pts b.point with
    | false =>
      simp
      refine callS.pure (.bool true) (fun c => by cases c) ?_
      simp
      refine callS.pure (.bool true) (fun c => by cases c) ?_
      simp
    | true =>
      simp
      refine callS.pure _ (fun _ => topology_isTime a.time) ?_
      cases qs : isTimeB a.time with
      | false =>
        simp
        refine callS.pure (.bool true) (fun c => by cases c) ?_
        simp
      | true =>
        simp
        refine callS.pure _ (fun _ => topology_isTime b.time) ?_
        cases qt : isTimeB b.time with
        | false => simp
        | true =>
          have r1 := isTime_range qs
          have r2 := isTime_range qt
          have ewd : IntKind.i64.wrap (b.time - a.time) = b.time - a.time := wrap64_of (by omega) (by omega)
          unfold leastM
          by_cases e : a.point = b.point
          · simp [e, ewd]
          · simp [e, ewd]
            have c1 := fun H : AHeap => graph_Shortest (gl := gl) (h := H) v.net a.point b.point (by omega) (by omega)
            rw [hvn] at c1
            unfold bestV at c1
            rcases hbp : bestP v.net a.point b.point with _ | ⟨p, d⟩
            · rw [hbp] at c1
              refine callS.pure _ (fun _ => c1 _) ?_
              simp [ewd]
            · rw [hbp] at c1
              refine callS.pure _ (fun _ => c1 _) ?_
              simp [ewd]
set_option maxHeartbeats 4000000 in
theorem ref18_Feasible (t : Topo) (a b : TPass) (hp : t.net.pts.length ≤ 1000) (hl : t.net.lks.length ≤ 1000) (hs : t.sys.length ≤ 1000) : ACalls Try.prog gl 28 [.agg (encTopo t), .agg (encPass a), .agg (encPass b)] h fun x h' => x = .bool (feasM (validT t).net a.point b.point a.time b.time) ∧ h' = h := by
  refine ACalls.data (.bool _) (ACalls.body Try.f28 _ mixed Try.func28 rfl rfl (by simp [Try.ntmps28]) ?_)
  simp
  refine callS.pure _ (fun _ => ref18_valid t hp hl hs) ?_
  have c1 := fun H : AHeap => ref18_known (gl := gl) (h := H) t a b
  have c2 := fun H : AHeap => ref18_Least (gl := gl) (h := H) t a.point b.point
  have c3 := fun H : AHeap => ref18_later (gl := gl) (h := H) a b
  generalize validT t = v at *
  unfold feasM
  simp
  refine ⟨by decide, ?_⟩
  refine callS.pure _ (fun _ => c1 _) ?_
  cases qa : (hasPt v.net.pts a.point && hasPt v.net.pts b.point) with
  | false =>
    simp
    refine callS.pure (.bool true) (fun c => by cases c) ?_
    simp
    refine callS.pure (.int .i64 0) (fun c => by cases c) ?_
    simp
  | true =>
    simp
    refine callS.pure _ (fun _ => c3 _) ?_
    cases ql : laterB a.time b.time with
    | false =>
      simp
      refine callS.pure (.int .i64 0) (fun c => by cases c) ?_
      simp
    | true =>
      have hl := ql
      unfold laterB at hl
      rw [Bool.and_eq_true, Bool.and_eq_true] at hl
      have r1 := isTime_range hl.1.1
      have r2 := isTime_range hl.1.2
      have ewd : IntKind.i64.wrap (b.time - a.time) = b.time - a.time := wrap64_of (by omega) (by omega)
      simp [ewd]
      refine callS.pure _ (fun _ => c2 _) ?_
      simp [ewd]
theorem inSys_none {v : Net} {y s : Bytes} (h : findPt v s = none) : inSys v y s = false := by unfold inSys; rw [h]
theorem inSys_some {v : Net} {y s : Bytes} {p : Pt} (h : findPt v s = some p) : inSys v y s = decide (p.kind = 4 ∨ p.sys = y) := by unfold inSys; rw [h]
end Go.Proofs.Ytjdchnbjegddhaa
