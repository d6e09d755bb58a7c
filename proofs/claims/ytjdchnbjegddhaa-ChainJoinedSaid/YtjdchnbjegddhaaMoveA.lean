/-
  Contracts: points of systems, feasible passages, paths within a system.
-/
import Derived.Test.YtjdchnbjegddhaaTopo
import Derived.Test.YtjdchnbjegddhaaClock
import Derived.Test.YtjdchnbjegddhaaGrC
import Derived.Test.YtjdchnbjegddhaaGrD
import Derived.Test.YtjdchnbjegddhaaSortLay
import Derived.Test.YtjdchnbjegddhaaTollMove
set_option linter.unusedVariables false
set_option linter.unusedSimpArgs false
set_option maxRecDepth 100000
namespace Go.Proofs.Ytjdchnbjegddhaa
open Go Go.Abs Go.Toll
variable {gl : Globs} {h : AHeap}

theorem topology_isTime (t : Int) : ACalls Try.prog gl 41 [.int .i64 t] h fun x h' => x = .bool (isTimeB t) ∧ h' = h := by
  refine ACalls.body Try.f41 _ mixed Try.func41 rfl rfl (by simp [Try.ntmps41]) ?_
  simp [isTimeB]
def pointsI (v : Net) (y : Bytes) (k : Int) (i : Nat) : List Bytes := ((v.pts.take i).filter fun p => decide (p.sys = y ∧ p.kind = k)).map (·.name)
theorem pointsI_succ {v : Net} {y : Bytes} {k : Int} {i : Nat} {p : Pt} (h : v.pts[i]? = some p) : pointsI v y k (i + 1) = if p.sys = y ∧ p.kind = k then pointsI v y k i ++ [p.name] else pointsI v y k i := by
  rw [pointsI, List.take_add_one, h, Option.toList_some, List.filter_append, List.map_append, pointsI]
  by_cases c : p.sys = y ∧ p.kind = k
  · rw [if_pos c]; simp [c]
  · rw [if_neg c]; simp [c]
theorem pointsI_all (v : Net) (y : Bytes) (k : Int) : pointsI v y k v.pts.length = pointsL v y k := by rw [pointsI, List.take_length]; rfl
theorem pointsI_len (v : Net) (y : Bytes) (k : Int) (i : Nat) : (pointsI v y k i).length ≤ i := by
  rw [pointsI, List.length_map]
  exact Nat.le_trans (List.length_filter_le _ _) (by simp; omega)
theorem findPt_v (t : Topo) (s : Bytes) : (findPt (validT t).net s).isSome = hasPt (validT t).net.pts s := by rw [find_pt, validN_T]
theorem ref18_known (t : Topo) (a b : TPass) : ACalls Try.prog gl 43 [.agg (encTopo (validT t)), .agg (encPass a), .agg (encPass b)] h fun x h' => x = .bool (hasPt (validT t).net.pts a.point && hasPt (validT t).net.pts b.point) ∧ h' = h := by
  refine ACalls.data (.bool _) (ACalls.body Try.f43 _ mixed Try.func43 rfl rfl (by simp [Try.ntmps43]) ?_)
  have hv := validT_len t
  have ha := findPt_v t a.point
  have hb := findPt_v t b.point
  generalize validT t = v at *
  simp
  refine callS.pure _ (fun _ => ref07_Find v.net a.point (by omega) (by omega)) ?_
  rw [ha]
  generalize (findPt v.net a.point).getD pt0 = P
  simp
  refine callS.pure _ (fun _ => ref07_Find v.net b.point (by omega) (by omega)) ?_
  rw [hb]
  generalize (findPt v.net b.point).getD pt0 = Q
  cases hasPt v.net.pts a.point <;> simp
theorem ref18_later (a b : TPass) : ACalls Try.prog gl 44 [.agg (encPass a), .agg (encPass b)] h fun x h' => x = .bool (laterB a.time b.time) ∧ h' = h := by
  refine ACalls.data (.bool _) (ACalls.body Try.f44 _ mixed Try.func44 rfl rfl (by simp [Try.ntmps44]) ?_)
  simp
  refine callS.pure _ (fun _ => ref04_IsTime a.time) ?_
  unfold laterB
  cases isTimeB a.time with
  | false =>
    simp
    refine callS.pure (.bool true) (fun c => by cases c) ?_
    simp
  | true =>
    simp
    refine callS.pure _ (fun _ => ref04_IsTime b.time) ?_
    cases isTimeB b.time <;> simp
theorem ref18_Least (t : Topo) (a b : Bytes) : ACalls Try.prog gl 45 [.agg (encTopo (validT t)), .str a, .str b] h fun x h' => x = .int .i64 (leastM (validT t).net a b) ∧ h' = h := by
  refine ACalls.data (.int _ _) (ACalls.body Try.f45 _ mixed Try.func45 rfl rfl (by simp [Try.ntmps45]) ?_)
  have hv := validT_len t
  have hvn := validN_T t
  generalize validT t = v at *
  unfold leastM
  by_cases e : a = b
  · simp [e]
  · simp [e]
    have c1 := fun H : AHeap => ref07_Shortest (gl := gl) (h := H) v.net a b (by omega) (by omega)
    rw [hvn] at c1
    unfold bestV at c1
    rcases hb : bestP v.net a b with _ | ⟨p, d⟩
    · rw [hb] at c1
      refine callS.pure _ (fun _ => c1 _) ?_
      simp
    · rw [hb] at c1
      refine callS.pure _ (fun _ => c1 _) ?_
      simp
end Go.Proofs.Ytjdchnbjegddhaa
