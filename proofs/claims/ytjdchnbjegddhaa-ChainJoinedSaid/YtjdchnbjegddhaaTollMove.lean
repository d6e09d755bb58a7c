/-
  Movements in a topology: routes, feasible passages, paths within a system.
-/
import Derived.Test.YtjdchnbjegddhaaTollGraph
import Derived.Test.YtjdchnbjegddhaaTollNet
import Derived.Test.YtjdchnbjegddhaaTollSeen
set_option linter.unusedVariables false
set_option linter.unusedSimpArgs false
namespace Go.Toll
open Go Go.Abs

theorem validN_T (t : Topo) : validN (validT t).net = (validT t).net := by rw [validN, if_pos (validT_net t)]
theorem okT (t : Topo) : NetOk (validT t).net := netErr_ok (validT_net t)
def laterB (s t : Int) : Bool := isTimeB s && isTimeB t && decide (s < t)
/-- A path takes as long. -/
def tookB (v : Net) (dt : Int) (q : List Bytes) : Bool := decide ((boundsM v q).2.2 = 0 ∧ (boundsM v q).1 ≤ dt ∧ dt ≤ (boundsM v q).2.1)
def routeL (v : Net) (a b : Bytes) (dt : Int) : List (List Bytes) := (pathsM v a b).1.filter (tookB v dt)
def routeM (v : Net) (a b : Bytes) (s t : Int) : List (List Bytes) × Int :=
  if (hasPt v.pts a && hasPt v.pts b) = false then ([], 16)
  else if laterB s t = false then ([], 12)
  else if (pathsM v a b).2 ≠ 0 then ([], (pathsM v a b).2)
  else if routeL v a b (t - s) = [] then ([], 21) else (routeL v a b (t - s), 0)
def leastM (v : Net) (a b : Bytes) : Int := if a = b then 60 else match bestP v a b with
  | some (_, d) => d
  | none => 300
def feasM (v : Net) (a b : Bytes) (s t : Int) : Bool := hasPt v.pts a && hasPt v.pts b && laterB s t && decide (leastM v a b ≤ t - s)
def inSys (v : Net) (y : Bytes) (s : Bytes) : Bool := match findPt v s with
  | some p => decide (p.kind = 4 ∨ p.sys = y)
  | none => false
def coversM (t : Topo) (l : List Bytes) (y : Bytes) : Bool := decide (l ≠ []) && (findSys (validT t).sys y).isSome && l.all (inSys (validT t).net y)
def pointsL (v : Net) (y : Bytes) (k : Int) : List Bytes := (v.pts.filter fun p => decide (p.sys = y ∧ p.kind = k)).map (·.name)
def pointsM (v : Net) (y : Bytes) (k : Int) : List Bytes := sortT (pointsL v y k)
section
variable {v : Net}
theorem pointsL_nd (ok : NetOk v) (y : Bytes) (k : Int) : (pointsL v y k).Nodup := List.Nodup.sublist (List.Sublist.map Pt.name List.filter_sublist) ok.nd
theorem pointsM_ins (ok : NetOk v) (y : Bytes) (k : Int) : insF [] (pointsL v y k) = pointsM v y k := insF_sort (pointsL_nd ok y k)
theorem pointsL_mem {y : Bytes} {k : Int} {s : Bytes} : s ∈ pointsL v y k ↔ ∃ p ∈ v.pts, p.sys = y ∧ p.kind = k ∧ p.name = s := by
  rw [pointsL, List.mem_map]
  simp [List.mem_filter, and_assoc]
theorem leastM_pos (ok : NetOk v) (a b : Bytes) : 1 ≤ leastM v a b := by
  unfold leastM
  split
  · omega
  · rename_i hab
    rcases bestP_spec ok a b with ⟨l, d, e, hb, _⟩ | ⟨e, _⟩
    · rw [e]
      obtain ⟨s, h1, h2⟩ := hb.walk
      have h3 := (wk_rng ok h1).1
      have hl : l ≠ [] := by rintro rfl; exact hab hb.ends
      have := List.length_pos_iff.2 hl
      show 1 ≤ d
      omega
    · rw [e]; show (1 : Int) ≤ 300; omega
theorem route_at (ok : NetOk v) {a b : Bytes} {s t : Int} {q : List Bytes} (h : q ∈ (routeM v a b s t).1) :
    ∃ l w, PathAt v a b q l w ∧ w.1 ≤ t - s ∧ t - s ≤ w.2 ∧ laterB s t = true ∧ hasPt v.pts a = true ∧ hasPt v.pts b = true := by
  unfold routeM at h
  split at h
  · cases h
  rename_i h1
  split at h
  · cases h
  rename_i h2
  split at h
  · cases h
  split at h
  · cases h
  obtain ⟨h3, h4⟩ := List.mem_filter.1 h
  obtain ⟨i, hi, e⟩ := List.mem_iff_getElem.1 h3
  obtain ⟨l, w, hp⟩ := path_at ok (a := a) (b := b) (i := i) (q := q) (by rw [List.getElem?_eq_getElem hi, e])
  have h5 := of_decide_eq_true h4
  rw [hp.bnd] at h5
  rw [Bool.not_eq_false, Bool.and_eq_true] at h1
  exact ⟨l, w, hp, h5.2.1, h5.2.2, by simpa using h2, h1.1, h1.2⟩
/-- What a route says: it moves, and the two passages are feasible. -/
theorem route_feas (ok : NetOk v) {a b : Bytes} {s t : Int} {q : List Bytes} (h : q ∈ (routeM v a b s t).1) : feasM v a b s t = true ∧ 2 ≤ q.length := by
  obtain ⟨l, w, hp, h1, h2, h3, ha, hb⟩ := route_at ok h
  have hlt : s < t := by
    unfold laterB at h3
    rw [Bool.and_eq_true] at h3
    exact of_decide_eq_true h3.2
  have hl : l ≠ [] := by
    rintro rfl
    have := hp.walk
    rw [wk] at this
    injection this with this
    rw [← this] at h2
    have : t - s ≤ 0 := h2
    omega
  have hab : a ≠ b := by
    intro e
    have h5 := hp.nd
    rw [hp.eq] at h5
    have h6 := endOf_mem a l
    obtain ⟨x, r, rfl⟩ := List.exists_cons_of_ne_nil hl
    have h7 : endOf a (x :: r) ∈ x :: r := endOf_mem x r
    rw [hp.ends, ← e] at h7
    exact (List.nodup_cons.1 h5).1 h7
  refine ⟨?_, by rw [hp.eq]; have := List.length_pos_iff.2 hl; simp; omega⟩
  unfold feasM
  rw [ha, hb, h3]
  simp only [Bool.and_self, Bool.true_and, decide_eq_true_eq]
  unfold leastM
  rw [if_neg hab]
  rcases bestP_spec ok a b with ⟨l', d, e, hbest, _⟩ | ⟨e, hno⟩
  · rw [e]
    have := (best_path hbest hp).1
    show d ≤ t - s
    omega
  · exact absurd ⟨l, w, hp.walk, hp.ends⟩ (hno ha hb)
end
end Go.Toll
