/-
  Movements in a topology: routes, feasible passages, paths within a system.
  Points of systems: each point that is not a check point is in one list.
-/
import Derived.Test.YtiidghfioofpkaaGreatTollGraph
import Derived.Test.YtiidghfioofpkaaGreatTollNet
import Derived.Test.YtiidghfioofpkaaGreatTollSeen
set_option linter.unusedVariables false
set_option linter.unusedSimpArgs false

section 

namespace Go.Toll
open Go Go.Abs

theorem validN_T (t : Topo) : validN (validT t).net = (validT t).net := by rw [validN, if_pos (validT_net t)]
theorem okT (t : Topo) : NetOk (validT t).net := netErr_ok (validT_net t)
def laterB (s t : Int) : Bool := isTimeB s && isTimeB t && decide (s < t)
/-- A path takes as long. -/
def tookB (v : Net) (dt : Int) (q : List Bytes) : Bool := decide ((boundsM v q).2.2 = 0 ∧ (boundsM v q).1 ≤ dt ∧ dt ≤ (boundsM v q).2.1)
def routeL (v : Net) (a b : Bytes) (dt : Int) : List (List Bytes) := (pathsM v a b).1.filter (tookB v dt)
def routeM (v : Net) (a b : Bytes) (s t : Int) : List (List Bytes) × Int :=
  if (hasPt v.pts a && hasPt v.pts b) = false then ([], 16)
  else if laterB s t = false then ([], 12)
  else if (pathsM v a b).2 ≠ 0 then ([], (pathsM v a b).2)
  else if routeL v a b (t - s) = [] then ([], 21) else (routeL v a b (t - s), 0)
def leastM (v : Net) (a b : Bytes) : Int := if a = b then 60 else match bestP v a b with
  | some (_, d) => d
  | none => 300
def feasM (v : Net) (a b : Bytes) (s t : Int) : Bool := hasPt v.pts a && hasPt v.pts b && laterB s t && decide (leastM v a b ≤ t - s)
def inSys (v : Net) (y : Bytes) (s : Bytes) : Bool := match findPt v s with
  | some p => decide (p.kind = 4 ∨ p.sys = y)
  | none => false
def coversM (t : Topo) (l : List Bytes) (y : Bytes) : Bool := decide (l ≠ []) && (findSys (validT t).sys y).isSome && l.all (inSys (validT t).net y)
def pointsL (v : Net) (y : Bytes) (k : Int) : List Bytes := (v.pts.filter fun p => decide (p.sys = y ∧ p.kind = k)).map (·.name)
def pointsM (v : Net) (y : Bytes) (k : Int) : List Bytes := sortT (pointsL v y k)
section
variable {v : Net}
theorem pointsL_nd (ok : NetOk v) (y : Bytes) (k : Int) : (pointsL v y k).Nodup := List.Nodup.sublist (List.Sublist.map Pt.name List.filter_sublist) ok.nd
theorem pointsM_ins (ok : NetOk v) (y : Bytes) (k : Int) : insF [] (pointsL v y k) = pointsM v y k := insF_sort (pointsL_nd ok y k)
theorem pointsL_mem {y : Bytes} {k : Int} {s : Bytes} : s ∈ pointsL v y k ↔ ∃ p ∈ v.pts, p.sys = y ∧ p.kind = k ∧ p.name = s := by
  rw [pointsL, List.mem_map]
  simp [List.mem_filter, and_assoc]
theorem leastM_pos (ok : NetOk v) (a b : Bytes) : 1 ≤ leastM v a b := by
  unfold leastM
  split
  · omega
  · rename_i hab
    rcases bestP_spec ok a b with ⟨l, d, e, hb, _⟩ | ⟨e, _⟩
    · rw [e]
      obtain ⟨s, h1, h2⟩ := hb.walk
      have h3 := (wk_rng ok h1).1
      have hl : l ≠ [] := by rintro rfl; exact hab hb.ends
      have := List.length_pos_iff.2 hl
      show 1 ≤ d
      omega
    · rw [e]; show (1 : Int) ≤ 300; omega
theorem route_at (ok : NetOk v) {a b : Bytes} {s t : Int} {q : List Bytes} (h : q ∈ (routeM v a b s t).1) :
    ∃ l w, PathAt v a b q l w ∧ w.1 ≤ t - s ∧ t - s ≤ w.2 ∧ laterB s t = true ∧ hasPt v.pts a = true ∧ hasPt v.pts b = true := by
  unfold routeM at h
  split at h
  · cases h
  rename_i h1
  split at h
  · cases h
  rename_i h2
  split at h
  · cases h
  split at h
  · cases h
  obtain ⟨h3, h4⟩ := List.mem_filter.1 h
  obtain ⟨i, hi, e⟩ := List.mem_iff_getElem.1 h3
  obtain ⟨l, w, hp⟩ := path_at ok (a := a) (b := b) (i := i) (q := q) (by rw [List.getElem?_eq_getElem hi, e])
  have h5 := of_decide_eq_true h4
  rw [hp.bnd] at h5
  rw [Bool.not_eq_false, Bool.and_eq_true] at h1
  exact ⟨l, w, hp, h5.2.1, h5.2.2, by simpa using h2, h1.1, h1.2⟩
/-- What a route says: it moves, and the two passages are feasible. -/
theorem route_feas (ok : NetOk v) {a b : Bytes} {s t : Int} {q : List Bytes} (h : q ∈ (routeM v a b s t).1) : feasM v a b s t = true ∧ 2 ≤ q.length := by
  obtain ⟨l, w, hp, h1, h2, h3, ha, hb⟩ := route_at ok h
  have hlt : s < t := by
    unfold laterB at h3
    rw [Bool.and_eq_true] at h3
    exact of_decide_eq_true h3.2
  have hl : l ≠ [] := by
    rintro rfl
    have := hp.walk
    rw [wk] at this
    injection this with this
    rw [← this] at h2
    have : t - s ≤ 0 := h2
    omega
  have hab : a ≠ b := by
    intro e
    have h5 := hp.nd
    rw [hp.eq] at h5
    have h6 := endOf_mem a l
    obtain ⟨x, r, rfl⟩ := List.exists_cons_of_ne_nil hl
    have h7 : endOf a (x :: r) ∈ x :: r := endOf_mem x r
    rw [hp.ends, ← e] at h7
    exact (List.nodup_cons.1 h5).1 h7
  refine ⟨?_, by rw [hp.eq]; have := List.length_pos_iff.2 hl; simp; omega⟩
  unfold feasM
  rw [ha, hb, h3]
  simp only [Bool.and_self, Bool.true_and, decide_eq_true_eq]
  unfold leastM
  rw [if_neg hab]
  rcases bestP_spec ok a b with ⟨l', d, e, hbest, _⟩ | ⟨e, hno⟩
  · rw [e]
    have := (best_path hbest hp).1
    show d ≤ t - s
    omega
  · exact absurd ⟨l, w, hp.walk, hp.ends⟩ (hno ha hb)
end
end Go.Toll
end

section 

namespace Go.Toll
open Go Go.Abs

theorem syssErr_nd : ∀ {l before : List TSys}, syssErr before l = 0 → (∀ y ∈ l, nameB y.name = true ∧ ∀ z ∈ before, z.name ≠ y.name) ∧ (l.map (·.name)).Nodup
  | [], _, _ => ⟨by simp, by simp⟩
  | s :: l, before, h => by
    rw [syssErr] at h
    split at h
    · cases h
    rename_i h1
    split at h
    · cases h
    rename_i h2
    split at h
    · cases h
    obtain ⟨q1, q2⟩ := syssErr_nd h
    have h3 : ∀ z ∈ before, z.name ≠ s.name := fun z hz e => h2 (by
      rw [findSys, List.find?_isSome]
      exact ⟨z, hz, decide_eq_true e⟩)
    refine ⟨fun y hy => ?_, ?_⟩
    · rcases List.mem_cons.1 hy with rfl | hy
      · exact ⟨by simpa using h1, h3⟩
      · exact ⟨(q1 y hy).1, fun z hz => (q1 y hy).2 z (by simp [hz])⟩
    · rw [List.map_cons, List.nodup_cons]
      refine ⟨fun hm => ?_, q2⟩
      obtain ⟨y, hy, e⟩ := List.mem_map.1 hm
      exact (q1 y hy).2 s (by simp) e.symm
theorem pt_inj {l : List Pt} (nd : (l.map (·.name)).Nodup) {p q : Pt} (hp : p ∈ l) (hq : q ∈ l) (e : p.name = q.name) : p = q := by
  obtain ⟨i, hi, rfl⟩ := List.mem_iff_getElem.1 hp
  obtain ⟨j, hj, rfl⟩ := List.mem_iff_getElem.1 hq
  have : i = j := nodup_get nd (a := l[i].name) (by simp [hi]) (by simp [hj, e])
  subst this
  rfl
theorem has_points {v : Net} (ok : NetOk v) {p : Pt} (hp : p ∈ v.pts) (y : Bytes) (k : Int) : p.name ∈ pointsM v y k ↔ p.sys = y ∧ p.kind = k := by
  rw [pointsM, sortT_mem, pointsL_mem]
  constructor
  · rintro ⟨q, hq, h1, h2, h3⟩
    obtain rfl := pt_inj ok.nd hq hp h3
    exact ⟨h1, h2⟩
  · rintro ⟨h1, h2⟩
    exact ⟨p, hp, h1, h2, rfl⟩
theorem pointsM_len (v : Net) (y : Bytes) (k : Int) : (pointsM v y k).length ≤ v.pts.length := by
  rw [pointsM, sortT_len, pointsL, List.length_map]
  exact List.length_filter_le _ _
/-- The lists that hold a point, of the first k systems; of these and the first j kinds of the next. -/
def inK (t : Topo) (p : Pt) (k : Nat) : Nat := if p.kind ≤ 3 then ((t.sys.take k).map (·.name)).count p.sys else 0
def inJ (t : Topo) (p : Pt) (k : Nat) (y : TSys) (j : Nat) : Nat := inK t p k + if p.sys = y.name ∧ p.kind ≤ j then 1 else 0
theorem inK_zero (t : Topo) (p : Pt) : inK t p 0 = 0 := by simp [inK]
theorem inJ_zero (t : Topo) (p : Pt) (k : Nat) (y : TSys) (h : 1 ≤ p.kind) : inJ t p k y 0 = inK t p k := by
  have : ¬ (p.sys = y.name ∧ p.kind ≤ (0 : Nat)) := by omega
  rw [inJ, if_neg this, Nat.add_zero]
theorem inJ_succ (t : Topo) (p : Pt) (k : Nat) (y : TSys) (j : Nat) : inJ t p k y (j + 1) = if p.sys = y.name ∧ p.kind = ((j + 1 : Nat) : Int) then inJ t p k y j + 1 else inJ t p k y j := by
  unfold inJ
  by_cases h : p.sys = y.name
  · by_cases h2 : p.kind = ((j + 1 : Nat) : Int)
    · rw [if_pos ⟨h, by omega⟩, if_pos ⟨h, h2⟩, if_neg (by omega)]
    · rw [if_neg (fun c : p.sys = y.name ∧ p.kind = ((j + 1 : Nat) : Int) => h2 c.2)]
      by_cases h3 : p.kind ≤ (j : Int)
      · rw [if_pos ⟨h, by omega⟩, if_pos ⟨h, h3⟩]
      · rw [if_neg (by omega), if_neg (by omega)]
  · simp [h]
theorem inJ_three (t : Topo) (p : Pt) {k : Nat} {y : TSys} (hy : t.sys[k]? = some y) : inJ t p k y 3 = inK t p (k + 1) := by
  unfold inJ inK
  rw [List.take_add_one, hy, Option.toList_some, List.map_append, List.count_append]
  by_cases h : p.kind ≤ 3
  · have h' : p.kind ≤ ((3 : Nat) : Int) := h
    rw [if_pos h, if_pos h]
    by_cases e : p.sys = y.name
    · rw [if_pos ⟨e, h'⟩, e]; simp
    · rw [if_neg (fun c => e c.1)]
      have : List.count p.sys (List.map (fun x => x.name) [y]) = 0 := List.count_eq_zero.2 (by simpa using e)
      rw [this]
  · rw [if_neg h, if_neg h, if_neg (fun c => h c.2)]
theorem inK_le (t : Topo) (p : Pt) (k : Nat) : inK t p k ≤ t.sys.length := by
  unfold inK
  split
  · have := List.count_le_length (a := p.sys) (l := (t.sys.take k).map (·.name))
    rw [List.length_map, List.length_take] at this
    omega
  · omega
theorem inK_all {t : Topo} (h : topoErr t = 0) {p : Pt} (hp : p ∈ t.net.pts) : 1 ≤ p.kind ∧ p.kind ≤ 4 ∧ (p.kind = 4 → inK t p t.sys.length = 0) ∧ (p.kind ≠ 4 → inK t p t.sys.length = 1 ∧ ∃ y, sysOf t p.name = some y ∧ y.name = p.sys) := by
  obtain ⟨h1, h2, h3, h4⟩ := topoErr_net h
  obtain ⟨q1, q2, q3⟩ := netErr_kinds h1 p hp
  refine ⟨q2, q3, fun e => by rw [inK, if_neg (by omega)], fun e => ?_⟩
  have hf := List.all_eq_true.1 h4 p hp
  obtain ⟨n1, n2⟩ := syssErr_nd h3
  obtain ⟨y, hy⟩ : ∃ y, findSys t.sys p.sys = some y := by
    unfold fitB at hf
    cases hs : findSys t.sys p.sys with
    | some y => exact ⟨y, rfl⟩
    | none =>
      rw [hs] at hf
      rcases (by omega : p.kind = 1 ∨ p.kind = 2 ∨ p.kind = 3) with k | k | k <;> simp [k] at hf
  have hym := List.mem_of_find?_eq_some hy
  have hyn : y.name = p.sys := by simpa using List.find?_some hy
  have hv : validT t = t := by rw [validT, if_pos h]
  refine ⟨?_, y, ?_, hyn⟩
  · rw [inK, if_pos (by omega), List.take_length]
    have h5 := List.count_pos_iff.2 (List.mem_map.2 ⟨y, hym, hyn⟩ : p.sys ∈ t.sys.map (·.name))
    have h6 := List.nodup_iff_count.1 n2 p.sys
    omega
  · have ok : NetOk t.net := netErr_ok h1
    have hfp : findPt t.net p.name = some p := by
      rw [findPt, if_pos h1]
      cases hq : t.net.pts.find? (fun q => decide (q.name = p.name)) with
      | none => exact absurd (List.find?_eq_none.1 hq p hp) (by simp)
      | some q => rw [pt_inj ok.nd (List.mem_of_find?_eq_some hq) hp (by simpa using List.find?_some hq)]
    have hne : p.sys ≠ [] := by
      intro e
      have := (n1 y hym).1
      rw [hyn, e] at this
      simp [nameB] at this
    rw [sysOf, hv, hfp]
    simp [hne, hy]
end Go.Toll
end
