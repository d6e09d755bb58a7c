/-
  Points of systems: each point that is not a check point is in one list.
-/
import Derived.Test.YtdmfdgkicbhdoaaTollMove
set_option linter.unusedVariables false
set_option linter.unusedSimpArgs false
namespace Go.Toll
open Go Go.Abs

theorem syssErr_nd : ∀ {l before : List TSys}, syssErr before l = 0 → (∀ y ∈ l, nameB y.name = true ∧ ∀ z ∈ before, z.name ≠ y.name) ∧ (l.map (·.name)).Nodup
  | [], _, _ => ⟨by simp, by simp⟩
  | s :: l, before, h => by
    rw [syssErr] at h
    split at h
    · cases h
    rename_i h1
    split at h
    · cases h
    rename_i h2
    split at h
    · cases h
    obtain ⟨q1, q2⟩ := syssErr_nd h
    have h3 : ∀ z ∈ before, z.name ≠ s.name := fun z hz e => h2 (by
      rw [findSys, List.find?_isSome]
      exact ⟨z, hz, decide_eq_true e⟩)
    refine ⟨fun y hy => ?_, ?_⟩
    · rcases List.mem_cons.1 hy with rfl | hy
      · exact ⟨by simpa using h1, h3⟩
      · exact ⟨(q1 y hy).1, fun z hz => (q1 y hy).2 z (by simp [hz])⟩
    · rw [List.map_cons, List.nodup_cons]
      refine ⟨fun hm => ?_, q2⟩
      obtain ⟨y, hy, e⟩ := List.mem_map.1 hm
      exact (q1 y hy).2 s (by simp) e.symm
theorem pt_inj {l : List Pt} (nd : (l.map (·.name)).Nodup) {p q : Pt} (hp : p ∈ l) (hq : q ∈ l) (e : p.name = q.name) : p = q := by
  obtain ⟨i, hi, rfl⟩ := List.mem_iff_getElem.1 hp
  obtain ⟨j, hj, rfl⟩ := List.mem_iff_getElem.1 hq
  have : i = j := nodup_get nd (a := l[i].name) (by simp [hi]) (by simp [hj, e])
  subst this
  rfl
theorem has_points {v : Net} (ok : NetOk v) {p : Pt} (hp : p ∈ v.pts) (y : Bytes) (k : Int) : p.name ∈ pointsM v y k ↔ p.sys = y ∧ p.kind = k := by
  rw [pointsM, sortT_mem, pointsL_mem]
  constructor
  · rintro ⟨q, hq, h1, h2, h3⟩
    obtain rfl := pt_inj ok.nd hq hp h3
    exact ⟨h1, h2⟩
  · rintro ⟨h1, h2⟩
    exact ⟨p, hp, h1, h2, rfl⟩
theorem pointsM_len (v : Net) (y : Bytes) (k : Int) : (pointsM v y k).length ≤ v.pts.length := by
  rw [pointsM, sortT_len, pointsL, List.length_map]
  exact List.length_filter_le _ _
/-- The lists that hold a point, of the first k systems; of these and the first j kinds of the next. -/
def inK (t : Topo) (p : Pt) (k : Nat) : Nat := if p.kind ≤ 3 then ((t.sys.take k).map (·.name)).count p.sys else 0
def inJ (t : Topo) (p : Pt) (k : Nat) (y : TSys) (j : Nat) : Nat := inK t p k + if p.sys = y.name ∧ p.kind ≤ j then 1 else 0
theorem inK_zero (t : Topo) (p : Pt) : inK t p 0 = 0 := by simp [inK]
theorem inJ_zero (t : Topo) (p : Pt) (k : Nat) (y : TSys) (h : 1 ≤ p.kind) : inJ t p k y 0 = inK t p k := by
  have : ¬ (p.sys = y.name ∧ p.kind ≤ (0 : Nat)) := by omega
  rw [inJ, if_neg this, Nat.add_zero]
theorem inJ_succ (t : Topo) (p : Pt) (k : Nat) (y : TSys) (j : Nat) : inJ t p k y (j + 1) = if p.sys = y.name ∧ p.kind = ((j + 1 : Nat) : Int) then inJ t p k y j + 1 else inJ t p k y j := by
  unfold inJ
  by_cases h : p.sys = y.name
  · by_cases h2 : p.kind = ((j + 1 : Nat) : Int)
    · rw [if_pos ⟨h, by omega⟩, if_pos ⟨h, h2⟩, if_neg (by omega)]
    · rw [if_neg (fun c : p.sys = y.name ∧ p.kind = ((j + 1 : Nat) : Int) => h2 c.2)]
      by_cases h3 : p.kind ≤ (j : Int)
      · rw [if_pos ⟨h, by omega⟩, if_pos ⟨h, h3⟩]
      · rw [if_neg (by omega), if_neg (by omega)]
  · simp [h]
theorem inJ_three (t : Topo) (p : Pt) {k : Nat} {y : TSys} (hy : t.sys[k]? = some y) : inJ t p k y 3 = inK t p (k + 1) := by
  unfold inJ inK
  rw [List.take_add_one, hy, Option.toList_some, List.map_append, List.count_append]
  by_cases h : p.kind ≤ 3
  · have h' : p.kind ≤ ((3 : Nat) : Int) := h
    rw [if_pos h, if_pos h]
    by_cases e : p.sys = y.name
    · rw [if_pos ⟨e, h'⟩, e]; simp
    · rw [if_neg (fun c => e c.1)]
      have : List.count p.sys (List.map (fun x => x.name) [y]) = 0 := List.count_eq_zero.2 (by simpa using e)
      rw [this]
  · rw [if_neg h, if_neg h, if_neg (fun c => h c.2)]
theorem inK_le (t : Topo) (p : Pt) (k : Nat) : inK t p k ≤ t.sys.length := by
  unfold inK
  split
  · have := List.count_le_length (a := p.sys) (l := (t.sys.take k).map (·.name))
    rw [List.length_map, List.length_take] at this
    omega
  · omega
theorem inK_all {t : Topo} (h : topoErr t = 0) {p : Pt} (hp : p ∈ t.net.pts) : 1 ≤ p.kind ∧ p.kind ≤ 4 ∧ (p.kind = 4 → inK t p t.sys.length = 0) ∧ (p.kind ≠ 4 → inK t p t.sys.length = 1 ∧ ∃ y, sysOf t p.name = some y ∧ y.name = p.sys) := by
  obtain ⟨h1, h2, h3, h4⟩ := topoErr_net h
  obtain ⟨q1, q2, q3⟩ := netErr_kinds h1 p hp
  refine ⟨q2, q3, fun e => by rw [inK, if_neg (by omega)], fun e => ?_⟩
  have hf := List.all_eq_true.1 h4 p hp
  obtain ⟨n1, n2⟩ := syssErr_nd h3
  obtain ⟨y, hy⟩ : ∃ y, findSys t.sys p.sys = some y := by
    unfold fitB at hf
    cases hs : findSys t.sys p.sys with
    | some y => exact ⟨y, rfl⟩
    | none =>
      rw [hs] at hf
      rcases (by omega : p.kind = 1 ∨ p.kind = 2 ∨ p.kind = 3) with k | k | k <;> simp [k] at hf
  have hym := List.mem_of_find?_eq_some hy
  have hyn : y.name = p.sys := by simpa using List.find?_some hy
  have hv : validT t = t := by rw [validT, if_pos h]
  refine ⟨?_, y, ?_, hyn⟩
  · rw [inK, if_pos (by omega), List.take_length]
    have h5 := List.count_pos_iff.2 (List.mem_map.2 ⟨y, hym, hyn⟩ : p.sys ∈ t.sys.map (·.name))
    have h6 := List.nodup_iff_count.1 n2 p.sys
    omega
  · have ok : NetOk t.net := netErr_ok h1
    have hfp : findPt t.net p.name = some p := by
      rw [findPt, if_pos h1]
      cases hq : t.net.pts.find? (fun q => decide (q.name = p.name)) with
      | none => exact absurd (List.find?_eq_none.1 hq p hp) (by simp)
      | some q => rw [pt_inj ok.nd (List.mem_of_find?_eq_some hq) hp (by simpa using List.find?_some hq)]
    have hne : p.sys ≠ [] := by
      intro e
      have := (n1 y hym).1
      rw [hyn, e] at this
      simp [nameB] at this
    rw [sysOf, hv, hfp]
    simp [hne, hy]
end Go.Toll
