/-
  Contracts: points of systems, feasible passages, paths within a system.
  Contracts: feasible passages, paths within a system.
  Contracts: routes.
-/
import Derived.Test.YtiidghfioofpkaaGreatTopo
import Derived.Test.YtiidghfioofpkaaGreatClock
import Derived.Test.YtiidghfioofpkaaGreatGrC
import Derived.Test.YtiidghfioofpkaaGreatGrD
import Derived.Test.YtiidghfioofpkaaGreatSortLay
import Derived.Test.YtiidghfioofpkaaGreatTollMove
import Derived.Test.YtiidghfioofpkaaGreatGrE
set_option linter.unusedVariables false
set_option linter.unusedSimpArgs false
set_option maxRecDepth 100000

namespace Go.Proofs.YtiidghfioofpkaaGreat
open Go Go.Abs Go.Toll
variable {gl : Globs} {h : AHeap}

theorem topology_isTime (t : Int) : ACalls Tryz.prog gl 51 [.int .i64 t] h fun x h' => x = .bool (isTimeB t) ∧ h' = h := by
  refine ACalls.body Tryz.f51 _ mixed Tryz.func51 rfl rfl (by simp [Tryz.ntmps51]) ?_
  simp [isTimeB]
def pointsI (v : Net) (y : Bytes) (k : Int) (i : Nat) : List Bytes := ((v.pts.take i).filter fun p => decide (p.sys = y ∧ p.kind = k)).map (·.name)
theorem pointsI_succ {v : Net} {y : Bytes} {k : Int} {i : Nat} {p : Pt} (h : v.pts[i]? = some p) : pointsI v y k (i + 1) = if p.sys = y ∧ p.kind = k then pointsI v y k i ++ [p.name] else pointsI v y k i := by
  rw [pointsI, List.take_add_one, h, Option.toList_some, List.filter_append, List.map_append, pointsI]
  by_cases c : p.sys = y ∧ p.kind = k
  · rw [if_pos c]; simp [c]
  · rw [if_neg c]; simp [c]
theorem pointsI_all (v : Net) (y : Bytes) (k : Int) : pointsI v y k v.pts.length = pointsL v y k := by rw [pointsI, List.take_length]; rfl
theorem pointsI_len (v : Net) (y : Bytes) (k : Int) (i : Nat) : (pointsI v y k i).length ≤ i := by
  rw [pointsI, List.length_map]
  exact Nat.le_trans (List.length_filter_le _ _) (by simp; omega)
theorem findPt_v (t : Topo) (s : Bytes) : (findPt (validT t).net s).isSome = hasPt (validT t).net.pts s := by rw [find_pt, validN_T]
theorem ref18_known (t : Topo) (a b : TPass) : ACalls Tryz.prog gl 54 [.agg (encTopo (validT t)), .agg (encPass a), .agg (encPass b)] h fun x h' => x = .bool (hasPt (validT t).net.pts a.point && hasPt (validT t).net.pts b.point) ∧ h' = h := by
  refine ACalls.data (.bool _) (ACalls.body Tryz.f54 _ mixed Tryz.func54 rfl rfl (by simp [Tryz.ntmps54]) ?_)
  have hv := validT_len t
  have ha := findPt_v t a.point
  have hb := findPt_v t b.point
  generalize validT t = v at *
  simp
  refine callS.pure _ (fun _ => ref07_Find v.net a.point (by omega) (by omega)) ?_
  rw [ha]
  generalize (findPt v.net a.point).getD pt0 = P
  simp
  refine callS.pure _ (fun _ => ref07_Find v.net b.point (by omega) (by omega)) ?_
  rw [hb]
  generalize (findPt v.net b.point).getD pt0 = Q
  cases hasPt v.net.pts a.point <;> simp
theorem ref18_later (a b : TPass) : ACalls Tryz.prog gl 55 [.agg (encPass a), .agg (encPass b)] h fun x h' => x = .bool (laterB a.time b.time) ∧ h' = h := by
  refine ACalls.data (.bool _) (ACalls.body Tryz.f55 _ mixed Tryz.func55 rfl rfl (by simp [Tryz.ntmps55]) ?_)
  simp
  refine callS.pure _ (fun _ => ref04_IsTime a.time) ?_
  unfold laterB
  cases isTimeB a.time with
  | false =>
    simp
    refine callS.pure (.bool true) (fun c => by cases c) ?_
    simp
  | true =>
    simp
    refine callS.pure _ (fun _ => ref04_IsTime b.time) ?_
    cases isTimeB b.time <;> simp
end Go.Proofs.YtiidghfioofpkaaGreat

namespace Go.Proofs.YtiidghfioofpkaaGreat
open Go Go.Abs Go.Toll
variable {gl : Globs} {h : AHeap}

theorem feas_eq {v : Net} (ok : NetOk v) (a b : Bytes) (s t : Int) : feasM v a b s t = (hasPt v.pts a && hasPt v.pts b && isTimeB s && isTimeB t && decide (leastM v a b ≤ t - s)) := by
  have h := leastM_pos ok a b
  unfold feasM laterB
  by_cases c : leastM v a b ≤ t - s
  · have : s < t := by omega
    simp [this, c, Bool.and_assoc]
  · simp [c]
theorem inSys_none {v : Net} {y s : Bytes} (h : findPt v s = none) : inSys v y s = false := by unfold inSys; rw [h]
theorem inSys_some {v : Net} {y s : Bytes} {p : Pt} (h : findPt v s = some p) : inSys v y s = decide (p.kind = 4 ∨ p.sys = y) := by unfold inSys; rw [h]
end Go.Proofs.YtiidghfioofpkaaGreat

namespace Go.Proofs.YtiidghfioofpkaaGreat
open Go Go.Abs Go.Toll
variable {gl : Globs} {h : AHeap}

def routeV (v : Net) (a b : Bytes) (s t : Int) : AV := .tup [.ro ((routeM v a b s t).1.map encPa), .int .i64 (routeM v a b s t).2]
def routeI (v : Net) (L : List (List Bytes)) (dt : Int) (i : Nat) : List (List Bytes) := (L.take i).filter (tookB v dt)
theorem routeI_succ {v : Net} {L : List (List Bytes)} {dt : Int} {i : Nat} {q : List Bytes} (h : L[i]? = some q) : routeI v L dt (i + 1) = if tookB v dt q = true then routeI v L dt i ++ [q] else routeI v L dt i := by
  rw [routeI, List.take_add_one, h, Option.toList_some, List.filter_append, routeI]
  by_cases c : tookB v dt q = true
  · rw [if_pos c, List.filter_cons_of_pos c]; rfl
  · rw [if_neg c, List.filter_cons_of_neg c]; simp
theorem routeI_all (v : Net) (L : List (List Bytes)) (dt : Int) : routeI v L dt L.length = L.filter (tookB v dt) := by rw [routeI, List.take_length]
theorem routeI_len (v : Net) (L : List (List Bytes)) (dt : Int) (i : Nat) : (routeI v L dt i).length ≤ i := Nat.le_trans (List.length_filter_le _ _) (by simp; omega)
theorem route_no {v : Net} {a b : Bytes} {s t : Int} (h : (hasPt v.pts a && hasPt v.pts b) = false) : routeM v a b s t = ([], 16) := by rw [routeM, if_pos h]
theorem route_time {v : Net} {a b : Bytes} {s t : Int} (h : (hasPt v.pts a && hasPt v.pts b) = true) (h2 : laterB s t = false) : routeM v a b s t = ([], 12) := by rw [routeM, if_neg (by rw [h]; simp), if_pos h2]
theorem route_err {v : Net} {a b : Bytes} {s t : Int} (h : (hasPt v.pts a && hasPt v.pts b) = true) (h2 : laterB s t = true) (h3 : (pathsM v a b).2 ≠ 0) : routeM v a b s t = ([], (pathsM v a b).2) := by
  rw [routeM, if_neg (by rw [h]; simp), if_neg (by rw [h2]; simp), if_pos h3]
theorem route_of {v : Net} {a b : Bytes} {s t : Int} (h : (hasPt v.pts a && hasPt v.pts b) = true) (h2 : laterB s t = true) (h3 : (pathsM v a b).2 = 0) : routeM v a b s t = if (pathsM v a b).1.filter (tookB v (t - s)) = [] then ([], 21) else ((pathsM v a b).1.filter (tookB v (t - s)), 0) := by
  rw [routeM, if_neg (by rw [h]; simp), if_neg (by rw [h2]; simp), if_neg (by rw [h3]; simp)]; rfl
theorem frz_err {n : Nat} {e : Int} : Frz n h (.tup [.nil, .int .i64 e]) (.tup [.ro [], .int .i64 e]) := .tup' (.cons .nil (.cons (.data _ (by simp)) .nil))
set_option maxHeartbeats 8000000 in
theorem topology_Route (t : Topo) (a b : TPass) (hp : t.net.pts.length ≤ 1000) (hl : t.net.lks.length ≤ 1000) (hs : t.sys.length ≤ 1000) : ACalls Tryz.prog gl 28 [.agg (encTopo t), .agg (encPass a), .agg (encPass b)] h fun x h' => x = routeV (validT t).net a.point b.point a.time b.time ∧ h' = h := by
  refine ACalls.fresh' (ACalls.body Tryz.f28 _ mixed Tryz.func28 rfl rfl (by simp [Tryz.ntmps28]) ?_)
  simp
  refine callS.pure _ (fun _ => topology_valid t hp hl hs) ?_
  have hv := validT_len t
  have hvn := validN_T t
  have ok := okT t
  have ha := findPt_v t a.point
  have hb := findPt_v t b.point
  generalize validT t = v at *
  simp
  refine callS.pure _ (fun _ => graph_Find v.net a.point (by omega) (by omega)) ?_
  rw [ha]
  generalize (findPt v.net a.point).getD pt0 = P
  simp
  refine callS.pure _ (fun _ => graph_Find v.net b.point (by omega) (by omega)) ?_
  rw [hb]
  generalize (findPt v.net b.point).getD pt0 = Q
  cases qa : hasPt v.net.pts a.point with
  | false =>
    simp
    rw [routeV, route_no (by rw [qa]; rfl)]
    exact frz_err
  | true =>
    cases qb : hasPt v.net.pts b.point with
    | false =>
      simp
      rw [routeV, route_no (by rw [qa, qb]; rfl)]
      exact frz_err
    | true =>
      have hab : (hasPt v.net.pts a.point && hasPt v.net.pts b.point) = true := by rw [qa, qb]; rfl
      simp
      refine callS.pure _ (fun _ => topology_isTime a.time) ?_
      cases qs : isTimeB a.time with
      | false =>
        simp
        refine callS.pure (.bool true) (fun c => by cases c) ?_
        simp
        rw [routeV, route_time hab (by unfold laterB; rw [qs]; rfl)]
        exact frz_err
      | true =>
        simp
        refine callS.pure _ (fun _ => topology_isTime b.time) ?_
        cases qt : isTimeB b.time with
        | false =>
          simp
          rw [routeV, route_time hab (by unfold laterB; rw [qs, qt]; rfl)]
          exact frz_err
        | true =>
          by_cases hlt : a.time < b.time
          · have hla : laterB a.time b.time = true := by unfold laterB; rw [qs, qt, decide_eq_true hlt]; rfl
            have hnle : ¬ b.time ≤ a.time := by omega
            have r1 := isTime_range qs
            have r2 := isTime_range qt
            have ewd : IntKind.i64.wrap (b.time - a.time) = b.time - a.time := wrap64_of (by omega) (by omega)
            simp [hnle]
            have c1 := fun H : AHeap => graph_Paths (gl := gl) (h := H) v.net a.point b.point (by omega) (by omega)
            have hsp := (pathsM_spec ok a.point b.point).1
            have herr := route_err (s := a.time) (t := b.time) hab hla
            have hof := route_of (s := a.time) (t := b.time) hab hla
            have hat : ∀ (i : Nat) q, (pathsM v.net a.point b.point).1[i]? = some q → ∃ l s, PathAt v.net a.point b.point q l s := fun i q => path_at ok
            rw [hvn] at c1
            unfold pathsV at c1
            rw [routeV]
            generalize routeM v.net a.point b.point a.time b.time = R at *
            generalize pathsM v.net a.point b.point = PE at *
            obtain ⟨L, E⟩ := PE
            simp only at hsp herr hof hat c1
            refine callS.pure _ (fun _ => c1 _) ?_
            by_cases hE : E = 0
            · subst hE
              have hR := hof rfl
              simp
              refine AWP.up mixed L.length (fun i fr H => (fr 4 = .ptr (h.length + 1) 0 0 ∧ fr 5 = .ptr (h.length + 2) 0 0 ∧ fr 8 = .ptr (h.length + 3) 0 0) ∧ fr 75 = .ro (L.map encPa) ∧ fr 76 = .int .i64 L.length ∧ fr 77 = .int .i64 i ∧
                  H[h.length + 1]? = some (.cells 8 [encPass a]) ∧ H[h.length + 2]? = some (.cells 8 [encPass b]) ∧ H[h.length + 3]? = some (.cells 2 [encNet v.net]) ∧ (∃ g, H = h ++ g) ∧ ∃ x, fr 15 = x ∧ Ls 1 (h.length + 4) H x ((routeI v.net L (b.time - a.time) i).map encPa)) 0 (by omega)
                ⟨by simp, by simp, by simp, by simp, by simp, by simp, by simp, by simp, .nil, by simp, by simpa [routeI] using Ls.nil⟩ ?_
              rintro i fr H hi ⟨⟨e4, e5, e8⟩, e75, e76, e77, hA, hB2, hN, hB, x, e15, hx⟩
              have hxf := hx.rs.fix
              have hil := routeI_len v.net L (b.time - a.time) i
              have hAa : H[h.length + 1]? = some (.cells 8 [encPass a]) ∧ h.length + 1 < H.length ∧ ∀ hl : h.length + 1 < H.length, H[h.length + 1] = .cells 8 [encPass a] := ⟨hA, (List.getElem?_eq_some_iff.1 hA).1, fun _ => (List.getElem?_eq_some_iff.1 hA).2⟩
              have hBa : H[h.length + 2]? = some (.cells 8 [encPass b]) ∧ h.length + 2 < H.length ∧ ∀ hl : h.length + 2 < H.length, H[h.length + 2] = .cells 8 [encPass b] := ⟨hB2, (List.getElem?_eq_some_iff.1 hB2).1, fun _ => (List.getElem?_eq_some_iff.1 hB2).2⟩
              have hNa : H[h.length + 3]? = some (.cells 2 [encNet v.net]) ∧ h.length + 3 < H.length ∧ ∀ hl : h.length + 3 < H.length, H[h.length + 3] = .cells 2 [encNet v.net] := ⟨hN, (List.getElem?_eq_some_iff.1 hN).1, fun _ => (List.getElem?_eq_some_iff.1 hN).2⟩
              simp only [encPass_eq, encNet] at hAa hBa hNa
              rcases Nat.lt_or_ge i L.length with hlti | hge
              · obtain ⟨q, hq, hq'⟩ := get_lt hlti
                have ew := wrap_succ' (i := i) (by omega)
                obtain ⟨l, w, hpt⟩ := hat i q hq
                have hql := hpt.len
                have hsuc := routeI_succ (v := v.net) (dt := b.time - a.time) hq
                have htk : tookB v.net (b.time - a.time) q = decide (w.1 ≤ b.time - a.time ∧ b.time - a.time ≤ w.2) := by unfold tookB; rw [hpt.bnd]; simp
                have c2 := fun H : AHeap => graph_Bounds (gl := gl) (h := H) v.net q (by omega) (by omega) (by omega)
                rw [hvn, hpt.bnd] at c2
                simp [-appendOk, -appendK, -acells, -AV.solid, e4, e5, e8, e75, e76, e77, hlti, hq, hq', encPa, hNa]
                refine callS.pure _ (fun _ => c2 _) ?_
                by_cases d1 : w.1 ≤ b.time - a.time
                · by_cases d2 : b.time - a.time ≤ w.2
                  · rw [htk, if_pos (decide_eq_true ⟨d1, d2⟩)] at hsuc
                    simp [-appendOk, -appendK, -acells, -AV.solid, e4, e5, e8, e75, e76, e77, e15, hlti, hq, hq', encPa, hNa, hAa, hBa, ewd, d1, d2, hxf]
                    refine append_new (lo := h.length + 4) (n := 1) (es := (routeI v.net L (b.time - a.time) i).map encPa) (ys := [encPa q]) (by simpa [encPa] using hx.more _) (by simp; omega) (by simp [appOk, encPa]) (by simp; omega) ?_
                    intro s1 H1 hs1 hg1 hn1
                    have hs1f := hs1.rs.fix
                    have hB1 := hg1.base h (by omega) (base_more hB _)
                    have hk1 : ∀ b o, b < h.length + 4 → H[b]? = some o → H1[b]? = some o := fun b o hb ho => hg1.keep b o (by rw [List.getElem?_append_left (lt_of_get ho)]; exact ho) fun off len e => by have := hx.above _ _ _ e; omega
                    simp [-appendOk, -appendK, -acells, -AV.solid, e4, e5, e8, e75, e76, e77, hs1f, ew]
                    exact ⟨i + 1, by omega, by omega, by omega, hk1 _ _ (by omega) hA, hk1 _ _ (by omega) hB2, hk1 _ _ (by omega) hN, hB1, by rw [hsuc]; simpa using hs1⟩
                  · rw [htk, if_neg (by simp [d2])] at hsuc
                    simp [-appendOk, -appendK, -acells, -AV.solid, e4, e5, e8, e75, e76, e77, e15, hlti, hq, hq', encPa, hNa, hAa, hBa, ewd, d1, d2, hxf, ew]
                    exact ⟨i + 1, by omega, by omega, by omega, hB, by rw [hsuc]; exact hx⟩
                · rw [htk, if_neg (by simp [d1])] at hsuc
                  simp [-appendOk, -appendK, -acells, -AV.solid, e4, e5, e8, e75, e76, e77, e15, hlti, hq, hq', encPa, hNa, hAa, hBa, ewd, d1, hxf, ew]
                  exact ⟨i + 1, by omega, by omega, by omega, hB, by rw [hsuc]; exact hx⟩
              · obtain rfl : i = L.length := by omega
                rw [routeI_all] at hx hil
                have hxl := hx.rs.len2
                rw [List.length_map] at hxl
                generalize L.filter (tookB v.net (b.time - a.time)) = O at *
                by_cases hO : O = []
                · subst hO
                  rw [if_pos rfl] at hR
                  simp [-appendOk, -appendK, -acells, -AV.solid, e4, e5, e8, e75, e76, e77, e15, hxf, hxl]
                  rw [hR]
                  exact ⟨hB, frz_err⟩
                · rw [if_neg hO] at hR
                  have hOl : ¬ (O.length : Int) = 0 := by have := List.length_pos_iff.2 hO; omega
                  simp [-appendOk, -appendK, -acells, -AV.solid, e4, e5, e8, e75, e76, e77, e15, hxf, hxl, hO, hOl]
                  rw [hR]
                  exact ⟨hB, .tup' (.cons (hx.frz (by omega) (paths_data _)) (.cons (.data _ (by simp)) .nil))⟩
            · rw [herr hE]
              simp [hE]
              exact frz_err
          · have hle : b.time ≤ a.time := by omega
            simp [hle]
            rw [routeV, route_time hab (by unfold laterB; rw [decide_eq_false hlt]; simp)]
            exact frz_err
set_option maxHeartbeats 8000000 in
theorem ref18_Route (t : Topo) (a b : TPass) (hp : t.net.pts.length ≤ 1000) (hl : t.net.lks.length ≤ 1000) (hs : t.sys.length ≤ 1000) : ACalls Tryz.prog gl 30 [.agg (encTopo t), .agg (encPass a), .agg (encPass b)] h fun x h' => x = routeV (validT t).net a.point b.point a.time b.time ∧ h' = h := by
  refine ACalls.fresh' (ACalls.body Tryz.f30 _ mixed Tryz.func30 rfl rfl (by simp [Tryz.ntmps30]) ?_)
  simp
  refine callS.pure _ (fun _ => ref18_valid t hp hl hs) ?_
  have hv := validT_len t
  have hvn := validN_T t
  have ok := okT t
  have k1 := fun H : AHeap => ref18_known (gl := gl) (h := H) t a b
  have k2 := fun H : AHeap => ref18_later (gl := gl) (h := H) a b
  generalize validT t = v at *
  simp
  refine callS.pure _ (fun _ => k1 _) ?_
  cases hab : (hasPt v.net.pts a.point && hasPt v.net.pts b.point) with
  | false =>
    simp
    rw [routeV, route_no hab]
    exact frz_err
  | true =>
    simp
    refine callS.pure _ (fun _ => k2 _) ?_
    cases hla : laterB a.time b.time with
    | false =>
      simp
      rw [routeV, route_time hab hla]
      exact frz_err
    | true =>
      have hl3 := hla
      unfold laterB at hl3
      rw [Bool.and_eq_true, Bool.and_eq_true] at hl3
      have r1 := isTime_range hl3.1.1
      have r2 := isTime_range hl3.1.2
      have ewd : IntKind.i64.wrap (b.time - a.time) = b.time - a.time := wrap64_of (by omega) (by omega)
      simp
      have c1 := fun H : AHeap => ref07_Paths (gl := gl) (h := H) v.net a.point b.point (by omega) (by omega)
      have hsp := (pathsM_spec ok a.point b.point).1
      have herr := route_err (s := a.time) (t := b.time) hab hla
      have hof := route_of (s := a.time) (t := b.time) hab hla
      have hat : ∀ (i : Nat) q, (pathsM v.net a.point b.point).1[i]? = some q → ∃ l s, PathAt v.net a.point b.point q l s := fun i q => path_at ok
      rw [hvn] at c1
      unfold pathsV at c1
      rw [routeV]
      generalize routeM v.net a.point b.point a.time b.time = R at *
      generalize pathsM v.net a.point b.point = PE at *
      obtain ⟨L, E⟩ := PE
      simp only at hsp herr hof hat c1
      refine callS.pure _ (fun _ => c1 _) ?_
      by_cases hE : E = 0
      · subst hE
        have hR := hof rfl
        simp
        refine AWP.up mixed L.length (fun i fr H => (fr 4 = .ptr (h.length + 1) 0 0 ∧ fr 5 = .ptr (h.length + 2) 0 0 ∧ fr 8 = .ptr (h.length + 3) 0 0) ∧ fr 9 = .ro (L.map encPa) ∧ fr 12 = .int .i64 i ∧
            H[h.length + 1]? = some (.cells 8 [encPass a]) ∧ H[h.length + 2]? = some (.cells 8 [encPass b]) ∧ H[h.length + 3]? = some (.cells 3 [encTopo v]) ∧ (∃ g, H = h ++ g) ∧ ∃ x, fr 11 = x ∧ Ls 1 (h.length + 4) H x ((routeI v.net L (b.time - a.time) i).map encPa)) 0 (by omega)
          ⟨by simp, by simp, by simp, by simp, by simp, by simp, by simp, .nil, by simp, by simpa [routeI] using Ls.nil⟩ ?_
        rintro i fr H hi ⟨⟨e4, e5, e8⟩, e9, e12, hA, hB2, hN, hB, x, e11, hx⟩
        have hxf := hx.rs.fix
        have hil := routeI_len v.net L (b.time - a.time) i
        have hAa : H[h.length + 1]? = some (.cells 8 [encPass a]) ∧ h.length + 1 < H.length ∧ ∀ hl : h.length + 1 < H.length, H[h.length + 1] = .cells 8 [encPass a] := ⟨hA, (List.getElem?_eq_some_iff.1 hA).1, fun _ => (List.getElem?_eq_some_iff.1 hA).2⟩
        have hBa : H[h.length + 2]? = some (.cells 8 [encPass b]) ∧ h.length + 2 < H.length ∧ ∀ hl : h.length + 2 < H.length, H[h.length + 2] = .cells 8 [encPass b] := ⟨hB2, (List.getElem?_eq_some_iff.1 hB2).1, fun _ => (List.getElem?_eq_some_iff.1 hB2).2⟩
        have hNa : H[h.length + 3]? = some (.cells 3 [encTopo v]) ∧ h.length + 3 < H.length ∧ ∀ hl : h.length + 3 < H.length, H[h.length + 3] = .cells 3 [encTopo v] := ⟨hN, (List.getElem?_eq_some_iff.1 hN).1, fun _ => (List.getElem?_eq_some_iff.1 hN).2⟩
        simp only [encPass_eq, encTopo] at hAa hBa hNa
        rcases Nat.lt_or_ge i L.length with hlti | hge
        · obtain ⟨q, hq, hq'⟩ := get_lt hlti
          have ew := wrap_succ' (i := i) (by omega)
          obtain ⟨l, w, hpt⟩ := hat i q hq
          have hql := hpt.len
          have hsuc := routeI_succ (v := v.net) (dt := b.time - a.time) hq
          have htk : tookB v.net (b.time - a.time) q = decide (w.1 ≤ b.time - a.time ∧ b.time - a.time ≤ w.2) := by unfold tookB; rw [hpt.bnd]; simp
          have c2 := fun H : AHeap => ref07_Bounds (gl := gl) (h := H) v.net q (by omega) (by omega) (by omega)
          rw [hvn, hpt.bnd] at c2
          simp [-appendOk, -appendK, -acells, -AV.solid, e4, e5, e8, e9, e12, hlti, hq, hq', encPa, hNa]
          refine ⟨by decide, ?_⟩
          refine callS.pure _ (fun _ => c2 _) ?_
          by_cases d1 : w.1 ≤ b.time - a.time
          · by_cases d2 : b.time - a.time ≤ w.2
            · rw [htk, if_pos (decide_eq_true ⟨d1, d2⟩)] at hsuc
              simp [-appendOk, -appendK, -acells, -AV.solid, e4, e5, e8, e9, e12, e11, hlti, hq, hq', encPa, hNa, hAa, hBa, ewd, d1, d2, hxf]
              refine append_new (lo := h.length + 4) (n := 1) (es := (routeI v.net L (b.time - a.time) i).map encPa) (ys := [encPa q]) (by simpa [encPa] using hx.more _) (by simp; omega) (by simp [appOk, encPa]) (by simp; omega) ?_
              intro s1 H1 hs1 hg1 hn1
              have hs1f := hs1.rs.fix
              have hB1 := hg1.base h (by omega) (base_more hB _)
              have hk1 : ∀ b o, b < h.length + 4 → H[b]? = some o → H1[b]? = some o := fun b o hb ho => hg1.keep b o (by rw [List.getElem?_append_left (lt_of_get ho)]; exact ho) fun off len e => by have := hx.above _ _ _ e; omega
              simp [-appendOk, -appendK, -acells, -AV.solid, e4, e5, e8, e9, e12, hs1f, ew]
              exact ⟨i + 1, by omega, by omega, by omega, hk1 _ _ (by omega) hA, hk1 _ _ (by omega) hB2, hk1 _ _ (by omega) hN, hB1, by rw [hsuc]; simpa using hs1⟩
            · rw [htk, if_neg (by simp [d2])] at hsuc
              simp [-appendOk, -appendK, -acells, -AV.solid, e4, e5, e8, e9, e12, e11, hlti, hq, hq', encPa, hNa, hAa, hBa, ewd, d1, d2, hxf, ew]
              exact ⟨i + 1, by omega, by omega, by omega, hB, by rw [hsuc]; exact hx⟩
          · rw [htk, if_neg (by simp [d1])] at hsuc
            simp [-appendOk, -appendK, -acells, -AV.solid, e4, e5, e8, e9, e12, e11, hlti, hq, hq', encPa, hNa, hAa, hBa, ewd, d1, hxf, ew]
            exact ⟨i + 1, by omega, by omega, by omega, hB, by rw [hsuc]; exact hx⟩
        · obtain rfl : i = L.length := by omega
          rw [routeI_all] at hx hil
          have hxl := hx.rs.len2
          rw [List.length_map] at hxl
          generalize L.filter (tookB v.net (b.time - a.time)) = O at *
          by_cases hO : O = []
          · subst hO
            rw [if_pos rfl] at hR
            simp [-appendOk, -appendK, -acells, -AV.solid, e4, e5, e8, e9, e12, e11, hxf, hxl]
            rw [hR]
            exact ⟨hB, frz_err⟩
          · rw [if_neg hO] at hR
            have hOl : ¬ (O.length : Int) = 0 := by have := List.length_pos_iff.2 hO; omega
            simp [-appendOk, -appendK, -acells, -AV.solid, e4, e5, e8, e9, e12, e11, hxf, hxl, hO, hOl]
            rw [hR]
            exact ⟨hB, .tup' (.cons (hx.frz (by omega) (paths_data _)) (.cons (.data _ (by simp)) .nil))⟩
      · rw [herr hE]
        simp [hE]
        exact frz_err
end Go.Proofs.YtiidghfioofpkaaGreat
