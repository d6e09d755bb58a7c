/-
  Contracts: points of systems, feasible passages, paths within a system.
-/
import Derived.Test.YtdmfdgkicbhdoaaTopo
import Derived.Test.YtdmfdgkicbhdoaaClock
import Derived.Test.YtdmfdgkicbhdoaaGrC
import Derived.Test.YtdmfdgkicbhdoaaGrD
import Derived.Test.YtdmfdgkicbhdoaaSortLay
import Derived.Test.YtdmfdgkicbhdoaaTollMove
set_option linter.unusedVariables false
set_option linter.unusedSimpArgs false
set_option maxRecDepth 100000
namespace Go.Proofs.Ytdmfdgkicbhdoaa
open Go Go.Abs Go.Toll
variable {gl : Globs} {h : AHeap}

theorem topology_isTime (t : Int) : ACalls Try.prog gl 42 [.int .i64 t] h fun x h' => x = .bool (isTimeB t) ∧ h' = h := by
  refine ACalls.body Try.f42 _ mixed Try.func42 rfl rfl (by simp [Try.ntmps42]) ?_
  simp [isTimeB]
def pointsI (v : Net) (y : Bytes) (k : Int) (i : Nat) : List Bytes := ((v.pts.take i).filter fun p => decide (p.sys = y ∧ p.kind = k)).map (·.name)
theorem pointsI_succ {v : Net} {y : Bytes} {k : Int} {i : Nat} {p : Pt} (h : v.pts[i]? = some p) : pointsI v y k (i + 1) = if p.sys = y ∧ p.kind = k then pointsI v y k i ++ [p.name] else pointsI v y k i := by
  rw [pointsI, List.take_add_one, h, Option.toList_some, List.filter_append, List.map_append, pointsI]
  by_cases c : p.sys = y ∧ p.kind = k
  · rw [if_pos c]; simp [c]
  · rw [if_neg c]; simp [c]
theorem pointsI_all (v : Net) (y : Bytes) (k : Int) : pointsI v y k v.pts.length = pointsL v y k := by rw [pointsI, List.take_length]; rfl
theorem pointsI_len (v : Net) (y : Bytes) (k : Int) (i : Nat) : (pointsI v y k i).length ≤ i := by
  rw [pointsI, List.length_map]
  exact Nat.le_trans (List.length_filter_le _ _) (by simp; omega)
set_option maxHeartbeats 2000000 in
theorem topology_Points (t : Topo) (y : Bytes) (k : Int) (hp : t.net.pts.length ≤ 1000) (hl : t.net.lks.length ≤ 1000) (hs : t.sys.length ≤ 1000) : ACalls Try.prog gl 23 [.agg (encTopo t), .str y, .int .i64 k] h fun x h' => x = .ro ((pointsM (validT t).net y k).map encT) ∧ h' = h := by
  refine ACalls.fresh' (ACalls.body Try.f23 _ mixed Try.func23 rfl rfl (by simp [Try.ntmps23]) ?_)
  simp
  refine callS.pure _ (fun _ => topology_valid t hp hl hs) ?_
  have hv := validT_len t
  generalize validT t = v at *
  simp
  refine AWP.up mixed v.net.pts.length (fun i fr H => fr 1 = .str y ∧ fr 2 = .int .i64 k ∧ fr 13 = .ro (v.net.pts.map encPt) ∧ fr 14 = .int .i64 v.net.pts.length ∧ fr 15 = .int .i64 i ∧ ∃ x, fr 7 = x ∧ Ls 1 (h.length + 1) H x ((pointsI v.net y k i).map encT) ∧ (∃ g, H = h ++ g) ∧ h.length + 1 ≤ H.length) 0 (by omega)
    ⟨by simp, by simp, by simp, by simp, by simp, .nil, by simp, by simpa [pointsI] using Ls.nil, by simp, by simp⟩ ?_
  rintro i fr H hi ⟨e1, e2, e13, e14, e15, x, e7, hx, hB, hbl⟩
  have hxf := hx.rs.fix
  have hpl := pointsI_len v.net y k i
  rcases Nat.lt_or_ge i v.net.pts.length with hlt | hge
  · obtain ⟨p, hpt, hpt'⟩ := get_lt hlt
    have ew := wrap_succ' (i := i) (by omega)
    have hsuc := pointsI_succ (y := y) (k := k) hpt
    by_cases c1 : p.sys = y
    · by_cases c2 : p.kind = k
      · rw [if_pos ⟨c1, c2⟩] at hsuc
        simp [-appendOk, -appendK, -acells, -AV.solid, e1, e2, e13, e14, e15, e7, hlt, hpt, hpt', c1, c2, hxf]
        refine append_new (lo := h.length + 1) (n := 1) (es := (pointsI v.net y k i).map encT) (ys := [encT p.name]) (by simpa [encT] using hx.more _) (by simp; omega) (by simp [appOk, encT]) (by simp; omega) ?_
        intro s1 H1 hs1 hg1 hn1
        have hs1f := hs1.rs.fix
        have hl1 := hg1.len
        have hB1 := hg1.base h (by omega) (base_more hB _)
        simp [-appendOk, -appendK, -acells, -AV.solid, e1, e2, e13, e14, e15, hlt, hs1f, ew]
        simp at hl1
        exact ⟨i + 1, by omega, by omega, by omega, by rw [hsuc]; simpa using hs1, hB1, by omega⟩
      · rw [if_neg fun c => c2 c.2] at hsuc
        simp [-appendOk, -appendK, -acells, -AV.solid, e1, e2, e13, e14, e15, e7, hlt, hpt, hpt', c1, c2, hxf, ew]
        exact ⟨i + 1, by omega, by omega, by omega, by rw [hsuc]; exact hx.more _, base_more hB _, by omega⟩
    · rw [if_neg fun c => c1 c.1] at hsuc
      simp [-appendOk, -appendK, -acells, -AV.solid, e1, e2, e13, e14, e15, e7, hlt, hpt, hpt', c1, hxf, ew]
      exact ⟨i + 1, by omega, by omega, by omega, by rw [hsuc]; exact hx.more _, base_more hB _, by omega⟩
  · obtain rfl : i = v.net.pts.length := by omega
    rw [pointsI_all] at hx hpl
    simp [-appendOk, -appendK, -acells, -AV.solid, e1, e2, e13, e14, e15, e7, hxf]
    refine callS.any (slices_SortL (pointsL v.net y k) hx (by omega)) ?_
    rintro r H1 ⟨rfl, hL1, hlen1, hk1⟩
    have hL1f := hL1.rs.fix
    have hB1 : ∃ g, H1 = h ++ g := base_of_keep hB (fun b o hb ho => hk1 b o ho fun off len e => by have := hx.above b off len e; omega) (by omega)
    simp [-appendOk, -appendK, -acells, -AV.solid, e1, e2, e13, e14, e15, e7, hL1f]
    exact ⟨hB1, hL1.frz (by omega) (texts_data _)⟩
set_option maxHeartbeats 2000000 in
theorem ref18_Points (t : Topo) (y : Bytes) (k : Int) (hp : t.net.pts.length ≤ 1000) (hl : t.net.lks.length ≤ 1000) (hs : t.sys.length ≤ 1000) : ACalls Try.prog gl 29 [.agg (encTopo t), .str y, .int .i64 k] h fun x h' => x = .ro ((pointsM (validT t).net y k).map encT) ∧ h' = h := by
  refine ACalls.fresh' (ACalls.body Try.f29 _ mixed Try.func29 rfl rfl (by simp [Try.ntmps29]) ?_)
  simp
  refine callS.pure _ (fun _ => ref18_valid t hp hl hs) ?_
  have hv := validT_len t
  have ok := okT t
  generalize validT t = v at *
  simp
  refine AWP.up mixed v.net.pts.length (fun i fr H => fr 1 = .str y ∧ fr 2 = .int .i64 k ∧ fr 7 = .ptr (h.length + 1) 0 0 ∧ fr 9 = .int .i64 i ∧ H[h.length + 1]? = some (.cells 3 [encTopo v]) ∧ (∃ g, H = h ++ g) ∧ ∃ x, fr 8 = x ∧ Rn x ((insF [] (pointsI v.net y k i)).map encT)) 0 (by omega)
    ⟨by simp, by simp, by simp, by simp, by simp, by simp, .nil, by simp, by simpa [pointsI, insF] using Rn.nil⟩ ?_
  rintro i fr H hi ⟨e1, e2, e7, e9, hN, hB, x, e8, hx⟩
  have hxf := Rn.fix hx
  have hpl := pointsI_len v.net y k i
  have hil := insF_len (pointsI v.net y k i) []
  have hNa : H[h.length + 1]? = some (.cells 3 [encTopo v]) ∧ h.length + 1 < H.length ∧ ∀ hl : h.length + 1 < H.length, H[h.length + 1] = .cells 3 [encTopo v] := ⟨hN, (List.getElem?_eq_some_iff.1 hN).1, fun _ => (List.getElem?_eq_some_iff.1 hN).2⟩
  have hNm : ∀ g : AHeap, (H ++ g)[h.length + 1]? = some (.cells 3 [encTopo v]) := fun g => by rw [List.getElem?_append_left hNa.2.1]; exact hN
  simp only [encTopo] at hNa hNm
  rcases Nat.lt_or_ge i v.net.pts.length with hlt | hge
  · obtain ⟨p, hpt, hpt'⟩ := get_lt hlt
    have ew := wrap_succ' (i := i) (by omega)
    have hsuc := pointsI_succ (y := y) (k := k) hpt
    by_cases c1 : p.sys = y
    · by_cases c2 : p.kind = k
      · rw [if_pos ⟨c1, c2⟩] at hsuc
        simp [e1, e2, e7, e8, e9, hNa, hNm, hlt, hpt, hpt', c1, c2, hxf]
        refine callS.pure _ (fun _ => ref07_Insert (insF [] (pointsI v.net y k i)) p.name x hx (shortN ok ((hasPt_iff _ _).2 (List.mem_map.2 ⟨p, List.mem_of_getElem? hpt, rfl⟩))) (by simp at hil; omega)) ?_
        simp [e1, e2, e7, e8, e9, hNa, hNm, hlt, ew]
        exact ⟨i + 1, by omega, by omega, by omega, base_more hB _, by rw [hsuc, insF_snoc]; exact Rn.ro _⟩
      · rw [if_neg fun c => c2 c.2] at hsuc
        simp [e1, e2, e7, e8, e9, hNa, hNm, hlt, hpt, hpt', c1, c2, hxf, ew]
        exact ⟨i + 1, by omega, by omega, by omega, base_more hB _, by rw [hsuc]; exact hx⟩
    · rw [if_neg fun c => c1 c.1] at hsuc
      simp [e1, e2, e7, e8, e9, hNa, hNm, hlt, hpt, hpt', c1, hxf, ew]
      exact ⟨i + 1, by omega, by omega, by omega, base_more hB _, by rw [hsuc]; exact hx⟩
  · obtain rfl : i = v.net.pts.length := by omega
    rw [pointsI_all, pointsM_ins ok] at hx
    simp [e1, e2, e7, e8, e9, hNa, hNm, hxf]
    refine ⟨hB, ?_⟩
    rcases hx with rfl | ⟨rfl, e⟩
    · exact .data _ (.ro _ (texts_data _))
    · rw [e]; exact .nil
theorem findPt_v (t : Topo) (s : Bytes) : (findPt (validT t).net s).isSome = hasPt (validT t).net.pts s := by rw [find_pt, validN_T]
theorem ref18_known (t : Topo) (a b : TPass) : ACalls Try.prog gl 46 [.agg (encTopo (validT t)), .agg (encPass a), .agg (encPass b)] h fun x h' => x = .bool (hasPt (validT t).net.pts a.point && hasPt (validT t).net.pts b.point) ∧ h' = h := by
  refine ACalls.data (.bool _) (ACalls.body Try.f46 _ mixed Try.func46 rfl rfl (by simp [Try.ntmps46]) ?_)
  have hv := validT_len t
  have ha := findPt_v t a.point
  have hb := findPt_v t b.point
  generalize validT t = v at *
  simp
  refine callS.pure _ (fun _ => ref07_Find v.net a.point (by omega) (by omega)) ?_
  rw [ha]
  generalize (findPt v.net a.point).getD pt0 = P
  simp
  refine callS.pure _ (fun _ => ref07_Find v.net b.point (by omega) (by omega)) ?_
  rw [hb]
  generalize (findPt v.net b.point).getD pt0 = Q
  cases hasPt v.net.pts a.point <;> simp
theorem ref18_later (a b : TPass) : ACalls Try.prog gl 47 [.agg (encPass a), .agg (encPass b)] h fun x h' => x = .bool (laterB a.time b.time) ∧ h' = h := by
  refine ACalls.data (.bool _) (ACalls.body Try.f47 _ mixed Try.func47 rfl rfl (by simp [Try.ntmps47]) ?_)
  simp
  refine callS.pure _ (fun _ => ref04_IsTime a.time) ?_
  unfold laterB
  cases isTimeB a.time with
  | false =>
    simp
    refine callS.pure (.bool true) (fun c => by cases c) ?_
    simp
  | true =>
    simp
    refine callS.pure _ (fun _ => ref04_IsTime b.time) ?_
    cases isTimeB b.time <;> simp
theorem ref18_Least (t : Topo) (a b : Bytes) : ACalls Try.prog gl 51 [.agg (encTopo (validT t)), .str a, .str b] h fun x h' => x = .int .i64 (leastM (validT t).net a b) ∧ h' = h := by
  refine ACalls.data (.int _ _) (ACalls.body Try.f51 _ mixed Try.func51 rfl rfl (by simp [Try.ntmps51]) ?_)
  have hv := validT_len t
  have hvn := validN_T t
  generalize validT t = v at *
  unfold leastM
  by_cases e : a = b
  · simp [e]
  · simp [e]
    have c1 := fun H : AHeap => ref07_Shortest (gl := gl) (h := H) v.net a b (by omega) (by omega)
    rw [hvn] at c1
    unfold bestV at c1
    rcases hb : bestP v.net a b with _ | ⟨p, d⟩
    · rw [hb] at c1
      refine callS.pure _ (fun _ => c1 _) ?_
      simp
    · rw [hb] at c1
      refine callS.pure _ (fun _ => c1 _) ?_
      simp
end Go.Proofs.Ytdmfdgkicbhdoaa
