/-
  Contracts: the law of points in lists.
-/
import Derived.Test.YtdmfdgkicbhdoaaLaw18C
import Derived.Test.YtdmfdgkicbhdoaaTollParts
set_option linter.unusedVariables false
set_option linter.unusedSimpArgs false
set_option maxRecDepth 100000
namespace Go.Proofs.Ytdmfdgkicbhdoaa
open Go Go.Abs Go.Toll
variable {gl : Globs} {h : AHeap}

set_option maxHeartbeats 8000000 in
theorem law_Parts [GOk gl] (t : Topo) : ACalls Try.prog gl 8 [.agg (encTopo t)] h fun v h' => v = .bool true := by
  refine ACalls.mono (ACalls.data (.bool true) (ACalls.body Try.f8 _ mixed Try.func8 rfl rfl (by simp [Try.ntmps8]) ?_)) fun _ _ h => h.1
  simp
  refine callS.pure _ (fun _ => law_small t) ?_
  by_cases hf : smallB t = true
  · have hl := small_len hf
    rw [hf]
    simp
    refine callS.pure _ (fun _ => topology_Check t (by omega) (by omega) (by omega)) ?_
    by_cases hz : topoErr t = 0
    · have hv : validT t = t := by rw [validT, if_pos hz]
      have ok : NetOk t.net := netErr_ok (topoErr_net hz).1
      have c1 := fun (H : AHeap) y k => topology_Points (gl := gl) (h := H) t y k (by omega) (by omega) (by omega)
      have c2 := fun (H : AHeap) s => topology_System (gl := gl) (h := H) t s (by omega) (by omega) (by omega)
      rw [hv] at c1
      simp [hz]
      refine AWP.up mixed t.net.pts.length (fun i fr H => fr 1 = .ptr h.length 0 0 ∧ fr 3 = .int .i64 i ∧ H[h.length]? = some (.cells 3 [encTopo t]) ∧ ∃ g, H = h ++ g) 0 (by omega) ⟨by simp, by simp, by simp, by simp⟩ ?_
      rintro i fr H hi ⟨e1, e3, hT, hB⟩
      have hT3 : H[h.length]? = some (.cells 3 [encTopo t]) ∧ h.length < H.length ∧ ∀ hl : h.length < H.length, H[h.length] = .cells 3 [encTopo t] := ⟨hT, (List.getElem?_eq_some_iff.1 hT).1, fun _ => (List.getElem?_eq_some_iff.1 hT).2⟩
      simp only [encTopo] at hT3
      rcases Nat.lt_or_ge i t.net.pts.length with hlt | hge
      · obtain ⟨p, hp, hp'⟩ := get_lt hlt
        have hpm := List.mem_of_getElem? hp
        obtain ⟨k1, k4, hk4, hk⟩ := inK_all hz hpm
        have ew := wrap_succ' (i := i) (by omega)
        simp [e1, e3, hlt, hp, hp', hT3]
        obtain ⟨b, hb⟩ : ∃ b, b = H.length := ⟨_, rfl⟩
        refine AWP.up mixed t.sys.length (fun k fr H' => fr 1 = .ptr h.length 0 0 ∧ fr 3 = .int .i64 i ∧ fr 4 = .ptr b 0 0 ∧ fr 5 = .int .i64 (inK t p k : Nat) ∧ fr 6 = .int .i64 k ∧ H'[h.length]? = some (.cells 3 [encTopo t]) ∧ H'[b]? = some (.cells 3 [encPt p]) ∧ ∃ g, H' = h ++ g) 0 (by omega)
          ⟨by simp [e1], by simp [e3], by simp [hb], by simp [inK_zero], by simp, by rw [List.getElem?_append_left hT3.2.1]; exact hT, by simp [hb], base_more hB _⟩ ?_
        clear e1 e3 hT hT3 hB
        rintro k fr H' hk' ⟨e1, e3, e4, e5, e6, hT, hP, hB⟩
        have hT3 : H'[h.length]? = some (.cells 3 [encTopo t]) ∧ h.length < H'.length ∧ ∀ hl : h.length < H'.length, H'[h.length] = .cells 3 [encTopo t] := ⟨hT, (List.getElem?_eq_some_iff.1 hT).1, fun _ => (List.getElem?_eq_some_iff.1 hT).2⟩
        have hP3 : H'[b]? = some (.cells 3 [encPt p]) ∧ b < H'.length ∧ ∀ hl : b < H'.length, H'[b] = .cells 3 [encPt p] := ⟨hP, (List.getElem?_eq_some_iff.1 hP).1, fun _ => (List.getElem?_eq_some_iff.1 hP).2⟩
        simp only [encTopo, encPt] at hT3 hP3
        rcases Nat.lt_or_ge k t.sys.length with hlk | hgk
        · obtain ⟨y, hy, hy'⟩ := get_lt hlk
          have ewk := wrap_succ' (i := k) (by omega)
          simp [e1, e3, e4, e5, e6, hlk, hT3, hP3]
          refine AWP.up mixed 3 (fun j fr H => fr 1 = .ptr h.length 0 0 ∧ fr 3 = .int .i64 i ∧ fr 4 = .ptr b 0 0 ∧ fr 5 = .int .i64 (inJ t p k y j : Nat) ∧ fr 6 = .int .i64 k ∧ fr 7 = .int .i64 ((j + 1 : Nat) : Int) ∧ H = H') 0 (by omega)
            ⟨by simp [e1], by simp [e3], by simp [e4], by simp [e5, inJ_zero t p k y k1], by simp [e6], by simp, rfl⟩ ?_
          clear e1 e3 e4 e5 e6
          rintro j fr H hj ⟨e1, e3, e4, e5, e6, e7, rfl⟩
          have hil := inK_le t p k
          have hjl : inJ t p k y j ≤ t.sys.length + 1 := by unfold inJ; split <;> omega
          rcases Nat.lt_or_ge j 3 with hl3 | hg3
          · have hj3 : ((j + 1 : Nat) : Int) ≤ 3 := by omega
            have ewj : IntKind.i64.wrap (((j + 1 : Nat) : Int) + 1) = ((j + 1 + 1 : Nat) : Int) := by rw [wrap64_of (by omega) (by omega)]; omega
            have ewn : IntKind.i64.wrap ((inJ t p k y j : Int) + 1) = ((inJ t p k y j + 1 : Nat) : Int) := by rw [wrap64_of (by omega) (by omega)]; omega
            have hs := inJ_succ t p k y j
            have hmem := has_points ok hpm y.name ((j + 1 : Nat) : Int)
            simp [-Int.natCast_add, e1, e3, e4, e5, e6, e7, hj3, hlk, hy, hy', hT3, hP3]
            refine ⟨by decide, ?_⟩
            refine callS.pure _ (fun _ => c1 _ y.name ((j + 1 : Nat) : Int)) ?_
            simp [-Int.natCast_add, e1, e3, e4, e5, e6, e7, hj3, hlk, hy, hy', hT3, hP3]
            refine callS.pure _ (fun _ => ref07_HasText (pointsM t.net y.name ((j + 1 : Nat) : Int)) p.name _ (.ro (texts_n _)) (by have := pointsM_len t.net y.name ((j + 1 : Nat) : Int); omega)) ?_
            simp [-Int.natCast_add, e1, e3, e4, e5, e6, e7, hmem, ewj, ewn]
            refine ⟨fun q1 q2 => ⟨j + 1, by omega, by omega, ?_, by omega⟩, fun q => ⟨j + 1, by omega, by omega, ?_, by omega⟩⟩
            · rw [hs, if_pos ⟨q1, q2⟩]
            · rw [hs, if_neg (fun c => q c.1 c.2)]
          · obtain rfl : j = 3 := by omega
            rw [inJ_three t p hy] at e5
            simp [-Int.natCast_add, e1, e3, e4, e5, e6, e7, ewk]
            exact ⟨k + 1, by omega, by omega, rfl, by omega, hT, hP, hB⟩
        · obtain rfl : k = t.sys.length := by omega
          rcases (by omega : p.kind = 4 ∨ p.kind ≠ 4) with q | q
          · rw [hk4 q] at e5
            simp [e1, e3, e4, e5, e6, hT3, hP3, q, ew]
            exact ⟨i + 1, by omega, by omega, by omega, hB⟩
          · obtain ⟨q1, y, q2, q3⟩ := hk q
            rw [q1] at e5
            have c2 := c2 H' p.name
            rw [q2] at c2
            have hmem : p.name ∈ pointsM t.net p.sys p.kind := (has_points ok hpm p.sys p.kind).2 ⟨rfl, rfl⟩
            simp [e1, e3, e4, e5, e6, hT3, hP3, q]
            refine callS.pure _ (fun _ => c2) ?_
            simp [e1, e3, e4, e5, e6, hT3, hP3, q, q3]
            refine ⟨by decide, ?_⟩
            refine callS.pure _ (fun _ => c1 _ p.sys p.kind) ?_
            simp [e1, e3, e4, e5, e6, hT3, hP3, q, q3]
            refine callS.pure _ (fun _ => ref07_HasText (pointsM t.net p.sys p.kind) p.name _ (.ro (texts_n _)) (by have := pointsM_len t.net p.sys p.kind; omega)) ?_
            simp [e1, e3, e4, e5, e6, hT3, hP3, q, q3, hmem, ew]
            exact ⟨i + 1, by omega, by omega, by omega, base_more hB _⟩
      · have hge' : ¬ (i : Int) < t.net.pts.length := by omega
        simp [e1, e3, hge', Nat.not_lt.2 hge, hT3]
        refine callS.pure _ (fun _ => law_alive) ?_
        simp
        exact hB
    · simp [hz]
  · rw [Bool.not_eq_true] at hf
    rw [hf]; simp
    refine callS.pure (.int .i64 0) (fun c => by cases c) ?_
    simp
end Go.Proofs.Ytdmfdgkicbhdoaa
