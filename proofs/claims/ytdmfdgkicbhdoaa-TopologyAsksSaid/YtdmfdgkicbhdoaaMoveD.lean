/-
  Contracts: paths within a system, the reference.
-/
import Derived.Test.YtdmfdgkicbhdoaaMoveB
import Derived.Test.YtdmfdgkicbhdoaaAbsLax
set_option linter.unusedVariables false
set_option linter.unusedSimpArgs false
set_option maxRecDepth 100000
namespace Go.Proofs.Ytdmfdgkicbhdoaa
open Go Go.Abs Go.Toll
variable {gl : Globs} {h : AHeap}

def lxV : Nat → Option (List (Nat × Nat)) := fun i => if i = 7 then some [(1, 11), (4, 11), (5, 11), (6, 11)] else none
set_option maxHeartbeats 4000000 in
theorem ref18_Covers (t : Topo) (l : List Bytes) (y : Bytes) (hp : t.net.pts.length ≤ 1000) (hl : t.net.lks.length ≤ 1000) (hs : t.sys.length ≤ 1000) (hll : l.length ≤ 1000000) : ACalls Try.prog gl 20 [.agg (encTopo t), .ro (l.map encT), .str y] h fun x h' => x = .bool (coversM t l y) ∧ h' = h := by
  refine ACalls.data (.bool _) (ACalls.bodyL lxV Try.f20 _ mixed Try.func20 rfl rfl (by simp [Try.ntmps20]) ?_)
  simp [lxV]
  refine callS.pure _ (fun _ => ref18_valid t hp hl hs) ?_
  have hv := validT_len t
  have hcm : coversM t l y = (decide (l ≠ []) && (findSys (validT t).sys y).isSome && l.all (inSys (validT t).net y)) := rfl
  rw [hcm]
  clear hcm
  generalize validT t = v at *
  by_cases hne : l = []
  · subst hne
    simp [lxV]
    refine callS.pure (.int .i64 0) (fun c => by cases c) ?_
    simp [lxV]
  · have hnl : ¬ (l.length : Int) = 0 := by have := List.length_pos_iff.2 hne; omega
    simp [lxV, hne, hnl]
    refine callS.pure _ (fun _ => ref18_find v.sys y (by omega)) ?_
    have hfs : (findSys v.sys y).isSome = !decide (idxI (fun q : TSys => decide (q.name = y)) v.sys < 0) := by
      rcases idxI_spec (fun q : TSys => decide (q.name = y)) v.sys with ⟨h1, h2⟩ | ⟨k, x', h1, h2, h3⟩
      · rw [findSys, h2, h1]; rfl
      · rw [findSys, h3, h1]; simp
    rw [hfs]
    by_cases qf : idxI (fun q : TSys => decide (q.name = y)) v.sys < 0
    · simp [lxV, qf]
    · simp [lxV, qf, hne, hnl]
      refine AWP.upL lxV mixed l.length (fun i fr H => fr 1 = .ro (l.map encT) ∧ fr 2 = .str y ∧ fr 7 = .ptr (h.length + 1) 0 0 ∧ fr 8 = .int .i64 i ∧ (l.all (inSys v.net y) = (l.drop i).all (inSys v.net y)) ∧ H[h.length + 1]? = some (.cells 3 [encTopo v]) ∧ ∃ g, H = h ++ g) 0 (by omega)
        ⟨by simp, by simp, by simp, by simp, by simp, by simp, _, rfl⟩ ?_
      rintro i fr H hi ⟨e1, e2, e7, e8, hf, hN, hB⟩
      have hNa : H[h.length + 1]? = some (.cells 3 [encTopo v]) ∧ h.length + 1 < H.length ∧ ∀ hl : h.length + 1 < H.length, H[h.length + 1] = .cells 3 [encTopo v] := ⟨hN, (List.getElem?_eq_some_iff.1 hN).1, fun _ => (List.getElem?_eq_some_iff.1 hN).2⟩
      have hNm : ∀ g : AHeap, (H ++ g)[h.length + 1]? = some (.cells 3 [encTopo v]) := fun g => by rw [List.getElem?_append_left hNa.2.1]; exact hN
      simp only [encTopo] at hNa hNm
      rcases Nat.lt_or_ge i l.length with hlt | hge
      · obtain ⟨s, hsi, hsi'⟩ := get_lt hlt
        have ew := wrap_succ' (i := i) (by omega)
        rw [drop_get hsi, List.all_cons] at hf
        simp [lxV, e1, e2, e7, e8, hlt, hsi, hsi', hNa, encT]
        refine ⟨by decide, ?_⟩
        refine callS.pure _ (fun _ => ref07_Find v.net s (by omega) (by omega)) ?_
        cases hq : findPt v.net s with
        | none =>
          rw [inSys_none hq] at hf
          simp [lxV, e1, e2, e7, e8, hlt, hsi, hsi', hNa, hNm, encT, pt0]
          refine ⟨callS.pure _ (fun _ => ref07_Find v.net s (by omega) (by omega)) (by simp [hq, pt0]), by simpa using hf, base_more hB _⟩
        | some p =>
          rw [inSys_some hq] at hf
          by_cases c1 : p.kind = 4
          · simp [lxV, e1, e2, e7, e8, hlt, hsi, hsi', hNa, hNm, encT, c1, ew]
            refine ⟨callS.pure _ (fun _ => ref07_Find v.net s (by omega) (by omega)) (by simp [hq, c1]), i + 1, by omega, by omega, by omega, by rw [hf]; simp [c1], base_more hB _⟩
          · by_cases c2 : p.sys = y
            · simp [lxV, e1, e2, e7, e8, hlt, hsi, hsi', hNa, hNm, encT, c1, c2, ew]
              refine ⟨callS.pure _ (fun _ => ref07_Find v.net s (by omega) (by omega)) (by simp [hq, c1, c2]), i + 1, by omega, by omega, by omega, by rw [hf]; simp [c2], base_more hB _⟩
            · simp [lxV, e1, e2, e7, e8, hlt, hsi, hsi', hNa, hNm, encT, c1, c2, ew]
              refine ⟨callS.pure _ (fun _ => ref07_Find v.net s (by omega) (by omega)) (by simp [hq, c1, c2]), by simpa [c1, c2] using hf, base_more hB _⟩
      · have hge' : ¬ (i : Int) < l.length := by omega
        rw [List.drop_eq_nil_of_le hge] at hf
        simp [lxV, e1, e2, e7, e8, hge', Nat.not_lt.2 hge]
        exact ⟨by simpa using hf, hB⟩
end Go.Proofs.Ytdmfdgkicbhdoaa
