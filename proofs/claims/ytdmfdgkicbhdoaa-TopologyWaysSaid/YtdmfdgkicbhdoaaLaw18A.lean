/-
  Contracts: the small functions of the laws of topologies.
-/
import Derived.Test.YtdmfdgkicbhdoaaMoveC
import Derived.Test.YtdmfdgkicbhdoaaMoveD
import Derived.Test.YtdmfdgkicbhdoaaTollTopoX
set_option linter.unusedVariables false
set_option linter.unusedSimpArgs false
set_option maxRecDepth 100000
namespace Go.Proofs.Ytdmfdgkicbhdoaa
open Go Go.Abs Go.Toll
variable {gl : Globs} {h : AHeap}

def smallB (t : Topo) : Bool := decide (t.net.pts.length ≤ 12 ∧ t.net.lks.length ≤ 30 ∧ t.sys.length ≤ 100)
theorem law_small (t : Topo) : ACalls Try.prog gl 10 [.agg (encTopo t)] h fun v h' => v = .bool (smallB t) ∧ h' = h := by
  refine ACalls.data (.bool _) (ACalls.body Try.f10 _ mixed Try.func10 rfl rfl (by simp [Try.ntmps10]) ?_)
  by_cases c1 : t.net.pts.length ≤ 12
  · have d1 : (t.net.pts.length : Int) ≤ 12 := by omega
    by_cases c2 : t.net.lks.length ≤ 30
    · have d2 : (t.net.lks.length : Int) ≤ 30 := by omega
      by_cases c3 : t.sys.length ≤ 100
      · have d3 : (t.sys.length : Int) ≤ 100 := by omega
        simp [smallB, c1, c2, c3, d1, d2, d3]
      · have d3 : ¬ (t.sys.length : Int) ≤ 100 := by omega
        simp [smallB, c1, c2, c3, d1, d2, d3]
    · have d2 : ¬ (t.net.lks.length : Int) ≤ 30 := by omega
      simp [smallB, c1, c2, d1, d2]
  · have d1 : ¬ (t.net.pts.length : Int) ≤ 12 := by omega
    simp [smallB, c1, d1]
theorem law_at (p : Bytes) (t : Int) : ACalls Try.prog gl 39 [.str p, .int .i64 t] h fun v h' => v = .agg (encPass (atP p t)) ∧ h' = h := by
  refine ACalls.fresh' (ACalls.body Try.f39 _ mixed Try.func39 rfl rfl (by simp [Try.ntmps39]) ?_)
  simp [atP]
  exact .agg' (.cons (.data _ (by simp)) (.cons (.data _ (by simp)) (.cons (.data _ (by simp)) (.cons (.data _ (by simp)) (.cons (.data _ (by simp)) (.cons (.data _ (by simp)) (.cons (.data _ (by simp)) (.cons .nil .nil))))))))
set_option maxHeartbeats 4000000 in
theorem law_example : ACalls Try.prog gl 38 [] h fun v h' => v = .agg (encTopo exT) ∧ h' = h := by
  refine ACalls.fresh' (ACalls.body Try.f38 _ mixed Try.func38 rfl rfl (by simp [Try.ntmps38]) ?_)
  simp [-aops_cons]
  repeat (rw [aops_cons]; simp [-aops_cons])
  exact .agg' (.cons (Frz.ownD (b := h.length + 3) (m := 3) (off := 0) (by simp; rfl) (by omega) (by simp) (by simp [exT]) (by simp [exT])) (.cons (Frz.ownD (b := h.length + 4) (m := 4) (off := 0) (by simp; rfl) (by omega) (by simp) (by simp [exT]) (by simp [exT])) (.cons (Frz.ownD (b := h.length + 2) (m := 3) (off := 0) (by simp; rfl) (by omega) (by simp) (by simp [exT]) (by simp [exT])) .nil)))
theorem law_twice (l : List Bytes) (hn : l.Nodup) (hl : l.length ≤ 1000000) : ACalls Try.prog gl 21 [.ro (l.map encT)] h fun v h' => v = .bool false ∧ h' = h := by
  refine ACalls.data (.bool _) (ACalls.body Try.f21 _ mixed Try.func21 rfl rfl (by simp [Try.ntmps21]) ?_)
  simp
  refine AWP.up mixed l.length (fun i fr H => fr 0 = .ro (l.map encT) ∧ fr 3 = .int .i64 i ∧ H = h) 0 (by omega) ⟨by simp, by simp, by simp⟩ ?_
  rintro i fr H hi ⟨e0, e3, rfl⟩
  rcases Nat.lt_or_ge i l.length with hlt | hge
  · obtain ⟨s, hs, hs'⟩ := get_lt hlt
    have ew := wrap_succ' (i := i) (by omega)
    simp [e0, e3, hlt]
    refine AWP.up mixed i (fun k fr H' => fr 0 = .ro (l.map encT) ∧ fr 3 = .int .i64 i ∧ fr 4 = .int .i64 k ∧ H' = H) 0 (by omega) ⟨by simp [e0], by simp [e3], by simp, by simp⟩ ?_
    clear e0 e3
    rintro k fr H' hk ⟨e0, e3, e4, rfl⟩
    rcases Nat.lt_or_ge k i with hki | hki
    · obtain ⟨z, hz, hz'⟩ := get_lt (l := l) (i := k) (by omega)
      have hkl : k < l.length := by omega
      have ewk := wrap_succ' (i := k) (by omega)
      have hne : ¬ s = z := fun e => List.pairwise_iff_getElem.1 hn k i hkl hlt hki (by rw [hz', hs', e])
      simp [e0, e3, e4, hki, hkl, hlt, hs, hs', hz, hz', encT, hne, ewk]
      exact ⟨by decide, k + 1, by omega, by omega, by omega⟩
    · have hki' : ¬ (k : Int) < i := by omega
      simp [e0, e3, e4, hki', Nat.not_lt.2 hki, ew]
      exact ⟨i + 1, by omega, by omega, by omega⟩
  · have hge' : ¬ (i : Int) < l.length := by omega
    simp [e0, e3, hge', Nat.not_lt.2 hge]
end Go.Proofs.Ytdmfdgkicbhdoaa
