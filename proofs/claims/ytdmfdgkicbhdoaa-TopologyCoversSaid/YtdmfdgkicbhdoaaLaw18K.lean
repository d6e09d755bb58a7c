/-
  Contracts: the law of paths within a system.
-/
import Derived.Test.YtdmfdgkicbhdoaaLaw18C
import Derived.Test.YtdmfdgkicbhdoaaMoveD
set_option linter.unusedVariables false
set_option linter.unusedSimpArgs false
set_option maxRecDepth 100000
namespace Go.Proofs.Ytdmfdgkicbhdoaa
open Go Go.Abs Go.Toll
variable {gl : Globs} {h : AHeap}

set_option maxHeartbeats 4000000 in
theorem law_Covers [GOk gl] (t : Topo) (l : List Bytes) (y : Bytes) : ACalls Try.prog gl 6 [.agg (encTopo t), .ro (l.map encT), .str y] h fun v h' => v = .bool true := by
  refine ACalls.mono (ACalls.data (.bool true) (ACalls.body Try.f6 _ mixed Try.func6 rfl rfl (by simp [Try.ntmps6]) ?_)) fun _ _ h => h.1
  simp
  refine callS.pure _ (fun _ => law_small t) ?_
  by_cases hf : smallB t = true
  · have hl := small_len hf
    rw [hf]
    by_cases hn : l.length ≤ 40
    · have hn' : ¬ (40 : Int) < l.length := by omega
      simp [hn']
      refine ⟨by decide, ?_⟩
      refine callS.pure _ (fun _ => topology_Covers t l y (by omega) (by omega) (by omega) (by omega)) ?_
      simp
      refine callS.pure _ (fun _ => ref18_Covers t l y (by omega) (by omega) (by omega) (by omega)) ?_
      simp
      refine callS.pure _ (fun _ => law_alive) ?_
      simp
    · have hn' : (40 : Int) < l.length := by omega
      simp [hn']
  · rw [Bool.not_eq_true] at hf
    rw [hf]; simp
end Go.Proofs.Ytdmfdgkicbhdoaa
