/-
  Contracts: cmp.Compare of numbers and of texts.
-/
import Derived.Test.YtmnmbkcdjpidgaaTab
import Derived.Test.YtmnmbkcdjpidgaaAbsWp
import Derived.Test.YtmnmbkcdjpidgaaAbsSort
import Derived.Test.YtmnmbkcdjpidgaaTollBase
set_option linter.unusedVariables false
set_option linter.unusedSimpArgs false
set_option maxRecDepth 100000
namespace Go.Proofs.Ytmnmbkcdjpidgaa
open Go Go.Abs Go.Toll
variable {gl : Globs} {h : AHeap}

theorem cmp_isNaN_int (a : Int) : ACalls Try.prog gl 60 [.int .i64 a] h fun v h' => v = .bool false ∧ h' = h := by
  refine ACalls.data (.bool _) (ACalls.body Try.f60 _ mixed Try.func60 rfl rfl (by simp [Try.ntmps60]) ?_)
  simp
theorem cmp_Compare_int (a b : Int) : ACalls Try.prog gl 48 [.int .i64 a, .int .i64 b] h fun v h' => v = .int .i64 (if a < b then -1 else if b < a then 1 else 0) ∧ h' = h := by
  refine ACalls.data (.int _ _) (ACalls.body Try.f48 _ mixed Try.func48 rfl rfl (by simp [Try.ntmps48]) ?_)
  simp
  refine callS.pure _ (fun _ => cmp_isNaN_int a) ?_
  simp
  refine callS.pure _ (fun _ => cmp_isNaN_int b) ?_
  simp
  refine ⟨fun h1 h2 => by omega, fun h1 => ⟨fun h2 => by rw [if_neg (by omega), if_pos h2], fun h2 => by rw [if_neg (by omega), if_neg (by omega)]⟩⟩
theorem cmp_isNaN_string (a : Bytes) : ACalls Try.prog gl 61 [.str a] h fun v h' => v = .bool false ∧ h' = h := by
  refine ACalls.data (.bool _) (ACalls.body Try.f61 _ mixed Try.func61 rfl rfl (by simp [Try.ntmps61]) ?_)
  simp
theorem cmp_Compare_string (a b : Bytes) : ACalls Try.prog gl 49 [.str a, .str b] h fun v h' => v = .int .i64 (if Op.bytesLess a b then -1 else if a = b then 0 else 1) ∧ h' = h := by
  refine ACalls.data (.int _ _) (ACalls.body Try.f49 _ mixed Try.func49 rfl rfl (by simp [Try.ntmps49]) ?_)
  simp
  refine callS.pure _ (fun _ => cmp_isNaN_string a) ?_
  simp
  refine callS.pure _ (fun _ => cmp_isNaN_string b) ?_
  simp
  refine ⟨fun h1 h2 => by simp [h1] at h2, fun h1 => ⟨fun _ h2 => by rw [if_neg (by simp [h1]), if_neg h2], fun h2 => by rw [if_neg (by simp [h1]), if_pos (h2 h1)]⟩⟩
end Go.Proofs.Ytmnmbkcdjpidgaa
