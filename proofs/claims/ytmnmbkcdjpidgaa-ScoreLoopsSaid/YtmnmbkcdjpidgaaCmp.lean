/-
  Contracts: strings.Compare, cmp.Or.
-/
import Derived.Test.YtmnmbkcdjpidgaaClock
import Derived.WalkKit
import Derived.Lib.Bytealg
import Derived.Lib.Walk
set_option linter.unusedVariables false
set_option linter.unusedSimpArgs false
set_option maxRecDepth 100000
namespace Go.Proofs.Ytmnmbkcdjpidgaa
open Go Go.Abs Go.Toll Go.RowKit
variable {gl : Globs} {h : AHeap}

theorem cmp_Or (x : AV) (l : List Int) (hx : Rd 1 h x (l.map fun n => [.int .i64 n])) (hl : l.length ≤ 1000) : ACalls Try.prog gl 47 [x] h fun v h' => v = .int .i64 (orI l) ∧ h' = h := by
  refine ACalls.data (by simp) (ACalls.body Try.f47 _ mixed Try.func47 rfl rfl (by simp [Try.ntmps47]) ?_)
  simp [hx.core, hx.gd, hx.lenOk, hx.alen]
  refine AWP.up mixed l.length (fun i fr h' => fr 3 = .int .i64 0 ∧ fr 6 = x ∧ fr 7 = .int .i64 l.length ∧ fr 8 = .int .i64 i ∧ orI l = orI (l.drop i) ∧ ∃ g, h' = h ++ g) 0 (by omega) ⟨by simp, by simp, by simp, by simp, by simp, [], by simp⟩ ?_
  rintro i fr h' hi ⟨e3, e6, e7, e8, hf, g, rfl⟩
  have hx := hx.append g
  rcases Nat.lt_or_ge i l.length with hlt | hge
  · obtain ⟨y, hg, hg'⟩ := get_lt hlt
    rw [drop_get hg, orI] at hf
    have ew := wrap_succ' (i := i) (by omega)
    have h0 : (0 : Int) ≤ i := by omega
    have h1 : (i : Int) < (l.map fun n => [AV.int .i64 n]).length := by simp; omega
    have hm : (l.map fun n => [AV.int .i64 n])[(i : Int).toNat]? = some [.int .i64 y] := by simp [hg]
    simp [e3, e6, e7, e8, hlt, hx.core, hx.gd, hx.lenOk, hx.alen, hx.iaddrOk, h0, h1, hx.icore, hx.igd, hx.loadV h0 h1 hm, hx.loadOk h0 h1 hm, ew]
    refine ⟨fun hy => by rw [hf, if_neg hy], fun hy => ⟨i + 1, by omega, by omega, by simp, by rw [hf, if_pos hy]⟩⟩
  · rw [List.drop_eq_nil_of_le hge] at hf
    simp [e3, e6, e7, e8, hf, orI, Nat.not_lt.2 hge]
end Go.Proofs.Ytmnmbkcdjpidgaa
