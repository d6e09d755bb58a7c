/-
  Contracts: the laws of the ledger.
-/
import Derived.Test.YtmdenljmfeejfaaLedI
import Derived.Test.YtmdenljmfeejfaaTollLedgerShape
set_option linter.unusedVariables false
set_option linter.unusedSimpArgs false
set_option maxRecDepth 100000
namespace Go.Proofs.Ytmdenljmfeejfaa
open Go Go.Abs Go.Toll
variable {gl : Globs} {h : AHeap}

theorem law_Checks [GOk gl] (e : TEn) : ACalls Try.prog gl 3 [.agg (encEn e)] h fun v h' => v = .bool true := by
  refine ACalls.mono (ACalls.data (.bool true) (ACalls.body Try.f3 _ mixed Try.func3 rfl rfl (by simp [Try.ntmps3]) ?_)) fun _ _ h => h.1
  simp
  refine callS.pure _ (fun _ => law32_small e) ?_
  simp
  refine fun c => ⟨by decide, ?_⟩
  refine callS.pure _ (fun _ => ledger_Check e (small2_okS c)) ?_
  simp
  refine callS.pure _ (fun _ => ref32_Check e (small2_okS c)) ?_
  simp
  refine callS.pure _ (fun _ => law32_alive) ?_
  simp
theorem law_Zero [GOk gl] (l : List TEn) (t : Int) : ACalls Try.prog gl 7 [.ro (l.map encEn), .int .i64 t] h fun v h' => v = .bool true := by
  refine ACalls.mono (ACalls.data (.bool true) (ACalls.body Try.f7 _ mixed Try.func7 rfl rfl (by simp [Try.ntmps7]) ?_)) fun _ _ h => h.1
  simp
  refine callS.pure _ (fun _ => law32_build l) ?_
  simp
  intro c
  obtain ⟨c1, c2, c3⟩ := bldL_ok c
  have hk : okB (pstF [] l) 40 := (pstF_okB l [] 0 okB.nil c2).mono (by omega)
  refine callS.pure _ (fun _ => law32_post l (by omega) c2) ?_
  simp
  refine callS.pure _ (fun _ => law32_zero _ _ hk (by omega)) ?_
  simp
  refine callS.pure _ (fun _ => ledger_Until _ t (by have := hk.len; omega) hk.posts) ?_
  simp
  refine callS.pure _ (fun _ => law32_zero _ _ (hk.until t) (by omega)) ?_
  simp
  refine callS.pure _ (fun _ => law32_alive) ?_
  simp
end Go.Proofs.Ytmdenljmfeejfaa
