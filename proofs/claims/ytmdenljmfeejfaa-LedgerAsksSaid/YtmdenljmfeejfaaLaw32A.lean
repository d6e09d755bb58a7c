/-
  Contracts: the laws of the ledger.
-/
import Derived.Test.YtmdenljmfeejfaaLaw32
import Derived.Test.YtmdenljmfeejfaaTollLedgerShape
set_option linter.unusedVariables false
set_option linter.unusedSimpArgs false
set_option maxRecDepth 100000
namespace Go.Proofs.Ytmdenljmfeejfaa
open Go Go.Abs Go.Toll
variable {gl : Globs} {h : AHeap}

theorem findE_mem {k : Bytes} : ∀ {l : List TEn} {e : TEn}, findE k l = some e → e ∈ l
  | x :: l, e, h => by
    rw [findE] at h
    split at h
    · cases h; exact List.mem_cons_self
    · exact List.mem_cons_of_mem _ (findE_mem h)
theorem arg_Ask3 {x : AV} (h : okArg (sh3 .str .str shI) x) : ∃ (k a : Bytes) (t : Int), x = .agg [.str k, .str a, .int .i64 t] := by
  obtain ⟨y, h, _⟩ := arg_T (f := .cons .str (.cons .str (.cons shI .none))) (enc := fun y : Bytes × Bytes × Int => [.str y.1, .str y.2.1, .int .i64 y.2.2]) (Q := fun _ => True) h fun es he => by
    obtain ⟨_, _, _, rfl, h1, h2, h3⟩ := ok_sh3 he
    obtain ⟨a, rfl, _⟩ := ok_S h1
    obtain ⟨b, rfl, _⟩ := ok_S h2
    obtain ⟨c, rfl, _⟩ := ok_I h3
    exact ⟨(a, b, c), rfl, trivial⟩
  exact ⟨_, _, _, h⟩
theorem law_Asks [GOk gl] (l : List TEn) (k a : Bytes) (t : Int) : ACalls Try.prog gl 6 [.ro (l.map encEn), .agg [.str k, .str a, .int .i64 t]] h fun v h' => v = .bool true := by
  refine ACalls.mono (ACalls.data (.bool true) (ACalls.body Try.f6 _ mixed Try.func6 rfl rfl (by simp [Try.ntmps6]) ?_)) fun _ _ h => h.1
  simp
  refine callS.pure _ (fun _ => law32_build l) ?_
  simp
  intro c
  obtain ⟨c1, c2, c3⟩ := bldL_ok c
  have hk : okB (pstF [] l) 40 := (pstF_okB l [] 0 okB.nil c2).mono (by omega)
  rw [← c3] at hk
  have hl1 : (bldL l).1.length ≤ 1000000 := by have := hk.len; omega
  have hkl := hk.okl (by omega)
  refine callS.pure _ (fun _ => ledger_Find _ k hl1 hk.posts) ?_
  simp
  refine callS.pure _ (fun _ => ref32_Find _ k hl1 hk.posts) ?_
  simp
  refine callS.pure _ (fun _ => ledger_Trial _ hkl) ?_
  simp
  refine callS.pure _ (fun _ => ref32_Trial _ hkl) ?_
  simp
  have hfp : ((findE k (bldL l).1).getD en0).posts.length ≤ 1000000 := by
    cases hf : findE k (bldL l).1 with
    | none => simp [en0]
    | some e => exact hk.posts e (findE_mem hf)
  refine callS.pure _ (fun _ => ref32_SameEntry _ _ hfp) ?_
  simp
  refine ⟨by decide, ?_⟩
  refine callS.pure _ (fun _ => ledger_Balance _ a hkl) ?_
  simp
  refine callS.pure _ (fun _ => ref32_Balance _ a hkl) ?_
  simp
  refine callS.pure _ (fun _ => ledger_Accounts _ hkl hk.texts) ?_
  simp
  refine callS.pure _ (fun _ => ref32_Accounts _ hkl hk.texts) ?_
  simp
  have hal : (accL (allP (bldL l).1)).length ≤ 1000000 := by have := accL_len (allP (bldL l).1); have := (okL_posts hkl).1; omega
  refine callS.pure _ (fun _ => ref01_SameTexts _ _ hal) ?_
  simp
  refine callS.pure _ (fun _ => ledger_Until _ t hl1 hk.posts) ?_
  simp
  refine callS.pure _ (fun _ => ref32_Until _ t hl1 hk.posts) ?_
  simp
  have hu := hk.until t
  refine callS.pure _ (fun _ => ref32_Same _ _ (by have := hu.len; omega) hu.posts) ?_
  simp
  refine callS.pure _ (fun _ => law32_alive) ?_
  simp
end Go.Proofs.Ytmdenljmfeejfaa
