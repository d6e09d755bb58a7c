/-
  Contracts: the law of posts.
-/
import Derived.Test.YtmdenljmfeejfaaLaw32
import Derived.Test.YtmdenljmfeejfaaTollLedgerShape
set_option linter.unusedVariables false
set_option linter.unusedSimpArgs false
set_option maxRecDepth 100000
namespace Go.Proofs.Ytmdenljmfeejfaa
open Go Go.Abs Go.Toll
variable {gl : Globs} {h : AHeap}

def lxLP : Nat → Option (Nat × List (Nat × Nat)) := fun i => if i = 8 then some (12, [(0, 10), (3, 10), (4, 10), (5, 10)]) else if i = 9 then some (12, [(0, 10), (3, 10), (4, 10), (5, 10)]) else if i = 12 then some (4, [(1, 3)]) else none
set_option maxHeartbeats 2000000 in
theorem law_Posts [GOk gl] (l : List TEn) : ACalls Try.prog gl 5 [.ro (l.map encEn)] h fun v h' => v = .bool true := by
  refine ACalls.mono (ACalls.data (.bool true) (ACalls.bodyM lxLP Try.f5 _ mixed Try.func5 rfl rfl (by simp [Try.ntmps5]) ?_)) fun _ _ h => h.1
  simp [lxLP]
  refine callS.pure _ (fun _ => law32_build l) ?_
  simp [lxLP]
  intro c
  obtain ⟨c1, c2, c3⟩ := bldL_ok c
  refine AWP.upM lxLP mixed l.length (fun i fr h' => fr 0 = .ro (l.map encEn) ∧ fr 5 = .ptr (h.length + 1) 0 0 ∧ fr 6 = .ptr (h.length + 2) 0 0 ∧ fr 7 = .int .i64 i ∧ ∃ x out c g, h' = h ++ c :: .cells 1 [[x]] :: .cells 1 [[x]] :: g ∧ Rn x (out.map encEn) ∧ okB out i) 0 (by omega)
    ⟨by simp, by simp, by simp, by simp, .nil, [], _, [], by simp; rfl, Rn.nil, okB.nil⟩ ?_
  rintro i fr h' hi ⟨e0, e5, e6, e7, x, out, c, g, rfl, hx, hk⟩
  have hxc := rn_core hx
  rcases Nat.lt_or_ge i l.length with hlt | hge
  · obtain ⟨e, he, he'⟩ := get_lt hlt
    have q := c2 e (List.mem_of_getElem? he)
    have ew := wrap_succ' (i := i) (by omega)
    simp [lxLP, preOps, e0, e5, e6, e7, hlt, he, he', hxc]
    refine ⟨⟨by decide, by decide⟩, ?_⟩
    refine callS.pure _ (fun _ => ledger_Post' x out e hx hk (by omega) q) ?_
    simp [lxLP, preOps, e0, e5, e6, e7, hlt, he, he', hxc]
    refine ⟨callS.pure _ (fun _ => ledger_Post' x out e hx hk (by omega) q) (by simp), ⟨by decide, by decide⟩, ?_⟩
    refine callS.pure _ (fun _ => ref32_Post' x out e hx hk (by omega) q) ?_
    simp [lxLP, preOps, e0, e5, e6, e7, hlt, he, he', hxc]
    refine ⟨callS.pure _ (fun _ => ref32_Post' x out e hx hk (by omega) q) (by simp), ?_⟩
    have hk2 := hk.post q
    refine callS.pure _ (fun _ => ref32_Same _ _ (by have := hk2.len; omega) hk2.posts) ?_
    simp [lxLP, preOps, e0, e5, e6, e7, hlt, he, he', hxc, ew]
    exact ⟨⟨by decide, by decide⟩, i + 1, by omega, by omega, by omega, _, Rn.ro _, hk2⟩
  · simp [lxLP, preOps, e0, e5, e6, e7, Nat.not_lt.2 hge, hxc]
    refine callS.pure _ (fun _ => law32_alive) ?_
    simp
end Go.Proofs.Ytmdenljmfeejfaa
