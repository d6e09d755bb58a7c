/-
  Contracts: the chapter's examples.
-/
import Derived.Test.YtmdenljmfeejfaaLedG
import Derived.Test.YtmdenljmfeejfaaAbsBridge
set_option linter.unusedVariables false
set_option linter.unusedSimpArgs false
set_option maxRecDepth 100000
namespace Go.Proofs.Ytmdenljmfeejfaa
open Go Go.Abs Go.Toll
variable {gl : Globs} {h : AHeap}

theorem law32_two (k a b : Bytes) (t c d : Int) : ACalls Try.prog gl 36 [.str k, .int .i64 t, .str a, .int .i64 c, .str b, .int .i64 d] h fun v h' => v = .agg (encEn ⟨k, t, [⟨a, c⟩, ⟨b, d⟩]⟩) ∧ h' = h := by
  refine ACalls.fresh (ACalls.body Try.f36 _ mixed Try.func36 rfl rfl (by simp [Try.ntmps36]) ?_)
  simp
  refine .agg' (.cons (.data _ (by simp)) (.cons (.data _ (by simp)) (.cons ?_ .nil)))
  exact Frz.ownD (m := 2) (es := [[.str a, .int .i64 c], [.str b, .int .i64 d]]) (by simp) (by omega) (by simp) (by simp) (by simp)
def exK : TEn := ⟨[107], 5, [⟨[97, 99, 99, 111, 117, 110, 116, 58, 97], 300⟩, ⟨[114, 101, 118, 101, 110, 117, 101, 58, 115], -300⟩]⟩
def exX : TEn := ⟨[107], 6, [⟨[120], 1⟩, ⟨[121], -1⟩]⟩
def exN : TEn := ⟨[110], 6, [⟨[97, 99, 99, 111, 117, 110, 116, 58, 97], 5⟩, ⟨[98], -4⟩]⟩
theorem ex1 : postR [] exK = ([exK], 0) := by decide +kernel
theorem ex2 : postR [exK] exX = ([exK], 9) := by decide +kernel
theorem ex3 : postR [exK] exN = ([exK], 26) := by decide +kernel
theorem ex4 : enErr ⟨[107], 0, []⟩ = 1 := by decide +kernel
theorem ex5 : accL exK.posts = [[97, 99, 99, 111, 117, 110, 116, 58, 97], [114, 101, 118, 101, 110, 117, 101, 58, 115]] := by
  rw [accL_eq]; decide +kernel
theorem exKS : exK.okS := by simp [TEn.okS, exK]
theorem exXS : exX.okS := by simp [TEn.okS, exX]
theorem exNS : exN.okS := by simp [TEn.okS, exN]
theorem exKL : okL [exK] := by simp [okL, exK, fitsB]
def lxA : Nat → Option (Nat × List (Nat × Nat)) := fun i => if i = 3 then some (9, [(0, 7), (1, 7), (2, 7)]) else if i = 4 then some (9, [(0, 7), (1, 7), (2, 7)]) else none
set_option maxHeartbeats 4000000 in
theorem law32_alive [GOk gl] : ACalls Try.prog gl 13 [] h fun v h' => v = .bool true ∧ h' = h := by
  refine ACalls.data (.bool _) (ACalls.bodyM lxA Try.f13 _ mixed Try.func13 rfl rfl (by simp [Try.ntmps13]) ?_)
  have p1 : ∀ h, ACalls Try.prog gl 15 [.agg [.nil], .agg (encEn exK)] h fun v h' => v = .tup [.agg (encLg [exK]), .int .i64 0] ∧ h' = h := fun h => by
    have := ledger_Post (gl := gl) (h := h) [] exK (by simp [okL, exK]) exKS (by simp [exK])
    rw [ex1] at this
    exact ACalls.lend [] (.cons (.agg' (.cons .nil .nil)) (.cons (.same _) .nil)) this
  have p2 : ∀ h, ACalls Try.prog gl 15 [.agg (encLg [exK]), .agg (encEn exX)] h fun v h' => v = .tup [.agg (encLg [exK]), .int .i64 9] ∧ h' = h := fun h => by
    have := ledger_Post (gl := gl) (h := h) [exK] exX (by simp [okL, exK, exX, fitsB]) exXS (by simp [exX])
    rwa [ex2] at this
  have p3 : ∀ h, ACalls Try.prog gl 15 [.agg (encLg [exK]), .agg (encEn exN)] h fun v h' => v = .tup [.agg (encLg [exK]), .int .i64 26] ∧ h' = h := fun h => by
    have := ledger_Post (gl := gl) (h := h) [exK] exN (by simp [okL, exK, exN, fitsB]) exNS (by simp [exN])
    rwa [ex3] at this
  simp [lxA]
  refine callS.pure _ (fun _ => law32_two _ _ _ _ _ _) ?_
  simp [lxA]
  refine callS.pure _ (fun _ => p1 _) ?_
  simp [lxA, preOps]
  refine ⟨⟨by decide, by decide⟩, ?_⟩
  refine callS.pure _ (fun _ => law32_two _ _ _ _ _ _) ?_
  simp [lxA, preOps]
  refine callS.pure _ (fun _ => p2 _) ?_
  simp [lxA, preOps]
  refine ⟨⟨callS.pure _ (fun _ => law32_two _ _ _ _ _ _) (by simp), callS.pure _ (fun _ => p2 _) (by simp)⟩, ?_⟩
  refine ⟨⟨by decide, by decide⟩, ?_⟩
  refine callS.pure _ (fun _ => law32_two _ _ _ _ _ _) ?_
  simp [lxA, preOps]
  refine callS.pure _ (fun _ => p3 _) ?_
  simp [lxA, preOps]
  refine ⟨⟨callS.pure _ (fun _ => law32_two _ _ _ _ _ _) (by simp), callS.pure _ (fun _ => p3 _) (by simp)⟩, ?_⟩
  refine callS.pure _ (fun _ => ref32_Same [exK] [exK] (by simp) (by simp [exK])) ?_
  simp
  have c4 : ∀ h, ACalls Try.prog gl 11 [.agg [.str [107], .int .i64 0, .nil]] h fun v h' => v = .int .i64 1 ∧ h' = h := fun h => by
    have := ledger_Check (gl := gl) (h := h) ⟨[107], 0, []⟩ (by simp [TEn.okS])
    rw [ex4] at this
    exact ACalls.lend [] (.cons (.agg' (.cons (.same _) (.cons (.same _) (.cons .nil .nil)))) .nil) this
  refine callS.pure _ (fun _ => c4 _) ?_
  simp
  have t1 : trD exK.posts = 300 := by decide +kernel
  have t2 : trC exK.posts = 300 := by decide +kernel
  refine callS.pure _ (fun _ => ledger_Trial [exK] exKL) ?_
  simp [t1, t2]
  have b1 : balI [exK] [97, 99, 99, 111, 117, 110, 116, 58, 97] = 300 := by decide +kernel
  have b2 : balI [exK] [114, 101, 118, 101, 110, 117, 101, 58, 115] = -300 := by decide +kernel
  have u1 : untilL 5 [exK] = [] := by decide +kernel
  have u2 : untilL 6 [exK] = [exK] := by decide +kernel
  refine callS.pure _ (fun _ => ledger_Balance [exK] _ exKL) ?_
  simp [b1]
  refine callS.pure _ (fun _ => ledger_Balance [exK] _ exKL) ?_
  simp [b2]
  refine callS.pure _ (fun _ => ledger_Until [exK] _ (by simp) (by simp [exK])) ?_
  simp [u1]
  refine callS.pure _ (fun _ => ledger_Until [exK] _ (by simp) (by simp [exK])) ?_
  simp [u2]
  refine callS.pure _ (fun _ => ledger_Accounts [exK] exKL (by simp [exK])) ?_
  simp [ex5, encT]
  refine callS.pure _ (fun _ => ACalls.borrow (args' := [.ro (([[97, 99, 99, 111, 117, 110, 116, 58, 97], [114, 101, 118, 101, 110, 117, 101, 58, 115]] : List Bytes).map fun s => [.str s]), .ro (([[97, 99, 99, 111, 117, 110, 116, 58, 97], [114, 101, 118, 101, 110, 117, 101, 58, 115]] : List Bytes).map fun s => [.str s])]) (by simp) (.cons (.data _ (by simp)) (.cons (Frz.ownD (m := 1) (es := [[.str [97, 99, 99, 111, 117, 110, 116, 58, 97]], [.str [114, 101, 118, 101, 110, 117, 101, 58, 115]]]) (by simp) (by omega) (by simp) (by simp) (by simp)) .nil)) (ref01_SameTexts _ _ (by simp))) ?_
  simp
end Go.Proofs.Ytmdenljmfeejfaa
