/-
  The law ChainJoined returns true at every input: for every topology, every list of passages and all gaps, under no condition.
-/
import Derived.Test.YtjdchnbjegddhaaLaw19E
import Derived.Test.YtjdchnbjegddhaaRows
import Derived.Test.YtjdchnbjegddhaaTollShape
import Derived.ProofKit
set_option linter.unusedVariables false
set_option maxRecDepth 100000
namespace Go.Proofs.Ytjdchnbjegddhaa.lChainJoined
open Go Go.Abs Go.Toll Go.ChangeShapes Go.WideShapes Go.ChangeAt Go.RowKit

theorem own : ownKnob Try.prog.godebug = none := by kernel_rfl
def shapes : List Sh := [shTopo, .sl shPass, shI, shI]

theorem holds (xs : List AV) (h : okArgs shapes xs) : ACalls Try.prog (fun _ => none) 8 xs [] fun v h' => v = .bool true := by
  obtain ⟨_, _, rfl, h1, _, _, rfl, h2, _, _, rfl, h3, _, _, rfl, h4, rfl⟩ := h
  obtain ⟨t, rfl⟩ := arg_Topo h1
  obtain ⟨l, rfl, _, hl⟩ := arg_L (enc := encPass) (Q := TPass.Ok) h2 fun _ => ok_PassS
  obtain ⟨g, rfl, _⟩ := arg_I h3
  obtain ⟨m, rfl, _⟩ := arg_I h4
  exact law_Joined t l g m hl

theorem contract (H : Type) (enc : TypeId × Value → H) (W : World) (base : Nat) (args : Array Value) (ds gs : List (DataW H)) (before : List MemPlace)
    (hval : ∀ (j : Nat) t v, Try.f8.params[j]? = some t → args[j]? = some v → Value.okWide Try.prog W .any base t v)
    (hW : DataW.Whole enc Try.prog Try.f8.params.toList Rows.chainJoinedSpec.vars false W args.toList ds gs before) :
    Calls Try.prog 8 args W fun e W' => ∃ v, e = .returned v ∧ Rows.chainJoinedSpec.post enc Try.prog Try.f8 false true false false W args v W' :=
  law_contract (gl := fun _ => none) (tb := 4) shapes (kids_rows (by kernel_rfl) (by kernel_rfl)) (slices_full_of _ (by kernel_rfl)) (by kernel_rfl) (by decide +kernel) (by kernel_rfl) (by kernel_rfl) rfl
    (fun ds hd => by
      match ds, hd with
      | [d0, d1, d2, d3], _ => rfl) (fun _ _ h => by cases h) holds base args ds gs before hval hW

theorem lifted (os : Os) (started : os.Started) (H : Type) (enc : TypeId × Value → H) :
    ReturnsInHanded {} Try.checked os 8 .any (Rows.chainJoinedSpec.pre6 enc Try.prog Try.f8 Rows.chainJoinedRow.domain false) (Rows.chainJoinedSpec.post enc Try.prog Try.f8 false true false false) := by
  refine returnsInHanded_of_change (C := Try.checked) own started (by kernel_rfl) Try.func8
    (ChangeSpec.witness6 (enc := enc) (C := Try.checked) false ⟨#[], (shapes.map shArg).toArray, []⟩ 8 (by kernel_rfl) (by kernel_rfl) (by kernel_rfl) (by kernel_rfl)) ?_
  intro W base args ds gs before hval hW _ _
  exact contract H enc W base args ds gs before hval hW

/-- ████ THE STATEMENT ████ -/
theorem proved : Rows.ChainJoinedSaid :=
  OpenClaim.holds_of_wide 8 Try.f8 rfl rfl rfl rfl rfl rfl rfl ⟨rfl, rfl, rfl, rfl, rfl⟩ rfl rfl rfl rfl rfl (by kernel_rfl) Try.func8 (by kernel_rfl)
    (of_decide_eq_true (by kernel_rfl)) (by unfold Func.isWrapper; first | (rw [if_pos (by decide +kernel)]; kernel_rfl) | (rw [if_neg (by decide +kernel)]; exact ⟨rfl, rfl⟩))
    (fun os started H enc _ => lifted os started H enc)
#print axioms proved
end Go.Proofs.Ytjdchnbjegddhaa.lChainJoined
