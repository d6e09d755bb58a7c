/-
  The law TripNames returns true at every input: for every trip, under no condition.
-/
import Derived.Test.YtkpioblbeiaefaaGreatPe27
import Derived.Test.YtkpioblbeiaefaaGreatRows
import Derived.ProofKit
set_option linter.unusedSectionVars false
set_option linter.unusedVariables false
set_option linter.unusedSimpArgs false
set_option linter.unnecessarySimpa false
set_option maxRecDepth 100000
namespace Go.Proofs.YtkpioblbeiaefaaGreat.lTripNames
open Go Go.Abs Go.Toll Go.ChangeShapes Go.WideShapes Go.ChangeAt Go.RowKit
theorem own:ownKnob Tryz.prog.godebug=none:=by kernel_rfl
def shapes:List Sh:=[FU]
theorem holds (xs:List AV)(h:q9 shapes xs):aa Tryz.prog (fun _=>none) 6 xs [] fun v h'=>v= .bool true:=by
 obtain⟨_,_,rfl,h1,rfl⟩:=h;obtain⟨x,rfl⟩:=Gr h1;exact MI x
theorem contract (H:Type)(enc:TypeId×Value→H)(W:World)(base:Nat)(args:Array Value)(ds gs:List (DataW H))(before:List MemPlace)
  (hval: ∀(j:Nat) t v,Tryz.f6.params[j]? =some t→args[j]? =some v→Value.okWide Tryz.prog W .any base t v)
  (hW:DataW.Whole enc Tryz.prog Tryz.f6.params.toList Rows.tripNamesSpec.vars false W args.toList ds gs before):
  Calls Tryz.prog 6 args W fun e W'=> ∃v,e= .returned v∧Rows.tripNamesSpec.post enc Tryz.prog Tryz.f6 false true false false W args v W':=
 vS (gl:=fun _=>none) (tb:=4) shapes (kids_rows (by kernel_rfl) (by kernel_rfl)) (slices_full_of _ (by kernel_rfl)) (by kernel_rfl) (by decide+kernel) (by kernel_rfl) (by kernel_rfl) rfl
  (fun ds hd=>by
   match ds,hd with
   | [d0],_=>rfl) (fun _ _ h=>by cases h) holds base args ds gs before hval hW
theorem lifted (os:Os)(started:os.Started)(H:Type)(enc:TypeId×Value→H):
  ReturnsInHanded {} Tryz.checked os 6 .any (Rows.tripNamesSpec.pre6 enc Tryz.prog Tryz.f6 Rows.tripNamesRow.domain false) (Rows.tripNamesSpec.post enc Tryz.prog Tryz.f6 false true false false):=by
 refine returnsInHanded_of_change (C:=Tryz.checked) own started (by kernel_rfl) Tryz.func6
  (ChangeSpec.witness6 (enc:=enc) (C:=Tryz.checked) false ⟨#[],(shapes.map PO).toArray,[]⟩ 8 (by kernel_rfl) (by kernel_rfl) (by kernel_rfl) (by kernel_rfl)) ?_
 intro W base args ds gs before hval hW _ _;exact contract H enc W base args ds gs before hval hW
theorem proved:Rows.TripNamesSaid:=
 OpenClaim.holds_of_wide 6 Tryz.f6 rfl rfl rfl rfl rfl rfl rfl ⟨rfl,rfl,rfl,rfl,rfl⟩ rfl rfl rfl rfl rfl (by kernel_rfl) Tryz.func6 (by kernel_rfl)
  (of_decide_eq_true (by kernel_rfl)) (by unfold Func.isWrapper;first | (rw [if_pos (by decide+kernel)];kernel_rfl) | (rw [if_neg (by decide+kernel)];exact⟨rfl,rfl⟩))
  (fun os started H enc _=>lifted os started H enc)
#print axioms proved
end Go.Proofs.YtkpioblbeiaefaaGreat.lTripNames
