/-
  The law CapOrder returns true at every input, where the table of months is as its initialiser lays it: for all caps, all charges and every charge, under no other condition.
-/
import Derived.Test.YtillfoacekifbaaDoorLawCapOrder
import Derived.Test.YtillfoacekifbaaDoorRows
import Derived.Test.YtillfoacekifbaaDoorCards
import Derived.Test.YtillfoacekifbaaDoorTie
import Derived.Test.YtillfoacekifbaaDoorTollCapShape
import Derived.ProofKit
import Derived.OpenShut
import Derived.Deep.DeepHandedRow
import Derived.Lib.LaidTab
import Derived.SevenTiedAt
set_option linter.unusedVariables false
set_option maxRecDepth 100000
namespace Go.Proofs.YtillfoacekifbaaDoor.lCapOrder
open Go Go.Abs Go.Toll Go.ChangeShapes Go.WideShapes Go.ChangeAt Go.RowKit

theorem own : ownKnob Tryd.prog.godebug = none := by kernel_rfl
theorem gTab : Tryd.prog.globalNamed "tollway/clock.months" = some 0 := by kernel_rfl
theorem gTabType : (Tryd.prog.globals[0]?).map (·.type) = some 70 := by kernel_rfl
theorem cellsA : Tryd.prog.cellsOf 70 = 12 := by kernel_rfl
theorem cellsI : Tryd.prog.cellsOf 3 = 1 := by kernel_rfl
def shapes : List Sh := [.sl shCap, .sl shChg, shChg]
def glT : Globs := fun g => if g = 0 then some monthCells else none
instance glOk : GOk glT := ⟨fun g cs h x hx => by
  unfold glT at h
  split at h
  · injection h with h; subst h; simp [monthCells] at hx; rcases hx with rfl | rfl | rfl | rfl | rfl | rfl | rfl | rfl | rfl | rfl | rfl | rfl <;> simp
  · cases h⟩

theorem holds (xs : List AV) (h : okArgs shapes xs) : ACalls Tryd.prog glT 8 xs [] fun v h' => v = .bool true := by
  have hgl : glT 0 = some monthCells := rfl
  obtain ⟨_, _, rfl, h1, _, _, rfl, h2, _, _, rfl, h3, rfl⟩ := h
  obtain ⟨l, rfl, _, _⟩ := arg_L h1 fun _ => ok_Cap
  obtain ⟨x, rfl, _, hx⟩ := arg_L h2 fun _ => ok_Chg
  obtain ⟨m, rfl, hm⟩ := arg_T (f := .cons .str (.cons .str (.cons .str (.cons shI (.cons shI (.cons (.sl shLine) (.cons shI .none))))))) h3 fun _ => ok_Chg
  exact law_Order hgl l x m

/-- What the row's list gives. -/
theorem table {W : World} (h : laidMetH Tryd.prog Rows.capOrderRow.laid W) (g : Nat) (cs : List AV) (hg : glT g = some cs) : VRel [] (Own [] []) W (.rop [cs] 0 0) (.pointer (some ⟨g, 0, none⟩)) := by
  have ht : Lib.TabIs Tryd.prog W "tollway/clock.months" .i64 [31, 28, 31, 30, 31, 30, 31, 31, 30, 31, 30, 31] := Lib.tabIs_of_head (rest := []) gTab gTabType Tryd.underlying70 Tryd.underlying3 cellsI cellsA h
  unfold glT at hg
  split at hg
  · rename_i e
    injection hg with hg
    subst hg; subst e
    exact vrel_table (zs := [31, 28, 31, 30, 31, 30, 31, 31, 30, 31, 30, 31]) (by simp) fun i hi => ht.cell gTab i hi
  · cases hg

theorem contract (H : Type) (enc : TypeId × Value → H) (W : World) (base : Nat) (args : Array Value) (ds gs : List (DataW H)) (before : List MemPlace)
    (hval : ∀ (j : Nat) t v, Tryd.f8.params[j]? = some t → args[j]? = some v → Value.okWide Tryd.prog W .any base t v)
    (hW : DataW.Whole enc Tryd.prog Tryd.f8.params.toList Rows.capOrderSpec.vars false W args.toList ds gs before) (hL : laidMetH Tryd.prog Rows.capOrderRow.laid W) :
    Calls Tryd.prog 8 args W fun e W' => ∃ v, e = .returned v ∧ Rows.capOrderSpec.post enc Tryd.prog Tryd.f8 false true false false W args v W' :=
  law_contract (gl := glT) (tb := 4) shapes (kids_rows (by kernel_rfl) (by kernel_rfl)) (slices_full_of _ (by kernel_rfl)) (by kernel_rfl) (by decide +kernel) (by kernel_rfl) (by kernel_rfl) rfl
    (fun ds hd => by
      match ds, hd with
      | [d0, d1, d2], _ => rfl) (table hL) holds base args ds gs before hval hW

/-- A world for the witness: the table holds what its initialiser lays. -/
noncomputable def laidWorld (os : Os) : World :=
  { World.holding Tryd.prog os ⟨#[], #[], []⟩ with heap := (World.holding Tryd.prog os ⟨#[], #[], []⟩).heap.modify 0 fun
      | .cells _ t frozen => .cells #[.int .i64 31, .int .i64 28, .int .i64 31, .int .i64 30, .int .i64 31, .int .i64 30, .int .i64 31, .int .i64 31, .int .i64 30, .int .i64 31, .int .i64 30, .int .i64 31] t frozen
      | o => o }
noncomputable def wArgs : Array Value := (shapes.map shArg).toArray
theorem laid_met (os : Os) : laidMet Tryd.prog Rows.capOrderRow.laid ((laidWorld os).forCall (fun _ _ => 0) ⟨#[], wArgs, []⟩).memory :=
  laidMet_of_run' 8 (by kernel_rfl) (by kernel_rfl)
theorem reads (os : Os) {H : Type} (enc : TypeId × Value → H) : (DataW.whole enc Tryd.prog ((laidWorld os).forCall (fun _ _ => 0) ⟨#[], wArgs, []⟩).memory Tryd.f8.params.toList Rows.capOrderSpec.vars false wArgs.toList 8).isSome = true := by kernel_rfl

theorem lifted (os : Os) (started : os.Started) (H : Type) (enc : TypeId × Value → H) (F : Stop.Interp) :
    ReturnsInHanded {} Tryd.checked os 8 .any ((OpenSpec.ofChange Rows.capOrderSpec).preRow enc Tryd.prog Tryd.f8 Rows.capOrderRow.domain false Rows.capOrderRow.laid) (((OpenSpec.ofChange Rows.capOrderSpec).at F).post enc Tryd.prog Tryd.f8 false true false false) := by
  obtain ⟨x, hx⟩ := Option.isSome_iff_exists.1 (reads os enc)
  refine returnsInHanded_of_row (C := Tryd.checked) (s := OpenSpec.ofChange Rows.capOrderSpec) own started (by kernel_rfl) Tryd.func8
    (witness_row_at (enc := enc) (C := Tryd.checked) false (laidWorld os) wArgs rfl (by kernel_rfl) (by kernel_rfl) (by kernel_rfl)
      (OpenSpec.preRow_of_cond 8 hx rfl (fun k hk => by cases hk) (by kernel_rfl) (laid_met os))) ?_
  intro W base args ds gs before hval hW _ _ _ hL _ _
  exact contract H enc W base args ds gs before hval hW hL

theorem said : Rows.CapOrderSaid :=
  OpenClaim.holds_of_cond 8 Tryd.f8 rfl rfl rfl rfl rfl rfl rfl ⟨rfl, rfl, rfl, rfl, rfl⟩ rfl rfl rfl rfl rfl (by kernel_rfl) Tryd.func8 (by kernel_rfl)
    (of_decide_eq_true (by kernel_rfl)) (by unfold Func.isWrapper; first | (rw [if_pos (by decide +kernel)]; kernel_rfl) | (rw [if_neg (by decide +kernel)]; exact ⟨rfl, rfl⟩))
    (fun os started H enc _ F => by rw [OpenClaim.pre_eq_preRow]; exact lifted os started H enc F)

theorem plain (f : FuncId) (fn : Func) (hf : Tryd.pinned.checked.prog.funcNamed "tollway/tollwaylaw25.CapOrder" = some f) (hfn : Tryd.pinned.checked.prog.funcs[f]? = some fn) :
    false = Tryd.pinned.checked.prog.looks [] ∧ ∀ (j : Nat) t, fn.params[j]? = some t → Tryd.pinned.checked.prog.wantsStandIn t = false := by
  obtain rfl : f = 8 := Option.some.inj ((show Tryd.prog.funcNamed "tollway/tollwaylaw25.CapOrder" = some 8 by kernel_rfl).symm.trans hf) |>.symm
  obtain rfl : fn = Tryd.f8 := (Option.some.inj (Tryd.func8.symm.trans hfn)).symm
  refine ⟨by kernel_rfl, fun j t ht => ?_⟩
  have hm : t ∈ Tryd.f8.params.toList := by simpa using Array.mem_of_getElem? ht
  have hall : (Tryd.f8.params.toList.all fun u => !Tryd.prog.wantsStandIn u) = true := by kernel_rfl
  exact (show Tryd.prog.wantsStandIn t = false by simpa using List.all_eq_true.1 hall t hm)

/-- ████ THE CARD ████ -/
theorem proved : Rows.CapOrderCardSaid :=
  Claim7.holds_tied_plain_at .later [] _ _ _ _ said (fun _ h => by cases h) (by kernel_rfl) (fun _ h => by cases h) capOrder_row_tie rfl ⟨rfl, rfl⟩ (by kernel_rfl) rfl plain (by kernel_rfl)
#print axioms proved
end Go.Proofs.YtillfoacekifbaaDoor.lCapOrder
