/-
  What a simp unfolds of the abstract logic.
-/
import Derived.Test.YtillfoacekifbaaDoorAbsWp
set_option linter.unusedVariables false
set_option linter.unusedSimpArgs false
namespace Go.Abs
open Go

section
variable {P : Program} {gl : Globs} {N : Nat} {q : Bool} {ops : Array Oper} {K : AFrame → AHeap → Prop} {Q : APost} {fr : AFrame} {h : AHeap}
@[simp] theorem awp_skip : awp P gl N .skip Q fr h ↔ Q .normal fr h := Iff.rfl
@[simp] theorem awp_label (l : Nat) : awp P gl N (.label l) Q fr h ↔ Q .normal fr h := Iff.rfl
@[simp] theorem awp_seq (a b : Code) : awp P gl N (.seq a b) Q fr h ↔ awp P gl N a (AThen (awp P gl N b Q) Q) fr h := Iff.rfl
@[simp] theorem awp_cond (c : Operand) (x y : Code) : awp P gl N (.cond c x y) Q fr h ↔ (ev gl fr c).gd = true ∧ isB (ev gl fr c).core (acond (awp P gl N x Q) (awp P gl N y Q) fr h) := Iff.rfl
@[simp] theorem awp_block (id : Nat) (c : Code) : awp P gl N (.block id c) Q fr h ↔ awp P gl N c (ABlock id Q) fr h := Iff.rfl
@[simp] theorem awp_exit (id : Nat) : awp P gl N (.exit id) Q fr h ↔ Q (.exit id) fr h := Iff.rfl
@[simp] theorem awp_ret : awp P gl N .ret Q fr h ↔ Q .ret fr h := Iff.rfl
@[simp] theorem awp_region (id : Nat) : awp P gl N (.region id ops false) Q fr h ↔ aops P gl N false ops ops.toList (Q .normal) fr h := Iff.rfl
@[simp] theorem awp_draw (id : Nat) : awp P gl N (.region id ops true) Q fr h ↔ drawOk ops = true ∧ aops P gl N true ops ops.toList (Q .normal) fr h := Iff.rfl
@[simp] theorem awp_loop (c : Code) : awp P gl N (.loop c) Q fr h ↔ AWP P gl N (.loop c) Q fr h := Iff.rfl
@[simp] theorem acond_at (kx ky : AFrame → AHeap → Prop) (t : Bool) : acond kx ky fr h t ↔ (t = true → kx fr h) ∧ (t = false → ky fr h) := Iff.rfl
@[simp] theorem isB_bool (t : Bool) (k : Bool → Prop) : isB (.bool t) k ↔ k t := Iff.rfl
@[simp] theorem then_normal : AThen K Q .normal fr h ↔ K fr h := Iff.rfl
@[simp] theorem then_ret : AThen K Q .ret fr h ↔ Q .ret fr h := Iff.rfl
@[simp] theorem then_exit (id : Nat) : AThen K Q (.exit id) fr h ↔ Q (.exit id) fr h := Iff.rfl
@[simp] theorem block_normal (id : Nat) : ABlock id Q .normal fr h ↔ Q .normal fr h := Iff.rfl
@[simp] theorem block_ret (id : Nat) : ABlock id Q .ret fr h ↔ Q .ret fr h := Iff.rfl
@[simp] theorem block_exit (id id' : Nat) : ABlock id Q (.exit id') fr h ↔ if id' = id then Q .normal fr h else Q (.exit id') fr h := Iff.rfl
@[simp] theorem aops_nil : aops P gl N q ops [] K fr h ↔ K fr h := Iff.rfl
@[simp] theorem aops_cons (o : Oper) (l : List Oper) : aops P gl N q ops (o :: l) K fr h ↔ astep P gl N q ops o fr h (aops P gl N q ops l K) := Iff.rfl
@[simp] theorem acont_at (d : Option Tmp) (x : AV) : acont K fr d x h ↔ K (setd fr d x) h := Iff.rfl
@[simp] theorem setd_none (x : AV) : setd fr none x = fr := rfl
@[simp] theorem setd_some (d t : Nat) (x : AV) : setd fr (some d) x t = if t = d then x else fr t := rfl
@[simp] theorem ainit_at (args : List AV) (t : Nat) : ainit args t = args.getD t .junk := rfl
@[simp] theorem leaves_ret (fn : Func) (R : AV → AHeap → Prop) : rleaves P fn R .ret fr h ↔ (∀ r ∈ fn.results.toList, resOk P h fr r) ∧ R (resAll P h fr fn.results.toList) h := Iff.rfl
@[simp] theorem leaves_normal (fn : Func) (R : AV → AHeap → Prop) : rleaves P fn R .normal fr h ↔ (∀ r ∈ fn.results.toList, resOk P h fr r) ∧ R (resAll P h fr fn.results.toList) h := Iff.rfl
end

attribute [simp] isNilV isNilC nilOp nilCmp nilQ.eq_1 nilQ.eq_2 astep gstep agd isEff isEffB vok vval ev ofV ofV1 wrapG dstB   abin abinOk ibin ibinOk sbin sbinOk pickOk pickV resV resOk resAll aun aunOk aconv aconvOk
      fieldV fieldOk   indexV indexOk lookV lookOk extractV extractOk buildV buildOk sliceTOk aslice sliceOk loOk hiOf builtinV builtinOk   nilOk ifaceOk isIntO isInt aint
  acut cutOk foff fsz fty fieldsOf acells aelems effP effBP storeP updateP entryP entryStoreP makeMapP rangeP nextP buildSliceOk partsOk makeSliceOk elemZero elemCells zeroOk appendOk appendK slOk AV.solid allGd splice abuildS abuildA buildSOk buildAOk
  hcells hsz hmap isMap hput azero ceq ceq1 cok cok1 aggFit keysOk List.getElem?_append List.set_append

@[simp] theorem core_bool (b : Bool) : (AV.bool b).core = (AV.bool b) := rfl
@[simp] theorem gd_bool (b : Bool) : (AV.bool b).gd = true := rfl
@[simp] theorem core_int (k : IntKind) (n : Int) : (AV.int k n).core = (AV.int k n) := rfl
@[simp] theorem gd_int (k : IntKind) (n : Int) : (AV.int k n).gd = true := rfl
@[simp] theorem core_str (s : List UInt8) : (AV.str s).core = (AV.str s) := rfl
@[simp] theorem gd_str (s : List UInt8) : (AV.str s).gd = true := rfl
@[simp] theorem core_lit (x : Value) : (AV.lit x).core = (AV.lit x) := rfl
@[simp] theorem gd_lit (x : Value) : (AV.lit x).gd = true := rfl
@[simp] theorem core_agg (l : List AV) : (AV.agg l).core = (AV.agg l) := rfl
@[simp] theorem gd_agg (l : List AV) : (AV.agg l).gd = true := rfl
@[simp] theorem core_tup (l : List AV) : (AV.tup l).core = (AV.tup l) := rfl
@[simp] theorem gd_tup (l : List AV) : (AV.tup l).gd = true := rfl
@[simp] theorem core_nil  : (AV.nil).core = (AV.nil) := rfl
@[simp] theorem gd_nil  : (AV.nil).gd = true := rfl
@[simp] theorem core_e0  : (AV.e0).core = (AV.e0) := rfl
@[simp] theorem gd_e0  : (AV.e0).gd = true := rfl
@[simp] theorem core_ro (l : List (List AV)) : (AV.ro l).core = (AV.ro l) := rfl
@[simp] theorem gd_ro (l : List (List AV)) : (AV.ro l).gd = true := rfl
@[simp] theorem core_rop (l : List (List AV)) (i c : Nat) : (AV.rop l i c).core = (AV.rop l i c) := rfl
@[simp] theorem gd_rop (l : List (List AV)) (i c : Nat) : (AV.rop l i c).gd = true := rfl
@[simp] theorem core_own (b o l : Nat) : (AV.own b o l).core = (AV.own b o l) := rfl
@[simp] theorem gd_own (b o l : Nat) : (AV.own b o l).gd = true := rfl
@[simp] theorem core_ptr (b i c : Nat) : (AV.ptr b i c).core = (AV.ptr b i c) := rfl
@[simp] theorem gd_ptr (b i c : Nat) : (AV.ptr b i c).gd = true := rfl
@[simp] theorem core_fn (f : Fn) (a c : List AV) : (AV.fn f a c).core = (AV.fn f a c) := rfl
@[simp] theorem gd_fn (f : Fn) (a c : List AV) : (AV.fn f a c).gd = true := rfl
@[simp] theorem core_map (b : Nat) : (AV.map b).core = (AV.map b) := rfl
@[simp] theorem gd_map (b : Nat) : (AV.map b).gd = true := rfl
@[simp] theorem core_obj (b : Nat) : (AV.obj b).core = (AV.obj b) := rfl
@[simp] theorem gd_obj (b : Nat) : (AV.obj b).gd = true := rfl
@[simp] theorem core_iface (t : TypeId) (x : AV) : (AV.iface t x).core = (AV.iface t x) := rfl
@[simp] theorem gd_iface (t : TypeId) (x : AV) : (AV.iface t x).gd = true := rfl
@[simp] theorem core_junk  : (AV.junk).core = (AV.junk) := rfl
@[simp] theorem gd_junk  : (AV.junk).gd = true := rfl
@[simp] theorem core_opt (g : Bool) (x : AV) : (AV.opt g x).core = x := rfl
@[simp] theorem gd_opt (g : Bool) (x : AV) : (AV.opt g x).gd = g := rfl
attribute [simp] alen.eq_1 alen.eq_2 alen.eq_3 alen.eq_4 lenOk.eq_1 lenOk.eq_2 lenOk.eq_3 lenOk.eq_4 lenOk.eq_5 lenOk.eq_6 lenOk.eq_7 iaddrOk.eq_1 iaddrOk.eq_2 iaddrOk.eq_3 iaddrOk.eq_4 iaddrV.eq_1 iaddrV.eq_2 iaddrV.eq_3 iaddrV.eq_4 loadOk.eq_1 loadOk.eq_2 loadV.eq_1 loadV.eq_2 faddrV.eq_1 faddrV.eq_2 faddrOk.eq_1 faddrOk.eq_2
@[simp] theorem alen_nil (h : AHeap) : alen h .nil = 0 := rfl
@[simp] theorem alen_e0 (h : AHeap) : alen h .e0 = 0 := rfl
@[simp] theorem alen_lit (h : AHeap) (x : Value) : alen h (.lit x) = 0 := rfl

section
variable {P : Program} {gl : Globs} {f : FuncId} {args : List AV} {h : AHeap}

/-- A call that hands back data and leaves only rubbish. -/
theorem ACalls.data {r : AV} (hd : r.Data) (c : ACalls P gl f args h (fun x h' => x = r ∧ ∃ g, h' = h ++ g)) : ACalls P gl f args h (fun x h' => x = r ∧ h' = h) := by
  refine c.trim ?_
  rintro x h' ⟨rfl, g, rfl⟩
  exact ⟨_, .data _ hd, by simp, fun b o hb ho => .inl (by rwa [List.getElem?_append_left hb] at ho), rfl, by simp⟩

/-- A call that hands back memory of its own, which may be read from now on. -/
theorem ACalls.fresh {r : AV} (c : ACalls P gl f args h (fun x h' => ∃ g, h' = h ++ g ∧ Frz h.length (h ++ g) x r)) : ACalls P gl f args h (fun x h' => x = r ∧ h' = h) := by
  refine c.trim ?_
  rintro x h' ⟨g, rfl, hf⟩
  exact ⟨_, hf, by simp, fun b o hb ho => .inl (by rwa [List.getElem?_append_left hb] at ho), rfl, by simp⟩
end
@[simp] theorem strAt_inj (s s' : List UInt8) (p p' : Nat) : strAt s p = strAt s' p' ↔ s = s' ∧ p = p' := by
  constructor
  · intro h
    simp only [strAt, AObj.raw.injEq, Obj.stringIter.injEq, ByteArray.mk.injEq] at h
    exact ⟨by have := congrArg Array.toList h.1; simpa using this, h.2⟩
  · rintro ⟨rfl, rfl⟩; rfl
@[simp] theorem bval_bool (b : Bool) : (AV.bool b).bval = b := rfl
@[simp] theorem isBoolV_bool (b : Bool) : isBoolV (.bool b) ↔ True := Iff.rfl
end Go.Abs
