/-
  Regions over the abstract state: in the text's order; in whatever order.
-/
import Derived.Test.YtcbaojkchiphkaaAbsRun
import Derived.Test.YtcbaojkchiphkaaAbsHop6
set_option linter.unusedVariables false
set_option linter.unusedSimpArgs false
namespace Go.Abs
open Go

/-- Does the operation turn the heap? -/
def isEff : Op → Bool
  | .box .. | .alloc .. | .store .. | .buildSlice .. | .makeSlice .. | .makeMap .. | .mapUpdate .. | .insert .. | .range .. | .next .. => true
  | _ => false
def isEffB : Builtin → Bool
  | .append => true
  | _ => false

section
variable {P : Program} {gl : Globs} {J : List Blk} {h : AHeap} {w : World} {fr : AFrame} {N : Nat} {ops : Array Oper}

def ptrOf : AV → Option (Nat × Nat × Nat)
  | .ptr b i c => some (b, i, c)
  | _ => none
def storeP (P : Program) (h : AHeap) (t : TypeId) (a x : AV) (c : AV → AHeap → Prop) : Prop := match a with
  | .ptr b i o => x.solid = true ∧ (tinfo P t).ok = true ∧ (acells x).length = (tinfo P t).cells ∧ i < (hcells h b).length ∧ o + (tinfo P t).cells ≤ ((hcells h b).getD i []).length ∧ c .junk (hput h b i o (acells x))
  | _ => False
def updateP (P : Program) (h : AHeap) (t : TypeId) (m k x : AV) (c : AV → AHeap → Prop) : Prop := match (tinfo P t).kind, m with
  | .map kt _, .map b => isMap h b = true ∧ keysOk P kt k (hmap h b) ∧ c .junk (h.set b (.map (aset (hmap h b) k x)))
  | _, _ => False
def makeMapP (h : AHeap) (k : TK) (c : AV → AHeap → Prop) : Prop := match k with
  | .map _ _ => c (.map h.length) (h ++ [.map []])
  | _ => False

def rangeP (k : TK) (x : AV) (h : AHeap) (c : AV → AHeap → Prop) : Prop := match k, x with
  | .string, .str s => c (.obj h.length) (h ++ [strAt s 0])
  | _, _ => False
def nextP (h : AHeap) (x : AV) (isS : Bool) (c : AV → AHeap → Prop) : Prop := match isS, x with
  | true, .obj b => ∃ s pos, h[b]? = some (strAt s pos) ∧ (pos < s.length → c (.tup [.bool true, .int .i64 pos, .int .i32 (runeAt s pos).1]) (h.set b (strAt s (pos + (runeAt s pos).2)))) ∧ (¬ pos < s.length → c (.tup [.bool false]) h)
  | _, _ => False

/-- An operation that turns the heap, and what follows. -/
def effP (P : Program) (gl : Globs) (fr : AFrame) (h : AHeap) (c : AV → AHeap → Prop) : Op → Prop
  | .box _ x => (ev gl fr x).gd = true ∧ (ev gl fr x).core.solid = true ∧ 0 < (acells (ev gl fr x).core).length ∧ c (.ptr h.length 0 0) (h ++ [.cells (acells (ev gl fr x).core).length [acells (ev gl fr x).core]])
  | .alloc t => (tinfo P t).ok = true ∧ (tinfo P t).zok = true ∧ 0 < (tinfo P t).zero.length ∧ c (.ptr h.length 0 0) (h ++ [.cells (tinfo P t).zero.length [(tinfo P t).zero]])
  | .store t a x => (ev gl fr a).gd = true ∧ (ev gl fr x).gd = true ∧ storeP P h t (ev gl fr a).core (ev gl fr x).core c
  | .buildSlice t len parts => (∀ p ∈ parts.toList, (ev gl fr p.2).gd = true) ∧ buildSliceOk P t len (parts.toList.map fun p => (p.1, (ev gl fr p.2).core)) ∧
    c (.own h.length 0 len) (h ++ [.cells (elemCells P t) ((parts.toList.map fun p => (p.1, (ev gl fr p.2).core)).map fun p => acells p.2)])
  | .makeSlice t l k => (ev gl fr l).gd = true ∧ (ev gl fr k).gd = true ∧ makeSliceOk P t (ev gl fr l).core (ev gl fr k).core ∧
    c (.own h.length 0 (aint (ev gl fr l).core).toNat) (h ++ [.cells (elemCells P t) (List.replicate (aint (ev gl fr l).core).toNat (elemZero P t))])
  | .makeMap t r => isIntO (r.map (ev gl fr)) ∧ makeMapP h (tinfo P t).kind c
  | .mapUpdate t m k x => (ev gl fr m).gd = true ∧ (ev gl fr k).gd = true ∧ (ev gl fr x).gd = true ∧ updateP P h t (ev gl fr m).core (ev gl fr k).core (ev gl fr x).core c
  | .insert t m k x => (ev gl fr m).gd = true ∧ (ev gl fr k).gd = true ∧ (ev gl fr x).gd = true ∧ updateP P h t (ev gl fr m).core (ev gl fr k).core (ev gl fr x).core c
  | .range t x => (ev gl fr x).gd = true ∧ rangeP (tinfo P t).kind (ev gl fr x).core h c
  | .next it isS => (ev gl fr it).gd = true ∧ nextP h (ev gl fr it).core isS c
  | _ => False

def effBP (P : Program) (h : AHeap) (ts : List TypeId) (c : AV → AHeap → Prop) (b : Builtin) (xs : List AV) : Prop := match b, xs with
  | .append, [s, x] => appendOk P h ts s x ∧ appendK (elemCells P (ts.headD 0)) h s x c
  | _, _ => False

/-- It has one outcome. -/
theorem appendK_det {n : Nat} {s x : AV} {c : AV → AHeap → Prop} (hk : appendK n h s x c) : ∃ y h', c y h' ∧ appendK n h s x (fun y' h'' => y' = y ∧ h'' = h') := by
  unfold appendK at hk ⊢
  split at hk
  · by_cases he : aelems h x = []
    · exact ⟨_, _, hk.1 he, fun _ => ⟨rfl, rfl⟩, fun h => absurd he h⟩
    · exact ⟨_, _, hk.2 he, fun h => absurd h he, fun _ => ⟨rfl, rfl⟩⟩
  · by_cases he : aelems h x = []
    · exact ⟨_, _, hk.1 he, fun _ => ⟨rfl, rfl⟩, fun h => absurd he h⟩
    · exact ⟨_, _, hk.2 he, fun h => absurd h he, fun _ => ⟨rfl, rfl⟩⟩
  · exact ⟨_, _, hk, rfl, rfl⟩
  · exact hk.elim

set_option maxHeartbeats 1000000 in
theorem StepOK.eff {o : Oper} (hg : agd ops fr o = some true) {c : AV → AHeap → Prop} (he : effP P gl fr h c o.op) : ∃ x h', c x h' ∧ StepOK P gl N ops o fr h x h' := by
  cases hop : o.op <;> simp only [hop, effP] at he
  case box t x =>
    obtain ⟨h1, h2, h3, h4⟩ := he
    refine ⟨_, _, h4, StepOK.steps1 hg fun J a w hh hr => ⟨_, by unfold execOp; rw [hop]; simp only [Sem.run_bind, Sem.run_pure]; rfl, ?_⟩⟩
    exact box_steps hh ((hr x (by rw [hop]; simp [Op.operands])).core h1) h2 h3 ⟨rfl, rfl⟩
  case alloc t =>
    obtain ⟨h1, h2, h3, h4⟩ := he
    refine ⟨_, _, h4, StepOK.steps1 hg fun J a w hh hr => ⟨_, by unfold execOp; rw [hop]; simp only [Sem.run_bind, Sem.run_pure]; rfl, ?_⟩⟩
    exact alloc_steps hh h1 h2 h3 ⟨rfl, rfl⟩
  case store t p x =>
    obtain ⟨h1, h2, h3⟩ := he
    unfold storeP at h3
    split at h3
    · rename_i b i o' hp
      obtain ⟨q1, q2, q3, q4, q5, q6⟩ := h3
      refine ⟨_, _, q6, StepOK.steps0 hg fun J a w hh hr => ⟨_, by unfold execOp; rw [hop]; simp only [Sem.run_bind, Sem.run_pure]; rfl, ?_⟩⟩
      have rp := (hr p (by rw [hop]; simp [Op.operands])).core h1
      rw [hp] at rp
      exact store_steps hh q2 rp ((hr x (by rw [hop]; simp [Op.operands])).core h2) q1 q3 q4 q5 rfl
    · exact h3.elim
  case buildSlice t len parts =>
    obtain ⟨h1, h2, h3⟩ := he
    refine ⟨.own h.length 0 len, h ++ [.cells (elemCells P t) ((parts.toList.map fun p => (p.1, (ev gl fr p.2).core)).map fun p => acells p.2)], h3, ?_⟩
    refine StepOK.steps1 hg ?_
    intro J a w hh hr
    refine ⟨Instr.buildSlice t len (parts.map fun (i, x) => (i, a.eval x)), by unfold execOp; rw [hop]; simp only [Sem.run_bind, Sem.run_pure], ?_⟩
    have hm : ∀ p ∈ parts.toList, VRel J (Own h J) w (ev gl fr p.2) (a.eval p.2) := fun p hp => hr p.2 (by
      rw [hop]
      simp only [Op.operands, List.mem_toArray]
      exact List.mem_map.2 ⟨p, hp, rfl⟩)
    have := prels_map (a := a) (J := J) (O := Own h J) (w := w) parts.toList hm h1
    refine buildSlice_steps (ps := parts.toList.map fun p => (p.1, (ev gl fr p.2).core)) (qs := parts.map fun (i, x) => (i, a.eval x)) hh ?_ h2 ?_
    · simpa using this
    · exact ⟨rfl, rfl⟩
  case makeSlice t l k =>
    obtain ⟨h1, h2, h3, h4⟩ := he
    refine ⟨.own h.length 0 (aint (ev gl fr l).core).toNat, h ++ [.cells (elemCells P t) (List.replicate (aint (ev gl fr l).core).toNat (elemZero P t))], h4, ?_⟩
    refine StepOK.steps1 hg ?_
    intro J a w hh hr
    refine ⟨Instr.makeSlice t (a.eval l) (a.eval k), by unfold execOp; rw [hop]; simp only [Sem.run_bind, Sem.run_pure], ?_⟩
    exact makeSlice_steps hh ((hr l (by rw [hop]; simp [Op.operands])).core h1) ((hr k (by rw [hop]; simp [Op.operands])).core h2) h3 ⟨rfl, rfl⟩
  case makeMap t r =>
    obtain ⟨h1, h2⟩ := he
    unfold makeMapP at h2
    split at h2
    · rename_i kt et hk
      refine ⟨_, _, h2, StepOK.steps1 hg fun J a w hh hr => ⟨_, by unfold execOp; rw [hop]; simp only [Sem.run_bind, Sem.run_pure]; rfl, ?_⟩⟩
      refine makeMap_steps hh hk ?_ ⟨rfl, rfl⟩
      intro v hv
      cases r with
      | none => simp at hv
      | some y =>
        simp only [Option.map_some, Option.mem_def, Option.some.injEq] at hv
        subst hv
        simp only [Option.map_some, isIntO] at h1
        obtain ⟨k, hk⟩ := int_of ((hr y (by rw [hop]; simp [Op.operands])).core h1.1) h1.2
        exact ⟨k, _, hk⟩
    · exact h2.elim
  case mapUpdate t m k x =>
    obtain ⟨h1, h2, h3, h4⟩ := he
    unfold updateP at h4
    split at h4
    · rename_i kt et b hk hm
      obtain ⟨q1, q2, q3⟩ := h4
      refine ⟨_, _, q3, StepOK.steps0 hg fun J a w hh hr => ⟨_, by unfold execOp; rw [hop]; simp only [Sem.run_bind, Sem.run_pure]; rfl, ?_⟩⟩
      have rm := (hr m (by rw [hop]; simp [Op.operands])).core h1
      rw [hm] at rm
      exact mapUpdate_steps hh hk rm ((hr k (by rw [hop]; simp [Op.operands])).core h2) ((hr x (by rw [hop]; simp [Op.operands])).core h3) q1 q2 rfl
    · exact h4.elim
  case insert t m k x =>
    obtain ⟨h1, h2, h3, h4⟩ := he
    unfold updateP at h4
    split at h4
    · rename_i kt et b hk hm
      obtain ⟨q1, q2, q3⟩ := h4
      refine ⟨_, _, q3, StepOK.steps0 hg fun J a w hh hr => ⟨_, by unfold execOp; rw [hop]; simp only [Sem.run_bind, Sem.run_pure]; rfl, ?_⟩⟩
      have rm := (hr m (by rw [hop]; simp [Op.operands])).core h1
      rw [hm] at rm
      exact mapUpdate_steps hh hk rm ((hr k (by rw [hop]; simp [Op.operands])).core h2) ((hr x (by rw [hop]; simp [Op.operands])).core h3) q1 q2 rfl
    · exact h4.elim
  case range t x =>
    obtain ⟨h1, h2⟩ := he
    unfold rangeP at h2
    split at h2
    · rename_i s hk hx
      refine ⟨_, _, h2, StepOK.steps1 hg fun J a w hh hr => ⟨_, by unfold execOp; rw [hop]; simp only [Sem.run_bind, Sem.run_pure]; rfl, ?_⟩⟩
      have rx := (hr x (by rw [hop]; simp [Op.operands])).core h1
      rw [hx] at rx
      exact range_steps hh hk rx ⟨rfl, rfl⟩
    · exact h2.elim
  case next it isS =>
    obtain ⟨h1, h2⟩ := he
    unfold nextP at h2
    split at h2
    · rename_i b hx
      obtain ⟨s, pos, hb, h3, h4⟩ := h2
      by_cases hp : pos < s.length
      · refine ⟨_, _, h3 hp, StepOK.steps1 hg fun J a w hh hr => ⟨_, by unfold execOp; rw [hop]; simp only [Sem.run_bind, Sem.run_pure]; rfl, ?_⟩⟩
        have rx := (hr it (by rw [hop]; simp [Op.operands])).core h1
        rw [hx] at rx
        exact next_steps hh hb rx (fun _ => ⟨rfl, rfl⟩) (fun hn => absurd hp hn)
      · refine ⟨_, _, h4 hp, StepOK.steps1 hg fun J a w hh hr => ⟨_, by unfold execOp; rw [hop]; simp only [Sem.run_bind, Sem.run_pure]; rfl, ?_⟩⟩
        have rx := (hr it (by rw [hop]; simp [Op.operands])).core h1
        rw [hx] at rx
        exact next_steps hh hb rx (fun hn => absurd hn hp) (fun _ => ⟨rfl, rfl⟩)
    · exact h2.elim

theorem StepOK.effB {o : Oper} {b : Builtin} {args : Array Operand} {ats : Array TypeId} (ho : o.op = .call { callee := .builtin b, args, argTypes := ats }) (hg : agd ops fr o = some true) (hgd : ∀ y ∈ args.toList, (ev gl fr y).gd = true)
    {c : AV → AHeap → Prop} (he : effBP P h ats.toList c b (args.toList.map fun y => (ev gl fr y).core)) : ∃ x h', c x h' ∧ StepOK P gl N ops o fr h x h' := by
  unfold effBP at he
  split at he
  · rename_i s x hxs
    obtain ⟨hok, hk⟩ := he
    obtain ⟨y, h', hc, hk'⟩ := appendK_det hk
    refine ⟨y, h', hc, ?_⟩
    match hargs : args.toList, hxs with
    | [s0, x0], hxs =>
      simp only [List.map_cons, List.map_nil, List.cons.injEq, and_true] at hxs
      obtain ⟨e1, e2⟩ := hxs
      have hargs' : args = #[s0, x0] := by rw [← Array.toArray_toList (xs := args), hargs]
      refine StepOK.steps1 hg fun J a w hh hr => ⟨Builtin.append_ ats o.type #[a.eval s0, a.eval x0], by unfold execOp; rw [ho]; subst hargs'; simp only [resolve, invoke, builtin, Sem.run_bind, Sem.run_pure, Result.andThen_ok, List.map_toArray, List.map_cons, List.map_nil], ?_⟩
      have hop : o.op.operands = args := by rw [ho]; simp [Op.operands, Call.operands]
      have r1 := (hr s0 (by rw [hop, hargs']; simp)).core (hgd s0 (by rw [hargs]; simp))
      have r2 := (hr x0 (by rw [hop, hargs']; simp)).core (hgd x0 (by rw [hargs]; simp))
      rw [e1] at r1
      rw [e2] at r2
      have := append_steps (P := P) (ty := o.type) hh r1 r2 hok hk'
      rwa [Array.toArray_toList] at this
  · exact he.elim

theorem StepOK.valB {o : Oper} {b : Builtin} {args : Array Operand} {ats : Array TypeId} {G : Bool} (ho : o.op = .call { callee := .builtin b, args, argTypes := ats }) (hg : agd ops fr o = some G) (hgd : G = true → ∀ y ∈ args.toList, (ev gl fr y).gd = true)
    (hok : G = true → builtinOk P h b ats.toList (args.toList.map fun y => (ev gl fr y).core)) : StepOK P gl N ops o fr h (wrapG o.guard G (builtinV h b (args.toList.map fun y => (ev gl fr y).core))) h := by
  intro J a w Q hh hr
  have hw := agd_sound (fun t ht => hr t (mem_looks_g ht)) hg
  rw [hw]
  refine ⟨?_, ?_⟩
  · rintro rfl
    have hev := ev_at (O := Own h J) hh hr
    have hop : o.op.operands = args := by rw [ho]; simp [Op.operands, Call.operands]
    have rargs := vrels_map (a := a) (J := J) (O := Own h J) (w := w) (gl := gl) (fr := fr) args.toList (fun y hy => hev y (by rw [hop]; simpa using hy)) (hgd rfl)
    obtain ⟨v, h1, h2⟩ := builtin_yields (P := P) (ty := o.type) (cs := args.map fun | .const _ => true | _ => false) hh rargs (hok rfl)
    have hrun : (execOp a.eval o).run P w = .ok (.value v) w := by
      unfold execOp
      rw [ho]
      simp only [resolve, Sem.run_bind, Sem.run_pure, Result.andThen_ok, invoke]
      have e1 : args.map a.eval = (args.toList.map a.eval).toArray := by rw [← Array.toList_map, Array.toArray_toList]
      rw [e1]
      rwa [Array.toArray_toList] at h1
    unfold Oper.wp
    rw [hrun]
    exact ⟨v, J, rfl, hh, vrel_wrapG h2, Evo.refl _ _ _⟩
  · rintro rfl
    exact ⟨rfl, vrel_wrapG_false (agd_none hg)⟩
end
end Go.Abs
