/-
  One operation over the abstract state; a region in the text's order, and in whatever order.
  Regions over the abstract state: in the text's order; in whatever order.
  A region's operations, one after the other, over the abstract state; a piece of code over the abstract state, as a Prop that a simp unfolds.
  A region in the text's order; a region in whatever order.
  A region whose order is open: the text's order, over the abstract state, serves every order.
  Any order; then a piece of code as a Prop.
  What a call hands back, variables of results that lie in memory among them.
-/
import Derived.Test.YtonpmbppmmaheaaAbsHop
set_option linter.unusedVariables false
set_option linter.unusedSimpArgs false

section 

namespace Go.Abs
open Go

section
variable {P : Program} {gl : Globs} {J : List Blk} {h : AHeap} {w : World} {fr : AFrame} {N : Nat} {ops : Array Oper}

/-- An operation's guard in the abstract frame. -/
def agd (ops : Array Oper) (fr : AFrame) (o : Oper) : Option Bool := match o.guard with
  | none => some true
  | some (j, want) => match (ops[j]?).bind (·.dst) with
    | some d => match fr d with
      | .bool b => some (b == want)
      | .opt g (.bool b) => some (g && (b == want))
      | _ => none
    | none => some false

theorem getD_tmps {a : Act} {d : Nat} {v : Value} (h : a.tmps.getD d undef = v) (hv : v ≠ undef) : a.tmps[d]? = some v := by
  rw [Array.getD_eq_getD_getElem?] at h
  cases hh : a.tmps[d]? with
  | none => rw [hh] at h; exact absurd h.symm hv
  | some u => rw [hh] at h; simp at h; rw [h]

/-- The temporaries that a guard asks. -/
def gtmp (ops : Array Oper) (o : Oper) : List Tmp := match o.guard with
  | none => []
  | some (j, _) => match (ops[j]?).bind (·.dst) with
    | some d => [d]
    | none => []
/-- The temporaries that an operation looks at. -/
def looks (ops : Array Oper) (o : Oper) : List Tmp := (o.op.operands.toList.filterMap fun x => match x with | .tmp t => some t | _ => none) ++ gtmp ops o

theorem agd_sound {O : Nat → Prop} {o : Oper} {G : Bool} {a : Act} (hr : ∀ t ∈ gtmp ops o, VRel J O w (fr t) (a.tmps.getD t undef)) (hg : agd ops fr o = some G) : Region.wanted o (yielded ops a.tmps) = G := by
  unfold agd at hg
  unfold Region.wanted
  split at hg
  · rename_i hgd
    injection hg with hg
    simp [hgd, hg]
  · rename_i j want hgd
    simp only [hgd]
    unfold yielded
    split at hg
    · rename_i d hd
      have hr' := hr d (by simp [gtmp, hgd, hd])
      rw [hd]
      simp only [Option.bind_some]
      split at hg
      · rename_i b hb
        rw [hb] at hr'
        generalize hv : a.tmps.getD d undef = v at hr'
        cases hr'
        rw [getD_tmps hv (by simp [undef])]
        simpa using hg
      · rename_i g b hb
        rw [hb] at hr'
        generalize hv : a.tmps.getD d undef = v at hr'
        cases hr' with
        | opt _ _ _ h1 h0 =>
          cases g with
          | true =>
            have h1' := h1 rfl
            cases h1'
            rw [getD_tmps hv (by simp [undef])]
            simpa using hg
          | false =>
            have h0' := h0 rfl
            simp at hg
            subst hg
            rw [Array.getD_eq_getD_getElem?] at hv
            cases hh : a.tmps[d]? with
            | none => simp
            | some u =>
              rw [hh] at hv
              simp at hv
              subst hv
              rw [h0']
              simp [undef]
      · cases hg
    · rename_i hd
      rw [hd]
      injection hg

theorem mem_looks_op {o : Oper} {t : Tmp} (h : Operand.tmp t ∈ o.op.operands) : t ∈ looks ops o :=
  List.mem_append.2 (.inl (List.mem_filterMap.2 ⟨.tmp t, by simpa using h, rfl⟩))
theorem mem_looks_g {o : Oper} {t : Tmp} (h : t ∈ gtmp ops o) : t ∈ looks ops o := List.mem_append.2 (.inr h)

/-- WHAT ONE OPERATION DOES: whoever carries it out, in whatever state that shows the abstract one as far as it looks, gets a value and a world that show the outcome. -/
def StepOK (P : Program) (gl : Globs) (N : Nat) (ops : Array Oper) (o : Oper) (fr : AFrame) (h : AHeap) (x : AV) (h' : AHeap) : Prop :=
  ∀ (J : List Blk) (a : Act) (w : World) (Q : Exit → Act → World → Prop), HRel gl h J w → (∀ t ∈ looks ops o, VRel J (Own h J) w (fr t) (a.tmps.getD t undef)) →
    (Region.wanted o (yielded ops a.tmps) = true → o.wp P a w (fun a' w' => ∃ v J', a' = a.put o.dst v ∧ HRel gl h' J' w' ∧ VRel J' (Own h' J') w' x v ∧ Evo h J w h' J' w') Q) ∧
    (Region.wanted o (yielded ops a.tmps) = false → h' = h ∧ VRel J (Own h J) w x undef)

/-- The value of an operation that has a guard. -/
def wrapG : Option (Nat × Bool) → Bool → AV → AV
  | none, _, x => x
  | some _, g, x => .opt g x

theorem vrel_wrapG {O : Nat → Prop} {g : Option (Nat × Bool)} {x : AV} {v : Value} (h : VRel J O w x v) : VRel J O w (wrapG g true x) v := by
  cases g with
  | none => exact h
  | some p => exact .opt true x v (fun _ => h) (by simp)
theorem vrel_wrapG_false {O : Nat → Prop} {g : Option (Nat × Bool)} {x : AV} (hg : g ≠ none) : VRel J O w (wrapG g false x) undef := by
  cases g with
  | none => exact absurd rfl hg
  | some p => exact .opt false x undef (by simp) (fun _ => rfl)

theorem agd_none {o : Oper} (h : agd ops fr o = some false) : o.guard ≠ none := by
  intro hg
  simp [agd, hg] at h

theorem ev_at {O : Nat → Prop} (hh : HRel gl h J w) {o : Oper} {a : Act} (hr : ∀ t ∈ looks ops o, VRel J (Own h J) w (fr t) (a.tmps.getD t undef)) : ∀ x ∈ o.op.operands, VRel J (Own h J) w (ev gl fr x) (a.eval x) :=
  fun x hx => ev_sound hh fun t ht => hr t (mem_looks_op (by rw [← ht]; exact hx))

theorem StepOK.value {o : Oper} {G : Bool} (hg : agd ops fr o = some G) (hok : G = true → vok P gl fr h o.op) : StepOK P gl N ops o fr h (wrapG o.guard G (vval P gl fr h o.op)) h := by
  intro J a w Q hh hr
  have hw := agd_sound (fun t ht => hr t (mem_looks_g ht)) hg
  rw [hw]
  refine ⟨?_, ?_⟩
  · rintro rfl
    obtain ⟨v, h1, h2⟩ := vop_sound (P := P) hh (ev_at (O := Own h J) hh hr) (hok rfl)
    unfold Oper.wp
    rw [h1]
    exact ⟨v, J, rfl, hh, vrel_wrapG h2, Evo.refl _ _ _⟩
  · rintro rfl
    exact ⟨rfl, vrel_wrapG_false (agd_none hg)⟩

/-- An operation that hands back a value and turns the heap. -/
theorem StepOK.steps1 {o : Oper} {x : AV} {h' : AHeap} (hg : agd ops fr o = some true)
    (hs : ∀ (J : List Blk) (a : Act) (w : World), HRel gl h J w → (∀ y ∈ o.op.operands, VRel J (Own h J) w (ev gl fr y) (a.eval y)) → ∃ s : Sem Value, (execOp a.eval o).run P w = (s.run P w).andThen (fun v w' => .ok (.value v) w') ∧ Steps1 P gl h J w s (fun x' h'' => x' = x ∧ h'' = h')) :
    StepOK P gl N ops o fr h x h' := by
  intro J a w Q hh hr
  have hw := agd_sound (fun t ht => hr t (mem_looks_g ht)) hg
  rw [hw]
  refine ⟨fun _ => ?_, by simp⟩
  obtain ⟨s, e, v, w', J', x', h'', h1, h2, h3, h4, h5, h6⟩ := hs J a w hh (ev_at (O := Own h J) hh hr)
  subst h5; subst h6
  unfold Oper.wp
  rw [e, h1]
  exact ⟨v, J', rfl, h2, h3, h4⟩

theorem StepOK.steps0 {o : Oper} {h' : AHeap} (hg : agd ops fr o = some true)
    (hs : ∀ (J : List Blk) (a : Act) (w : World), HRel gl h J w → (∀ y ∈ o.op.operands, VRel J (Own h J) w (ev gl fr y) (a.eval y)) → ∃ s : Sem Unit, (execOp a.eval o).run P w = (s.run P w).andThen (fun _ w' => .ok .skip w') ∧ Steps0 P gl h J w s (fun h'' => h'' = h')) :
    StepOK P gl N ops o fr h .junk h' := by
  intro J a w Q hh hr
  have hw := agd_sound (fun t ht => hr t (mem_looks_g ht)) hg
  rw [hw]
  refine ⟨fun _ => ?_, by simp⟩
  obtain ⟨s, e, w', J', h'', h1, h2, h3, h4⟩ := hs J a w hh (ev_at (O := Own h J) hh hr)
  subst h4
  unfold Oper.wp
  rw [e, h1]
  exact ⟨undef, J', rfl, h2, .junk _, h3⟩

/-- An operation that does not run. -/
theorem StepOK.idle {o : Oper} (hg : agd ops fr o = some false) : StepOK P gl N ops o fr h .junk h := by
  intro J a w Q hh hr
  have hw := agd_sound (fun t ht => hr t (mem_looks_g ht)) hg
  rw [hw]
  exact ⟨by simp, fun _ => ⟨rfl, .junk _⟩⟩

/-- A call of a Go function that leaves the abstract heap alone. -/
theorem StepOK.call {o : Oper} {G : Bool} {x : AV} {f : Operand} {args : Array Operand} {ats : Array TypeId} {fn : FuncId} {first caps : List AV} (ho : o.op = .call { callee := .value f, args, argTypes := ats }) (hg : agd ops fr o = some G)
    (hf : G = true → (ev gl fr f).gd = true ∧ (ev gl fr f).core = .fn (.func fn) first caps) (ha : G = true → ∀ y ∈ args.toList, (ev gl fr y).gd = true)
    (hc : G = true → ACalls P gl fn (first ++ args.toList.map (fun y => (ev gl fr y).core) ++ caps) h (fun x' h' => x' = x ∧ h' = h)) :
    StepOK P gl N ops o fr h (wrapG o.guard G x) h := by
  intro J a w Q hh hr
  have hw := agd_sound (fun t ht => hr t (mem_looks_g ht)) hg
  rw [hw]
  refine ⟨?_, ?_⟩
  · rintro rfl
    have hev := ev_at (O := Own h J) hh hr
    obtain ⟨hf1, hf2⟩ := hf rfl
    have hop : o.op.operands = #[f] ++ args := by rw [ho]; rfl
    have rf := (hev f (by rw [hop]; simp)).core hf1
    rw [hf2] at rf
    have rargs := vrels_map (a := a) (J := J) (O := Own h J) (w := w) (gl := gl) (fr := fr) args.toList (fun y hy => hev y (by rw [hop]; simpa using Or.inr hy)) (ha rfl)
    obtain ⟨⟨fd, hfd, hbody, hname⟩, hcalls⟩ := hc rfl
    generalize hfv : a.eval f = vf at rf
    cases rf with
    | fn _ _ _ vfs vcs l1 l2 r1 r2 =>
      have hvs : VRels J (Own h J) w (first ++ args.toList.map (fun y => (ev gl fr y).core) ++ caps) (vfs ++ args.toList.map a.eval ++ vcs) := VRels.append (VRels.append ⟨l1, r1⟩ rargs) ⟨l2, r2⟩
      have hrun : (execOp a.eval o).run P w = .ok (.enter fn (vfs ++ args.toList.map a.eval ++ vcs).toArray) w := by
        unfold execOp
        rw [ho]
        simp only [resolve, hfv, Deferred.ofValue, Sem.run_bind, Sem.run_pure, Result.andThen_ok, invoke, callFunc, run_program, hfd, hname, Bool.false_eq_true, if_false]
        have hb2 : fd.body.isNone = false := by cases hbb : fd.body with | none => simp [hbb] at hbody | some c => rfl
        simp only [hb2, Bool.false_eq_true, if_false, Sem.run_pure]
        congr 2
        apply Array.ext'
        simp
      unfold Oper.wp
      rw [hrun]
      simp only [Oper.upon]
      refine Calls.mono' (hcalls J w _ hh hvs) ?_
      rintro e w' ⟨x', v, J', h', rfl, q1, q2, q3, rfl, rfl⟩
      exact ⟨v, J', rfl, q1, vrel_wrapG q2, q3⟩
  · rintro rfl
    exact ⟨rfl, vrel_wrapG_false (agd_none hg)⟩
end
end Go.Abs
end

section 

namespace Go.Abs
open Go

/-- Does the operation turn the heap? -/
def isEff : Op → Bool
  | .box .. | .alloc .. | .store .. | .buildSlice .. | .makeSlice .. | .makeMap .. | .mapUpdate .. | .insert .. | .range .. | .next .. | .mapEntry .. | .entryStore .. | .entry .. => true
  | _ => false
def isEffB : Builtin → Bool
  | .append => true
  | _ => false

section
variable {P : Program} {gl : Globs} {J : List Blk} {h : AHeap} {w : World} {fr : AFrame} {N : Nat} {ops : Array Oper}

def ptrOf : AV → Option (Nat × Nat × Nat)
  | .ptr b i c => some (b, i, c)
  | _ => none
def storeP (P : Program) (h : AHeap) (t : TypeId) (a x : AV) (c : AV → AHeap → Prop) : Prop := match a with
  | .ptr b i o => x.solid = true ∧ (tinfo P t).ok = true ∧ (acells x).length = (tinfo P t).cells ∧ i < (hcells h b).length ∧ o + (tinfo P t).cells ≤ ((hcells h b).getD i []).length ∧ c .junk (hput h b i o (acells x))
  | _ => False
def updateP (P : Program) (h : AHeap) (t : TypeId) (m k x : AV) (c : AV → AHeap → Prop) : Prop := match (tinfo P t).kind, m with
  | .map kt _, .map b => isMap h b = true ∧ keysOk P kt k (hmap h b) ∧ c .junk (h.set b (.map (aset (hmap h b) k x)))
  | _, _ => False
def entryP (P : Program) (h : AHeap) (t : TypeId) (m k : AV) (c : AV → AHeap → Prop) : Prop := match (tinfo P t).kind, m with
  | .map kt et, .map b => isMap h b = true ∧ zeroOk (tinfo P et) ∧ keysOk P kt k (hmap h b) ∧ c (.tup [(alook (hmap h b) k).getD (azero (tinfo P et)), .int .i64 (aplace (hmap h b) k)]) (h.set b (.map (aput (hmap h b) k (azero (tinfo P et)))))
  | _, _ => False
def entryStoreP (h : AHeap) (m s x : AV) (c : AV → AHeap → Prop) : Prop := match m, s with
  | .map b, .int .i64 n => isMap h b = true ∧ 0 ≤ n ∧ n < (hmap h b).length ∧ c .junk (h.set b (.map (aentry (hmap h b) n.toNat x)))
  | _, _ => False
def makeMapP (h : AHeap) (k : TK) (c : AV → AHeap → Prop) : Prop := match k with
  | .map _ _ => c (.map h.length) (h ++ [.map []])
  | _ => False

def rangeP (k : TK) (x : AV) (h : AHeap) (c : AV → AHeap → Prop) : Prop := match k, x with
  | .string, .str s => c (.obj h.length) (h ++ [strAt s 0])
  | .map _ _, .map b => isMap h b = true ∧ c (.obj h.length) (h ++ [.iter b (hmap h b).length []])
  | _, _ => False
def nextP (h : AHeap) (x : AV) (isS : Bool) (c : AV → AHeap → Prop) : Prop := match isS, x with
  | true, .obj b => ∃ s pos, h[b]? = some (strAt s pos) ∧ (pos < s.length → c (.tup [.bool true, .int .i64 pos, .int .i32 (runeAt s pos).1]) (h.set b (strAt s (pos + (runeAt s pos).2)))) ∧ (¬ pos < s.length → c (.tup [.bool false]) h)
  | _, _ => False

/-- What an iterator stands at. -/
def getP (h : AHeap) (x : AV) (c : AV → AHeap → Prop) : Prop := match x with
  | .obj it => ∃ m seen i kvs p, h[it]? = some (.iter m kvs.length (seen ++ [i])) ∧ h[m]? = some (.map kvs) ∧ kvs[i]? = some p ∧ c (.tup [p.1, p.2]) h
  | _ => False
/-- The next entry of a map, whichever it is, and what follows. -/
def mapNextP (h : AHeap) (x : AV) (c : AV → AHeap → Prop) : Prop := match x with
  | .obj it => ∃ m seen kvs, h[it]? = some (.iter m kvs.length seen) ∧ h[m]? = some (.map kvs) ∧
    (∀ i p, kvs[i]? = some p → i ∉ seen → c (.tup [.bool true, p.1, p.2]) (h.set it (.iter m kvs.length (seen ++ [i])))) ∧ ((∀ i, i < kvs.length → i ∈ seen) → c (.tup [.bool false]) h)
  | _ => False
def mapOpB : Op → Bool
  | .next _ false => true
  | _ => false

/-- An operation that turns the heap, and what follows. -/
def effP (P : Program) (gl : Globs) (fr : AFrame) (h : AHeap) (c : AV → AHeap → Prop) : Op → Prop
  | .box _ x => (ev gl fr x).gd = true ∧ (ev gl fr x).core.solid = true ∧ 0 < (acells (ev gl fr x).core).length ∧ c (.ptr h.length 0 0) (h ++ [.cells (acells (ev gl fr x).core).length [acells (ev gl fr x).core]])
  | .alloc t => (tinfo P t).ok = true ∧ (tinfo P t).zok = true ∧ 0 < (tinfo P t).zero.length ∧ c (.ptr h.length 0 0) (h ++ [.cells (tinfo P t).zero.length [(tinfo P t).zero]])
  | .store t a x => (ev gl fr a).gd = true ∧ (ev gl fr x).gd = true ∧ storeP P h t (ev gl fr a).core (ev gl fr x).core c
  | .buildSlice t len parts => (∀ p ∈ parts.toList, (ev gl fr p.2).gd = true) ∧ buildSliceOk P t len (parts.toList.map fun p => (p.1, (ev gl fr p.2).core)) ∧
    c (.own h.length 0 len) (h ++ [.cells (elemCells P t) ((parts.toList.map fun p => (p.1, (ev gl fr p.2).core)).map fun p => acells p.2)])
  | .makeSlice t l k => (ev gl fr l).gd = true ∧ (ev gl fr k).gd = true ∧ makeSliceOk P t (ev gl fr l).core (ev gl fr k).core ∧
    c (.own h.length 0 (aint (ev gl fr l).core).toNat) (h ++ [.cells (elemCells P t) (List.replicate (aint (ev gl fr l).core).toNat (elemZero P t))])
  | .makeMap t r => isIntO (r.map (ev gl fr)) ∧ makeMapP h (tinfo P t).kind c
  | .mapUpdate t m k x => (ev gl fr m).gd = true ∧ (ev gl fr k).gd = true ∧ (ev gl fr x).gd = true ∧ updateP P h t (ev gl fr m).core (ev gl fr k).core (ev gl fr x).core c
  | .insert t m k x => (ev gl fr m).gd = true ∧ (ev gl fr k).gd = true ∧ (ev gl fr x).gd = true ∧ updateP P h t (ev gl fr m).core (ev gl fr k).core (ev gl fr x).core c
  | .mapEntry t m k => (ev gl fr m).gd = true ∧ (ev gl fr k).gd = true ∧ entryP P h t (ev gl fr m).core (ev gl fr k).core c
  | .entryStore _ m s x => (ev gl fr m).gd = true ∧ (ev gl fr s).gd = true ∧ (ev gl fr x).gd = true ∧ entryStoreP h (ev gl fr m).core (ev gl fr s).core (ev gl fr x).core c
  | .range t x => (ev gl fr x).gd = true ∧ rangeP (tinfo P t).kind (ev gl fr x).core h c
  | .next it isS => (ev gl fr it).gd = true ∧ nextP h (ev gl fr it).core isS c
  | .entry it => (ev gl fr it).gd = true ∧ getP h (ev gl fr it).core c
  | _ => False

def effBP (P : Program) (h : AHeap) (ts : List TypeId) (c : AV → AHeap → Prop) (b : Builtin) (xs : List AV) : Prop := match b, xs with
  | .append, [s, x] => appendOk P h ts s x ∧ appendK (elemCells P (ts.headD 0)) h s x c
  | _, _ => False

/-- It has one outcome. -/
theorem appendK_det {n : Nat} {s x : AV} {c : AV → AHeap → Prop} (hk : appendK n h s x c) : ∃ y h', c y h' ∧ appendK n h s x (fun y' h'' => y' = y ∧ h'' = h') := by
  unfold appendK at hk ⊢
  split at hk
  · by_cases he : aelems h x = []
    · exact ⟨_, _, hk.1 he, fun _ => ⟨rfl, rfl⟩, fun h => absurd he h⟩
    · exact ⟨_, _, hk.2 he, fun h => absurd h he, fun _ => ⟨rfl, rfl⟩⟩
  · by_cases he : aelems h x = []
    · exact ⟨_, _, hk.1 he, fun _ => ⟨rfl, rfl⟩, fun h => absurd he h⟩
    · exact ⟨_, _, hk.2 he, fun h => absurd h he, fun _ => ⟨rfl, rfl⟩⟩
  · exact ⟨_, _, hk, rfl, rfl⟩
  · exact hk.elim

set_option maxHeartbeats 1000000 in
theorem StepOK.eff {o : Oper} (hg : agd ops fr o = some true) {c : AV → AHeap → Prop} (he : effP P gl fr h c o.op) : ∃ x h', c x h' ∧ StepOK P gl N ops o fr h x h' := by
  cases hop : o.op <;> simp only [hop, effP] at he
  case box t x =>
    obtain ⟨h1, h2, h3, h4⟩ := he
    refine ⟨_, _, h4, StepOK.steps1 hg fun J a w hh hr => ⟨_, by unfold execOp; rw [hop]; simp only [Sem.run_bind, Sem.run_pure]; rfl, ?_⟩⟩
    exact box_steps hh ((hr x (by rw [hop]; simp [Op.operands])).core h1) h2 h3 ⟨rfl, rfl⟩
  case alloc t =>
    obtain ⟨h1, h2, h3, h4⟩ := he
    refine ⟨_, _, h4, StepOK.steps1 hg fun J a w hh hr => ⟨_, by unfold execOp; rw [hop]; simp only [Sem.run_bind, Sem.run_pure]; rfl, ?_⟩⟩
    exact alloc_steps hh h1 h2 h3 ⟨rfl, rfl⟩
  case store t p x =>
    obtain ⟨h1, h2, h3⟩ := he
    unfold storeP at h3
    split at h3
    · rename_i b i o' hp
      obtain ⟨q1, q2, q3, q4, q5, q6⟩ := h3
      refine ⟨_, _, q6, StepOK.steps0 hg fun J a w hh hr => ⟨_, by unfold execOp; rw [hop]; simp only [Sem.run_bind, Sem.run_pure]; rfl, ?_⟩⟩
      have rp := (hr p (by rw [hop]; simp [Op.operands])).core h1
      rw [hp] at rp
      exact store_steps hh q2 rp ((hr x (by rw [hop]; simp [Op.operands])).core h2) q1 q3 q4 q5 rfl
    · exact h3.elim
  case buildSlice t len parts =>
    obtain ⟨h1, h2, h3⟩ := he
    refine ⟨.own h.length 0 len, h ++ [.cells (elemCells P t) ((parts.toList.map fun p => (p.1, (ev gl fr p.2).core)).map fun p => acells p.2)], h3, ?_⟩
    refine StepOK.steps1 hg ?_
    intro J a w hh hr
    refine ⟨Instr.buildSlice t len (parts.map fun (i, x) => (i, a.eval x)), by unfold execOp; rw [hop]; simp only [Sem.run_bind, Sem.run_pure], ?_⟩
    have hm : ∀ p ∈ parts.toList, VRel J (Own h J) w (ev gl fr p.2) (a.eval p.2) := fun p hp => hr p.2 (by
      rw [hop]
      simp only [Op.operands, List.mem_toArray]
      exact List.mem_map.2 ⟨p, hp, rfl⟩)
    have := prels_map (a := a) (J := J) (O := Own h J) (w := w) parts.toList hm h1
    refine buildSlice_steps (ps := parts.toList.map fun p => (p.1, (ev gl fr p.2).core)) (qs := parts.map fun (i, x) => (i, a.eval x)) hh ?_ h2 ?_
    · simpa using this
    · exact ⟨rfl, rfl⟩
  case makeSlice t l k =>
    obtain ⟨h1, h2, h3, h4⟩ := he
    refine ⟨.own h.length 0 (aint (ev gl fr l).core).toNat, h ++ [.cells (elemCells P t) (List.replicate (aint (ev gl fr l).core).toNat (elemZero P t))], h4, ?_⟩
    refine StepOK.steps1 hg ?_
    intro J a w hh hr
    refine ⟨Instr.makeSlice t (a.eval l) (a.eval k), by unfold execOp; rw [hop]; simp only [Sem.run_bind, Sem.run_pure], ?_⟩
    exact makeSlice_steps hh ((hr l (by rw [hop]; simp [Op.operands])).core h1) ((hr k (by rw [hop]; simp [Op.operands])).core h2) h3 ⟨rfl, rfl⟩
  case makeMap t r =>
    obtain ⟨h1, h2⟩ := he
    unfold makeMapP at h2
    split at h2
    · rename_i kt et hk
      refine ⟨_, _, h2, StepOK.steps1 hg fun J a w hh hr => ⟨_, by unfold execOp; rw [hop]; simp only [Sem.run_bind, Sem.run_pure]; rfl, ?_⟩⟩
      refine makeMap_steps hh hk ?_ ⟨rfl, rfl⟩
      intro v hv
      cases r with
      | none => simp at hv
      | some y =>
        simp only [Option.map_some, Option.mem_def, Option.some.injEq] at hv
        subst hv
        simp only [Option.map_some, isIntO] at h1
        obtain ⟨k, hk⟩ := int_of ((hr y (by rw [hop]; simp [Op.operands])).core h1.1) h1.2
        exact ⟨k, _, hk⟩
    · exact h2.elim
  case mapUpdate t m k x =>
    obtain ⟨h1, h2, h3, h4⟩ := he
    unfold updateP at h4
    split at h4
    · rename_i kt et b hk hm
      obtain ⟨q1, q2, q3⟩ := h4
      refine ⟨_, _, q3, StepOK.steps0 hg fun J a w hh hr => ⟨_, by unfold execOp; rw [hop]; simp only [Sem.run_bind, Sem.run_pure]; rfl, ?_⟩⟩
      have rm := (hr m (by rw [hop]; simp [Op.operands])).core h1
      rw [hm] at rm
      exact mapUpdate_steps hh hk rm ((hr k (by rw [hop]; simp [Op.operands])).core h2) ((hr x (by rw [hop]; simp [Op.operands])).core h3) q1 q2 rfl
    · exact h4.elim
  case insert t m k x =>
    obtain ⟨h1, h2, h3, h4⟩ := he
    unfold updateP at h4
    split at h4
    · rename_i kt et b hk hm
      obtain ⟨q1, q2, q3⟩ := h4
      refine ⟨_, _, q3, StepOK.steps0 hg fun J a w hh hr => ⟨_, by unfold execOp; rw [hop]; simp only [Sem.run_bind, Sem.run_pure]; rfl, ?_⟩⟩
      have rm := (hr m (by rw [hop]; simp [Op.operands])).core h1
      rw [hm] at rm
      exact mapUpdate_steps hh hk rm ((hr k (by rw [hop]; simp [Op.operands])).core h2) ((hr x (by rw [hop]; simp [Op.operands])).core h3) q1 q2 rfl
    · exact h4.elim
  case mapEntry t m k =>
    obtain ⟨h1, h2, h4⟩ := he
    unfold entryP at h4
    split at h4
    · rename_i kt et b hk hm
      obtain ⟨q1, q0, q2, q3⟩ := h4
      refine ⟨_, _, q3, StepOK.steps1 hg fun J a w hh hr => ⟨_, by unfold execOp; rw [hop]; simp only [Sem.run_bind, Sem.run_pure]; rfl, ?_⟩⟩
      have rm := (hr m (by rw [hop]; simp [Op.operands])).core h1
      rw [hm] at rm
      exact mapEntry_steps hh hk q0 rm ((hr k (by rw [hop]; simp [Op.operands])).core h2) q1 q2 ⟨rfl, rfl⟩
    · exact h4.elim
  case entryStore t m s x =>
    obtain ⟨h1, h2, h3, h4⟩ := he
    unfold entryStoreP at h4
    split at h4
    · rename_i b n hm hs
      obtain ⟨q1, q2, q3, q4⟩ := h4
      refine ⟨_, _, q4, StepOK.steps0 hg fun J a w hh hr => ⟨_, by unfold execOp; rw [hop]; simp only [Sem.run_bind, Sem.run_pure]; rfl, ?_⟩⟩
      have rm := (hr m (by rw [hop]; simp [Op.operands])).core h1
      have rs := (hr s (by rw [hop]; simp [Op.operands])).core h2
      rw [hm] at rm
      rw [hs] at rs
      obtain ⟨i, rfl⟩ := Int.eq_ofNat_of_zero_le q2
      generalize a.eval s = vs at rs
      cases rs
      exact entryStore_steps hh rm ((hr x (by rw [hop]; simp [Op.operands])).core h3) q1 (by omega) rfl
    · exact h4.elim
  case range t x =>
    obtain ⟨h1, h2⟩ := he
    unfold rangeP at h2
    split at h2
    · rename_i s hk hx
      refine ⟨_, _, h2, StepOK.steps1 hg fun J a w hh hr => ⟨_, by unfold execOp; rw [hop]; simp only [Sem.run_bind, Sem.run_pure]; rfl, ?_⟩⟩
      have rx := (hr x (by rw [hop]; simp [Op.operands])).core h1
      rw [hx] at rx
      exact range_steps hh hk rx ⟨rfl, rfl⟩
    · rename_i kt et b hk hx
      obtain ⟨hm, h3⟩ := h2
      unfold isMap at hm
      split at hm
      · rename_i kvs hb
        simp only [hmap, hb] at h3
        refine ⟨_, _, h3, StepOK.steps1 hg fun J a w hh hr => ⟨_, by unfold execOp; rw [hop]; simp only [Sem.run_bind, Sem.run_pure]; rfl, ?_⟩⟩
        have rx := (hr x (by rw [hop]; simp [Op.operands])).core h1
        rw [hx] at rx
        exact range_map_steps hh hk hb rx ⟨rfl, rfl⟩
      · cases hm
    · exact h2.elim
  case entry it =>
    obtain ⟨h1, h2⟩ := he
    unfold getP at h2
    split at h2
    · rename_i b hx
      obtain ⟨m, seen, i, kvs, p, p1, p2, p3, p4⟩ := h2
      refine ⟨_, _, p4, StepOK.steps1 hg fun J a w hh hr => ⟨_, by unfold execOp; rw [hop]; simp only [Sem.run_bind, Sem.run_pure]; rfl, ?_⟩⟩
      have rx := (hr it (by rw [hop]; simp [Op.operands])).core h1
      rw [hx] at rx
      exact entry_steps hh p1 p2 p3 rx ⟨rfl, rfl⟩
    · exact h2.elim
  case next it isS =>
    obtain ⟨h1, h2⟩ := he
    unfold nextP at h2
    split at h2
    · rename_i b hx
      obtain ⟨s, pos, hb, h3, h4⟩ := h2
      by_cases hp : pos < s.length
      · refine ⟨_, _, h3 hp, StepOK.steps1 hg fun J a w hh hr => ⟨_, by unfold execOp; rw [hop]; simp only [Sem.run_bind, Sem.run_pure]; rfl, ?_⟩⟩
        have rx := (hr it (by rw [hop]; simp [Op.operands])).core h1
        rw [hx] at rx
        exact next_steps hh hb rx (fun _ => ⟨rfl, rfl⟩) (fun hn => absurd hp hn)
      · refine ⟨_, _, h4 hp, StepOK.steps1 hg fun J a w hh hr => ⟨_, by unfold execOp; rw [hop]; simp only [Sem.run_bind, Sem.run_pure]; rfl, ?_⟩⟩
        have rx := (hr it (by rw [hop]; simp [Op.operands])).core h1
        rw [hx] at rx
        exact next_steps hh hb rx (fun hn => absurd hn hp) (fun _ => ⟨rfl, rfl⟩)
    · exact h2.elim

theorem StepOK.effB {o : Oper} {b : Builtin} {args : Array Operand} {ats : Array TypeId} (ho : o.op = .call { callee := .builtin b, args, argTypes := ats }) (hg : agd ops fr o = some true) (hgd : ∀ y ∈ args.toList, (ev gl fr y).gd = true)
    {c : AV → AHeap → Prop} (he : effBP P h ats.toList c b (args.toList.map fun y => (ev gl fr y).core)) : ∃ x h', c x h' ∧ StepOK P gl N ops o fr h x h' := by
  unfold effBP at he
  split at he
  · rename_i s x hxs
    obtain ⟨hok, hk⟩ := he
    obtain ⟨y, h', hc, hk'⟩ := appendK_det hk
    refine ⟨y, h', hc, ?_⟩
    match hargs : args.toList, hxs with
    | [s0, x0], hxs =>
      simp only [List.map_cons, List.map_nil, List.cons.injEq, and_true] at hxs
      obtain ⟨e1, e2⟩ := hxs
      have hargs' : args = #[s0, x0] := by rw [← Array.toArray_toList (xs := args), hargs]
      refine StepOK.steps1 hg fun J a w hh hr => ⟨Builtin.append_ ats o.type #[a.eval s0, a.eval x0], by unfold execOp; rw [ho]; subst hargs'; simp only [resolve, invoke, builtin, Sem.run_bind, Sem.run_pure, Result.andThen_ok, List.map_toArray, List.map_cons, List.map_nil], ?_⟩
      have hop : o.op.operands = args := by rw [ho]; simp [Op.operands, Call.operands]
      have r1 := (hr s0 (by rw [hop, hargs']; simp)).core (hgd s0 (by rw [hargs]; simp))
      have r2 := (hr x0 (by rw [hop, hargs']; simp)).core (hgd x0 (by rw [hargs]; simp))
      rw [e1] at r1
      rw [e2] at r2
      have := append_steps (P := P) (ty := o.type) hh r1 r2 hok hk'
      rwa [Array.toArray_toList] at this
  · exact he.elim

theorem StepOK.valB {o : Oper} {b : Builtin} {args : Array Operand} {ats : Array TypeId} {G : Bool} (ho : o.op = .call { callee := .builtin b, args, argTypes := ats }) (hg : agd ops fr o = some G) (hgd : G = true → ∀ y ∈ args.toList, (ev gl fr y).gd = true)
    (hok : G = true → builtinOk P h b ats.toList (args.toList.map fun y => (ev gl fr y).core)) : StepOK P gl N ops o fr h (wrapG o.guard G (builtinV h b (args.toList.map fun y => (ev gl fr y).core))) h := by
  intro J a w Q hh hr
  have hw := agd_sound (fun t ht => hr t (mem_looks_g ht)) hg
  rw [hw]
  refine ⟨?_, ?_⟩
  · rintro rfl
    have hev := ev_at (O := Own h J) hh hr
    have hop : o.op.operands = args := by rw [ho]; simp [Op.operands, Call.operands]
    have rargs := vrels_map (a := a) (J := J) (O := Own h J) (w := w) (gl := gl) (fr := fr) args.toList (fun y hy => hev y (by rw [hop]; simpa using hy)) (hgd rfl)
    obtain ⟨v, h1, h2⟩ := builtin_yields (P := P) (ty := o.type) (cs := args.map fun | .const _ => true | _ => false) hh rargs (hok rfl)
    have hrun : (execOp a.eval o).run P w = .ok (.value v) w := by
      unfold execOp
      rw [ho]
      simp only [resolve, Sem.run_bind, Sem.run_pure, Result.andThen_ok, invoke]
      have e1 : args.map a.eval = (args.toList.map a.eval).toArray := by rw [← Array.toList_map, Array.toArray_toList]
      rw [e1]
      rwa [Array.toArray_toList] at h1
    unfold Oper.wp
    rw [hrun]
    exact ⟨v, J, rfl, hh, vrel_wrapG h2, Evo.refl _ _ _⟩
  · rintro rfl
    exact ⟨rfl, vrel_wrapG_false (agd_none hg)⟩
end
end Go.Abs
end

section 

namespace Go.Abs
open Go

def acallV (P : Program) (gl : Globs) (f : AV) (args : List AV) (h : AHeap) (R : AV → AHeap → Prop) : Prop := match f with
  | .fn (.func fn) first caps => ACalls P gl fn (first ++ args ++ caps) h R
  | _ => False

/-- A call and what follows: quietly, or (where 'q' is false) in whatever way. -/
def callS (P : Program) (gl : Globs) (q : Bool) (g : Option (Nat × Bool)) (G : Bool) (f : AV) (args : List AV) (h : AHeap) (c : AV → AHeap → Prop) : Prop :=
  (∃ r, (G = true → acallV P gl f args h (fun x h' => x = r ∧ h' = h)) ∧ c (wrapG g G r) h) ∨
  (q = false ∧ (G = true → acallV P gl f args h c) ∧ (G = false → c .junk h))

def nilQ (k : TK) (x y : AV) (c : Bool → Prop) : Prop := match k, x, y with
  | .slice _, .ro es, .nil => ∀ b : Bool, (es ≠ [] → b = false) → c b
  | _, _, _ => False

theorem nilQ_sound {P : Program} {J : List Blk} {O : Nat → Prop} {w : World} {t : TypeId} {X Y : Operand} {x y : AV} {u v : Value} (hx : VRel J O w x u) (hy : VRel J O w y v) {c : Bool → Prop} (hok : nilQ (tinfo P t).kind x y c) :
    ∃ b, c b ∧ (do eqGuard .eql t X Y u v; binOp .eql t u v).run P w = .ok (.bool b) w ∧ (do eqGuard .neq t X Y u v; binOp .neq t u v).run P w = .ok (.bool !b) w := by
  unfold nilQ at hok
  split at hok
  · rename_i e es hk
    have hu := (kind_slice hk).1
    cases hy
    simp only [eqGuard_at_slice, Sem.run_bind, Sem.run_pure, Result.andThen_ok]
    cases hx with
    | roNil =>
      have := run_eql_slices (P := P) w t (none, 0, 0) (none, 0, 0) true (fun d => by simp only [Op.equalIn, Sem.run_bind, run_underlying hu, Result.andThen_ok]; rfl)
      exact ⟨true, hok true (by simp), this.1, this.2⟩
    | ro es a n cap f =>
      have := run_eql_slices (P := P) w t (some a, es.length, cap) (none, 0, 0) false (fun d => by simp only [Op.equalIn, Sem.run_bind, run_underlying hu, Result.andThen_ok]; rfl)
      exact ⟨false, hok false (by simp), this.1, this.2⟩
  · exact hok.elim

def dstB (N : Nat) : Option Tmp → Bool
  | none => true
  | some d => d < N

def allGd (gl : Globs) (fr : AFrame) (l : List Operand) : Prop := ∀ y ∈ l, (ev gl fr y).gd = true

def isNilV : Value → Bool
  | .slice none 0 0 => true
  | _ => false
def isNilC : Operand → Bool
  | .const v => isNilV v
  | _ => false
/-- A comparison with nil, as the text writes it. -/
def nilOp : Op → Bool
  | .binOp o _ _ y _ => match o with
    | .eql => isNilC y
    | .neq => isNilC y
    | _ => false
  | _ => false

/-- A slice that is only read, held against nil: an empty one may be either. -/
def nilCmp (P : Program) (gl : Globs) (fr : AFrame) (h : AHeap) (c : AV → AHeap → Prop) : Op → Prop
  | .binOp o t x y _ => match o with
    | .eql => (ev gl fr x).gd = true ∧ (ev gl fr y).gd = true ∧ nilQ (tinfo P t).kind (ev gl fr x).core (ev gl fr y).core fun b => c (.bool b) h
    | .neq => (ev gl fr x).gd = true ∧ (ev gl fr y).gd = true ∧ nilQ (tinfo P t).kind (ev gl fr x).core (ev gl fr y).core fun b => c (.bool !b) h
    | _ => False
  | _ => False

def mapP (gl : Globs) (fr : AFrame) (h : AHeap) (c : AV → AHeap → Prop) : Op → Prop
  | .next it false => (ev gl fr it).gd = true ∧ mapNextP h (ev gl fr it).core c
  | _ => False

/-- One operation and what follows, the guard known. -/
def gstep (P : Program) (gl : Globs) (q : Bool) (fr : AFrame) (h : AHeap) (g : Option (Nat × Bool)) (G : Bool) (c : AV → AHeap → Prop) (op : Op) : Prop := match op with
  | .call k => match k.callee with
    | .value f => (G = true → (ev gl fr f).gd = true ∧ allGd gl fr k.args.toList) ∧ callS P gl q g G (ev gl fr f).core (k.args.toList.map fun y => (ev gl fr y).core) h c
    | .builtin b => match isEffB b with
      | true => (G = true → allGd gl fr k.args.toList ∧ effBP P h k.argTypes.toList c b (k.args.toList.map fun y => (ev gl fr y).core)) ∧ (G = false → c .junk h)
      | false => (G = true → allGd gl fr k.args.toList ∧ builtinOk P h b k.argTypes.toList (k.args.toList.map fun y => (ev gl fr y).core)) ∧ c (wrapG g G (builtinV h b (k.args.toList.map fun y => (ev gl fr y).core))) h
    | .invoke _ _ => False
  | op => match isEff op with
    | true => match mapOpB op && !q with
      | true => ((G = true → effP P gl fr h c op) ∧ (G = false → c .junk h)) ∨ (g = none ∧ G = true ∧ mapP gl fr h c op)
      | false => (G = true → effP P gl fr h c op) ∧ (G = false → c .junk h)
    | false => match nilOp op && !q with
      | true => ((G = true → vok P gl fr h op) ∧ c (wrapG g G (vval P gl fr h op)) h) ∨ (g = none ∧ G = true ∧ nilCmp P gl fr h c op)
      | false => (G = true → vok P gl fr h op) ∧ c (wrapG g G (vval P gl fr h op)) h

/-- What follows an outcome. -/
def acont (k : AFrame → AHeap → Prop) (fr : AFrame) (d : Option Tmp) (x : AV) (h : AHeap) : Prop := k (setd fr d x) h

/-- One operation and what follows. -/
def astep (P : Program) (gl : Globs) (N : Nat) (q : Bool) (ops : Array Oper) (o : Oper) (fr : AFrame) (h : AHeap) (k : AFrame → AHeap → Prop) : Prop := match agd ops fr o with
  | none => False
  | some G => dstB N o.dst = true ∧ gstep P gl q fr h o.guard G (acont k fr o.dst) o.op

def aops (P : Program) (gl : Globs) (N : Nat) (q : Bool) (ops : Array Oper) : List Oper → (AFrame → AHeap → Prop) → AFrame → AHeap → Prop
  | [], K, fr, h => K fr h
  | o :: l, K, fr, h => astep P gl N q ops o fr h (aops P gl N q ops l K)

section
variable {P : Program} {gl : Globs} {J : List Blk} {h : AHeap} {w : World} {fr : AFrame} {N : Nat} {ops : Array Oper}

/-- An operation that makes nothing of the heap and turns nothing. -/
def freeB : Op → Bool
  | .move _ | .assign _ | .pick .. | .build .. | .nilCheck _ | .binOp .. | .unOp .. | .convert .. | .makeInterface .. | .makeFunc .. | .fieldAddr .. | .field .. | .index .. | .extract .. => true
  | _ => false
/-- An operation that may turn the heap. -/
def actB : Op → Bool
  | .call { callee := .builtin b, .. } => isEffB b
  | .call _ => false
  | op => isEff op

/-- What a quiet step gives: the outcome, and how it hangs on the heap. -/
theorem astep_det {o : Oper} {k : AFrame → AHeap → Prop} (hs : astep P gl N true ops o fr h k) :
    ∃ x h', (∀ d, o.dst = some d → d < N) ∧ StepOK P gl N ops o fr h x h' ∧ (freeB o.op = true → ∀ h0, StepOK P gl N ops o fr h0 x h0) ∧ (actB o.op = false → h' = h) ∧ k (setd fr o.dst x) h' := by
  unfold astep at hs
  split at hs
  · exact hs.elim
  · rename_i G hg
    obtain ⟨hd, hs⟩ := hs
    have hd' : ∀ d, o.dst = some d → d < N := by
      intro d he
      rw [he] at hd
      simpa [dstB] using hd
    by_cases hcall : ∃ c, o.op = .call c
    · obtain ⟨c, hop⟩ := hcall
      obtain ⟨callee, args, ats⟩ := c
      rw [hop] at hs
      simp only [gstep] at hs
      cases callee with
      | invoke r m => exact hs.elim
      | value f =>
        simp only at hs
        obtain ⟨hgd, hc⟩ := hs
        rcases hc with ⟨r, h1, h2⟩ | ⟨h0, _⟩
        · refine ⟨_, h, hd', ?_, by simp [hop, freeB], fun _ => rfl, h2⟩
          cases G with
          | true =>
            have h1' := h1 rfl
            unfold acallV at h1'
            split at h1'
            · rename_i fn first caps hf
              exact StepOK.call hop hg (fun _ => ⟨(hgd rfl).1, hf⟩) (fun _ => (hgd rfl).2) (fun _ => h1')
            · exact h1'.elim
          | false =>
            intro J a w Q hh hr
            have hw := agd_sound (fun t ht => hr t (mem_looks_g ht)) hg
            rw [hw]
            exact ⟨by simp, fun _ => ⟨rfl, vrel_wrapG_false (agd_none hg)⟩⟩
        · cases h0
      | builtin b =>
        simp only at hs
        cases hb : isEffB b with
        | true =>
          rw [hb] at hs
          obtain ⟨h1, h2⟩ := hs
          cases G with
          | true =>
            obtain ⟨g1, g2⟩ := h1 rfl
            obtain ⟨x, h', p1, p2⟩ := StepOK.effB (N := N) hop hg g1 g2
            exact ⟨x, h', hd', p2, by simp [hop, freeB], by simp [hop, actB, hb], p1⟩
          | false => exact ⟨.junk, h, hd', StepOK.idle hg, by simp [hop, freeB], fun _ => rfl, h2 rfl⟩
        | false =>
          rw [hb] at hs
          obtain ⟨h1, h2⟩ := hs
          exact ⟨_, h, hd', StepOK.valB hop hg (fun e => (h1 e).1) (fun e => (h1 e).2), by simp [hop, freeB], fun _ => rfl, h2⟩
    · have hgs : gstep P gl true fr h o.guard G (acont k fr o.dst) o.op = (match isEff o.op with
          | true => (G = true → effP P gl fr h (acont k fr o.dst) o.op) ∧ (G = false → acont k fr o.dst .junk h)
          | false => (G = true → vok P gl fr h o.op) ∧ acont k fr o.dst (wrapG o.guard G (vval P gl fr h o.op)) h) := by
        unfold gstep
        split
        · rename_i c hc; exact absurd ⟨c, hc⟩ hcall
        · cases isEff o.op <;> simp
      rw [hgs] at hs
      have hact : actB o.op = isEff o.op := by
        unfold actB
        split
        · rename_i hc; exact absurd ⟨_, hc⟩ hcall
        · rename_i hc; exact absurd ⟨_, hc⟩ hcall
        · rfl
      cases hb : isEff o.op with
      | true =>
        rw [hb] at hs
        obtain ⟨h1, h2⟩ := hs
        have hfree : freeB o.op = false := by cases hop : o.op <;> simp [hop, isEff] at hb <;> rfl
        cases G with
        | true =>
          obtain ⟨x, h', p1, p2⟩ := StepOK.eff (N := N) hg (h1 rfl)
          exact ⟨x, h', hd', p2, by simp [hfree], by simp [hact, hb], p1⟩
        | false => exact ⟨.junk, h, hd', StepOK.idle hg, by simp [hfree], fun _ => rfl, h2 rfl⟩
      | false =>
        rw [hb] at hs
        obtain ⟨h1, h2⟩ := hs
        refine ⟨_, h, hd', StepOK.value hg h1, ?_, fun _ => rfl, h2⟩
        intro hf h0
        have e1 : vval P gl fr h o.op = vval P gl fr h0 o.op := by
          cases hop : o.op <;> simp [hop, freeB] at hf <;> simp only [vval]
        have e2 : G = true → vok P gl fr h0 o.op := by
          intro hG
          have := h1 hG
          cases hop : o.op <;> simp [hop, freeB] at hf <;> rw [hop] at this <;> simpa only [vok] using this
        rw [e1]
        exact StepOK.value hg e2
end
end Go.Abs
end

section 

namespace Go.Abs
open Go

section
variable {P : Program} {gl : Globs} {J : List Blk} {h : AHeap} {w : World} {fr : AFrame} {N : Nat} {ops : Array Oper}

def AOnly (K : AFrame → AHeap → Prop) : APost
  | .normal, fr, h => K fr h
  | _, _, _ => False

/-! ### In the text's order -/

def wpL (P : Program) (ops : Array Oper) (Q : Exit → Act → World → Prop) : List Oper → Act → World → Prop
  | [], a, w => Q .normal a w
  | o :: l, a, w => if Region.wanted o (yielded ops a.tmps) then o.wp P a w (wpL P ops Q l) Q else wpL P ops Q l (a.put o.dst undef) w

theorem wpOps_of_wpL {Q : Exit → Act → World → Prop} : ∀ (l : List Oper) (i : Nat) (a : Act) (w : World), (∀ j, l[j]? = ops[i + j]?) → wpL P ops Q l a w → wpOps P ops Q (List.range' i l.length) a w
  | [], i, a, w, _, hw => by simpa [wpOps, wpL] using hw
  | o :: l, i, a, w, hl, hw => by
    have h0 : ops[i]? = some o := by simpa using (hl 0).symm
    have hrest : ∀ a w, wpL P ops Q l a w → wpOps P ops Q (List.range' (i + 1) l.length) a w := fun a w => wpOps_of_wpL l (i + 1) a w (fun j => by have := hl (j + 1); simpa [Nat.add_assoc, Nat.add_comm 1 j] using this)
    simp only [List.length_cons, List.range'_succ, wpOps, h0]
    simp only [wpL] at hw
    split
    · rename_i hwt
      rw [if_pos hwt] at hw
      exact .inl (Oper.wp_mono hrest hw)
    · rename_i hwt
      rw [if_neg hwt] at hw
      exact hrest _ _ hw

theorem evo_same {J' : List Blk} {h' : AHeap} {w' : World} (ev : Evo h J w h' J' w') {a : Act} (r : ARel gl N J fr h a w) (hh' : HRel gl h' J' w') {dst : Option Tmp} {x : AV} {v : Value} (hd : ∀ d, dst = some d → d < N) (hv : VRel J' (Own h' J') w' x v) :
    ARel gl N J' (setd fr dst x) h' (a.put dst v) w' :=
  ARel.put (J := J') (h := h') ⟨r.size, r.defers, fun t => (r.tmps t).evo ev, hh'⟩ hd hv

theorem aops_wpL {K : AFrame → AHeap → Prop} : ∀ (l : List Oper) (fr : AFrame) (h : AHeap), aops P gl N false ops l K fr h → ∀ (J : List Blk) (a : Act) (w : World), ARel gl N J fr h a w → wpL P ops (lift gl N h J w (AOnly K)) l a w
  | [], fr, h, hs, J, a, w, r => ⟨J, fr, h, r, Evo.refl _ _ _, hs⟩
  | o :: l, fr, h, hs, J, a, w, r => by
    have tail : ∀ (x : AV) (h' : AHeap) (J' : List Blk) (v : Value) (w' : World), (∀ d, o.dst = some d → d < N) → HRel gl h' J' w' → VRel J' (Own h' J') w' x v → Evo h J w h' J' w' → aops P gl N false ops l K (setd fr o.dst x) h' →
        wpL P ops (lift gl N h J w (AOnly K)) l (a.put o.dst v) w' := by
      intro x h' J' v w' hd h1 h2 h3 h4
      have := aops_wpL l _ _ h4 J' _ _ (evo_same h3 r h1 hd h2)
      have mono : ∀ (l : List Oper) (a : Act) (w0 : World), wpL P ops (lift gl N h' J' w' (AOnly K)) l a w0 → wpL P ops (lift gl N h J w (AOnly K)) l a w0 := by
        intro l
        induction l with
        | nil => intro a w0 hw; exact lift_evo h3 hw
        | cons o l ih =>
          intro a w0 hw
          simp only [wpL] at hw ⊢
          split
          · rename_i hwt
            rw [if_pos hwt] at hw
            -- the operation's own ways out
            have : o.wp P a w0 (wpL P ops (lift gl N h J w (AOnly K)) l) (lift gl N h' J' w' (AOnly K)) := Oper.wp_mono ih hw
            unfold Oper.wp at this ⊢
            generalize (execOp a.eval o).run P w0 = res at this ⊢
            cases res with
            | ok nx w1 =>
              cases nx <;> simp only [Oper.upon] at this ⊢ <;> try exact this
              refine Calls.mono' this ?_
              intro e w2 he
              cases e <;> first | exact he | exact lift_evo h3 he | (obtain ⟨a', w', q⟩ := he; exact ⟨a', w', lift_evo h3 q⟩)
            | halt x w1 => cases x <;> simp only [Oper.upon] at this ⊢ <;> first | exact this | exact lift_evo h3 this
          · rename_i hwt
            rw [if_neg hwt] at hw
            exact ih _ _ hw
      exact mono _ _ _ this
    -- one step
    simp only [aops] at hs
    by_cases hq : astep P gl N true ops o fr h (aops P gl N false ops l K)
    · obtain ⟨x, h', hd, hst, _, _, hk⟩ := astep_det hq
      obtain ⟨s1, s2⟩ := hst J a w (lift gl N h J w (AOnly K)) r.heap (fun t _ => r.tmps t)
      simp only [wpL]
      split
      · rename_i hwt
        refine Oper.wp_mono ?_ (s1 hwt)
        rintro a' w' ⟨v, J', rfl, q1, q2, q3⟩
        exact tail x h' J' v w' hd q1 q2 q3 hk
      · rename_i hwt
        obtain ⟨rfl, q2⟩ := s2 (by simpa using hwt)
        exact tail x h' J undef w hd r.heap q2 (Evo.refl _ _ _) hk
    · -- a call that is not quiet
      unfold astep at hs hq
      split at hs
      · exact hs.elim
      · rename_i G hg
        rw [hg] at hq
        simp only at hq
        obtain ⟨hdb, hs⟩ := hs
        have hd : ∀ d, o.dst = some d → d < N := by
          intro d he
          rw [he] at hdb
          simpa [dstB] using hdb
        have hw := agd_sound (fun t _ => r.tmps t) hg
        by_cases hcall : ∃ f args ats, o.op = .call { callee := .value f, args, argTypes := ats }
        · obtain ⟨f, args, ats, hop⟩ := hcall
          rw [hop] at hs hq
          simp only [gstep] at hs hq
          obtain ⟨hgd, hc⟩ := hs
          rcases hc with hc | ⟨_, hc1, hc2⟩
          · exact absurd ⟨hdb, hgd, .inl hc⟩ hq
          · simp only [wpL]
            split
            · rename_i hwt
              rw [hw] at hwt
              subst hwt
              have hc1' := hc1 rfl
              unfold acallV at hc1'
              split at hc1'
              · rename_i fn first caps hf
                obtain ⟨hgf, hga⟩ := hgd rfl
                have hev := ev_at (O := Own h J) r.heap (fun t (_ : t ∈ looks ops o) => r.tmps t)
                have hopp : o.op.operands = #[f] ++ args := by rw [hop]; rfl
                have rf := (hev f (by rw [hopp]; simp)).core hgf
                rw [hf] at rf
                have rargs := vrels_map (a := a) (J := J) (O := Own h J) (w := w) (gl := gl) (fr := fr) args.toList (fun y hy => hev y (by rw [hopp]; simpa using Or.inr hy)) hga
                obtain ⟨⟨fd, hfd, hbody, hname⟩, hcalls⟩ := hc1'
                generalize hfv : a.eval f = vf at rf
                cases rf with
                | fn _ _ _ vfs vcs l1 l2 r1 r2 =>
                  have hvs := VRels.append (VRels.append ⟨l1, r1⟩ rargs) ⟨l2, r2⟩
                  have hrun : (execOp a.eval o).run P w = .ok (.enter fn (vfs ++ args.toList.map a.eval ++ vcs).toArray) w := by
                    unfold execOp
                    rw [hop]
                    simp only [resolve, hfv, Deferred.ofValue, Sem.run_bind, Sem.run_pure, Result.andThen_ok, invoke, callFunc, run_program, hfd, hname, Bool.false_eq_true, if_false]
                    have hb2 : fd.body.isNone = false := by cases hbb : fd.body with | none => simp [hbb] at hbody | some c => rfl
                    simp only [hb2, Bool.false_eq_true, if_false, Sem.run_pure]
                    congr 2
                    apply Array.ext'
                    simp
                  unfold Oper.wp
                  rw [hrun]
                  simp only [Oper.upon]
                  refine Calls.mono' (hcalls J w _ r.heap hvs) ?_
                  rintro e w' ⟨x', v, J', h', rfl, q1, q2, q3, q4⟩
                  exact tail x' h' J' v w' hd q1 q2 q3 q4
              · exact hc1'.elim
            · rename_i hwt
              rw [hw] at hwt
              have hG : G = false := by simpa using hwt
              exact tail .junk h J undef w hd r.heap (.junk _) (Evo.refl _ _ _) (hc2 hG)
        by_cases hmap : o.guard = none ∧ G = true ∧ mapP gl fr h (acont (aops P gl N false ops l K) fr o.dst) o.op
        · obtain ⟨hgn, hG, hmap⟩ := hmap
          subst hG
          simp only [wpL]
          rw [hw, if_pos rfl]
          have hev := ev_at (O := Own h J) r.heap (fun t (_ : t ∈ looks ops o) => r.tmps t)
          unfold mapP at hmap
          split at hmap
          · rename_i o' it hop
            obtain ⟨gi, hm⟩ := hmap
            unfold mapNextP at hm
            split at hm
            · rename_i b hx
              obtain ⟨m, seen, kvs, p1, p2, p3, p4⟩ := hm
              have rx := (hev it (by rw [hop]; simp [Op.operands])).core gi
              rw [hx] at rx
              rcases next_map (P := P) (ty := o.type) r.heap p1 p2 rx with ⟨i, p, e1, e2, u, w', e3, e4, e5, e6⟩ | ⟨e1, e2⟩
              · have hxx : (execOp a.eval o).run P w = .ok (.value u) w' := by
                  unfold execOp
                  rw [hop]
                  simp only [Sem.run_bind, e3]
                  rfl
                unfold Oper.wp
                rw [hxx]
                exact tail _ _ J u w' hd e4 e5 e6 (p3 i p e1 e2)
              · have hxx : (execOp a.eval o).run P w = .ok (.value (.tuple #[.bool false])) w := by
                  unfold execOp
                  rw [hop]
                  simp only [Sem.run_bind, e2]
                  rfl
                unfold Oper.wp
                rw [hxx]
                exact tail _ h J _ w hd r.heap (.tup _ _ rfl (VRels.cons (.bool false) .nil).2) (Evo.refl _ _ _) (p4 e1)
            · exact hm.elim
          · exact hmap.elim
        by_cases hnil : o.guard = none ∧ G = true ∧ nilCmp P gl fr h (acont (aops P gl N false ops l K) fr o.dst) o.op
        · obtain ⟨hgn, hG, hnil⟩ := hnil
          subst hG
          simp only [wpL]
          rw [hw, if_pos rfl]
          have hev := ev_at (O := Own h J) r.heap (fun t (_ : t ∈ looks ops o) => r.tmps t)
          unfold nilCmp at hnil
          split at hnil
          · rename_i o' t x y ty hop
            have hopp : o.op.operands = #[x, y] := by rw [hop]; rfl
            split at hnil
            · obtain ⟨gx, gy, hok⟩ := hnil
              obtain ⟨b, hc, hrun, _⟩ := nilQ_sound (X := x) (Y := y) ((hev x (by rw [hopp]; simp)).core gx) ((hev y (by rw [hopp]; simp)).core gy) hok
              have hx : (execOp a.eval o).run P w = .ok (.value (.bool b)) w := by
                unfold execOp
                rw [hop]
                simp only [Sem.run_bind] at hrun ⊢
                simp [hrun]
              unfold Oper.wp
              rw [hx]
              exact tail (.bool b) h J (.bool b) w hd r.heap (.bool b) (Evo.refl _ _ _) hc
            · obtain ⟨gx, gy, hok⟩ := hnil
              obtain ⟨b, hc, _, hrun⟩ := nilQ_sound (X := x) (Y := y) ((hev x (by rw [hopp]; simp)).core gx) ((hev y (by rw [hopp]; simp)).core gy) hok
              have hx : (execOp a.eval o).run P w = .ok (.value (.bool !b)) w := by
                unfold execOp
                rw [hop]
                simp only [Sem.run_bind] at hrun ⊢
                simp [hrun]
              unfold Oper.wp
              rw [hx]
              exact tail (.bool !b) h J (.bool !b) w hd r.heap (.bool _) (Evo.refl _ _ _) hc
            · exact hnil.elim
          · exact hnil.elim
        · -- everything else is as in the quiet way
          refine absurd ⟨hdb, ?_⟩ hq
          unfold gstep at hs ⊢
          split at hs
          · rename_i k hk
            obtain ⟨callee, args, ats⟩ := k
            cases callee with
            | value f => exact absurd ⟨f, args, ats, hk⟩ hcall
            | builtin b => exact hs
            | invoke r m => exact hs
          · split at hs
            · simp only [Bool.not_true, Bool.and_false]
              split at hs
              · rcases hs with hs | ⟨h1, h2, h3⟩
                · exact hs
                · exact absurd ⟨h1, h2, h3⟩ hmap
              · exact hs
            · simp only [Bool.not_true, Bool.and_false]
              split at hs
              · rcases hs with hs | ⟨h1, h2, h3⟩
                · exact hs
                · exact absurd ⟨h1, h2, h3⟩ hnil
              · exact hs

/-- A region in the text's order. -/
theorem AWP.region {id : Nat} {Q : APost} (hs : aops P gl N false ops ops.toList (Q .normal) fr h) : AWP P gl N (.region id ops false) Q fr h := by
  intro J a w r
  have := aops_wpL ops.toList fr h hs J a w r
  have h2 := wpOps_of_wpL ops.toList 0 a w (by simp) this
  rw [Array.length_toList, ← List.range_eq_range'] at h2
  refine wp_mono (wp_region h2) ?_
  rintro e a' w' ⟨J', fr', h', q1, q2, q3⟩
  cases e with
  | normal => exact ⟨J', fr', h', q1, q2, q3⟩
  | _ => exact q3.elim
end
end Go.Abs
end

section 

namespace Go.Abs
open Go

section
variable {P : Program} {gl : Globs} {J : List Blk} {h : AHeap} {w : World} {fr : AFrame} {N : Nat} {ops : Array Oper}

/-! ### What waits for what -/

inductive Dep (ops : Array Oper) : Nat → Nat → Prop
  | base (i j : Nat) (o : Oper) (e : Edge) (ho : ops[j]? = some o) (he : e ∈ o.after) (hb : Region.binds .any e = true) (hon : e.on = i) : Dep ops i j
  | trans (i k j : Nat) (h1 : Dep ops i k) (h2 : Dep ops k j) : Dep ops i j

/-- The operations that come before another one, as bits. -/
def maskOf (acc : List Nat) : List Edge → Nat
  | [] => 0
  | e :: l => (if Region.binds .any e then (1 <<< e.on) ||| acc.getD e.on 0 else 0) ||| maskOf acc l
def masks : List Oper → List Nat → List Nat
  | [], acc => acc
  | o :: l, acc => masks l (acc ++ [maskOf acc o.after.toList])

theorem maskOf_sound {acc : List Nat} {j : Nat} {o : Oper} (ho : ops[j]? = some o) (hacc : ∀ k m, acc[k]? = some m → ∀ i, m.testBit i = true → Dep ops i k) :
    ∀ (l : List Edge), (∀ e ∈ l, e ∈ o.after) → ∀ i, (maskOf acc l).testBit i = true → Dep ops i j
  | [], _, i, h => by simp [maskOf] at h
  | e :: l, hl, i, h => by
    simp only [maskOf, Nat.testBit_or, Bool.or_eq_true] at h
    rcases h with h | h
    · split at h
      · rename_i hb
        simp only [Nat.testBit_or, Bool.or_eq_true] at h
        rcases h with h | h
        · have : i = e.on := by
            rw [Nat.one_shiftLeft, Nat.testBit_two_pow] at h
            simpa [eq_comm] using h
          exact .base i j o e ho (hl e (by simp)) hb this.symm
        · cases hx : acc[e.on]? with
          | none => simp [List.getD, hx] at h
          | some m =>
            simp [List.getD, hx] at h
            exact .trans i e.on j (hacc _ _ hx i h) (.base e.on j o e ho (hl e (by simp)) hb rfl)
      · simp at h
    · exact maskOf_sound ho hacc l (fun e' he' => hl e' (by simp [he'])) i h

theorem masks_sound : ∀ (l : List Oper) (acc : List Nat), (∀ j, l[j]? = ops[acc.length + j]?) → (∀ k m, acc[k]? = some m → ∀ i, m.testBit i = true → Dep ops i k) →
    ∀ k m, (masks l acc)[k]? = some m → ∀ i, m.testBit i = true → Dep ops i k
  | [], acc, _, hacc => hacc
  | o :: l, acc, hl, hacc => by
    refine masks_sound l _ ?_ ?_
    · intro j
      have := hl (j + 1)
      simp only [List.getElem?_cons_succ] at this
      rw [this]
      congr 1
      simp; omega
    · intro k m hk i hi
      rcases Nat.lt_or_ge k acc.length with h | h
      · rw [List.getElem?_append_left h] at hk
        exact hacc k m hk i hi
      · rw [List.getElem?_append_right h] at hk
        have hke : k = acc.length := by
          rcases Nat.eq_zero_or_pos (k - acc.length) with h0 | h0
          · omega
          · rw [List.getElem?_eq_none (by simp; omega)] at hk; cases hk
        subst hke
        simp at hk
        subst hk
        have h0 := hl 0
        simp at h0
        exact maskOf_sound h0.symm hacc o.after.toList (fun e he => by simpa using he) i hi

def depB (ms : List Nat) (i j : Nat) : Bool := (ms.getD j 0).testBit i

/-- May the operations of a region come in any order that its edges allow, as far as their outcome goes? -/
def drawOk (ops : Array Oper) : Bool :=
  let ms := masks ops.toList []
  (List.range ops.size).all fun j => match ops[j]? with
    | none => true
    | some oj =>
      (oj.after.toList.all fun e => !Region.binds .any e || e.on < j) &&
      (List.range j).all fun i => match ops[i]? with
        | none => true
        | some oi =>
          ((!(actB oi.op && !freeB oj.op) && !(!freeB oi.op && actB oj.op)) || depB ms i j) &&
          ((match oi.dst with | some t => !((looks ops oj).contains t || oj.dst == some t) | none => true) || depB ms i j) &&
          ((match oj.dst with | some t => !((looks ops oi).contains t) | none => true) || depB ms i j)

structure DrawOk (ops : Array Oper) : Prop where
  early : ∀ j o, ops[j]? = some o → ∀ e ∈ o.after, Region.binds .any e = true → e.on < j
  acts : ∀ i j oi oj, ops[i]? = some oi → ops[j]? = some oj → i < j → ((actB oi.op = true ∧ freeB oj.op = false) ∨ (freeB oi.op = false ∧ actB oj.op = true)) → Dep ops i j
  writes : ∀ i j oi oj t, ops[i]? = some oi → ops[j]? = some oj → i < j → oi.dst = some t → (t ∈ looks ops oj ∨ oj.dst = some t) → Dep ops i j
  reads : ∀ i j oi oj t, ops[i]? = some oi → ops[j]? = some oj → i < j → oj.dst = some t → t ∈ looks ops oi → Dep ops i j

theorem drawOk_spec (h : drawOk ops = true) : DrawOk ops := by
  have hms : ∀ i j, depB (masks ops.toList []) i j = true → Dep ops i j := by
    intro i j hb
    unfold depB at hb
    cases hx : (masks ops.toList [])[j]? with
    | none => simp [List.getD, hx] at hb
    | some m =>
      simp [List.getD, hx] at hb
      exact masks_sound ops.toList [] (by simp) (by simp) j m hx i hb
  unfold drawOk at h
  simp only [List.all_eq_true, List.mem_range] at h
  have hj : ∀ j o, ops[j]? = some o → j < ops.size := fun j o ho => (Array.getElem?_eq_some_iff.1 ho).1
  have key : ∀ i j oi oj, ops[i]? = some oi → ops[j]? = some oj → i < j → _ := fun i j oi oj hi hjj hij => by
    have h1 := h j (hj j oj hjj)
    rw [hjj] at h1
    simp only [Bool.and_eq_true, List.all_eq_true, List.mem_range] at h1
    have h2 := h1.2 i hij
    rw [hi] at h2
    exact h2
  refine ⟨?_, ?_, ?_, ?_⟩
  · intro j o ho e he hb
    have h1 := h j (hj j o ho)
    rw [ho] at h1
    simp only [Bool.and_eq_true, List.all_eq_true] at h1
    have h2 := h1.1 e (by simpa using he)
    simpa [hb] using h2
  · intro i j oi oj hi hjj hij hor
    have h2 := key i j oi oj hi hjj hij
    simp only [Bool.and_eq_true, Bool.or_eq_true] at h2
    refine h2.1.1.elim (fun hh => ?_) (hms i j)
    rcases hor with ⟨a1, a2⟩ | ⟨a1, a2⟩ <;> simp [a1, a2] at hh
  · intro i j oi oj t hi hjj hij hd hor
    have h2 := key i j oi oj hi hjj hij
    simp only [Bool.and_eq_true, Bool.or_eq_true] at h2
    refine h2.1.2.elim (fun hh => ?_) (hms i j)
    rw [hd] at hh
    simp only [Bool.not_eq_true', Bool.or_eq_false_iff] at hh
    rcases hor with a1 | a1
    · have := hh.1
      simp [a1] at this
    · have := hh.2
      simp [a1] at this
  · intro i j oi oj t hi hjj hij hd hl
    have h2 := key i j oi oj hi hjj hij
    simp only [Bool.and_eq_true, Bool.or_eq_true] at h2
    refine h2.2.elim (fun hh => ?_) (hms i j)
    rw [hd] at hh
    simp [hl] at hh

/-! ### The text's order leaves a trace -/

structure Trace (P : Program) (gl : Globs) (N : Nat) (ops : Array Oper) (n : Nat) (F : Nat → AFrame) (H : Nat → AHeap) (X : Nat → AV) : Prop where
  step : ∀ i o, i < n → ops[i]? = some o → (∀ d, o.dst = some d → d < N) ∧ StepOK P gl N ops o (F i) (H i) (X i) (H (i + 1)) ∧ (freeB o.op = true → ∀ h0, StepOK P gl N ops o (F i) h0 (X i) h0) ∧ (actB o.op = false → H (i + 1) = H i) ∧ F (i + 1) = setd (F i) o.dst (X i)

theorem aops_trace {K : AFrame → AHeap → Prop} : ∀ (l : List Oper) (i : Nat) (fr : AFrame) (h : AHeap), (∀ j, l[j]? = ops[i + j]?) → aops P gl N true ops l K fr h →
    ∃ (F : Nat → AFrame) (H : Nat → AHeap) (X : Nat → AV), F i = fr ∧ H i = h ∧ K (F (i + l.length)) (H (i + l.length)) ∧
      ∀ j o, i ≤ j → j < i + l.length → ops[j]? = some o → (∀ d, o.dst = some d → d < N) ∧ StepOK P gl N ops o (F j) (H j) (X j) (H (j + 1)) ∧ (freeB o.op = true → ∀ h0, StepOK P gl N ops o (F j) h0 (X j) h0) ∧ (actB o.op = false → H (j + 1) = H j) ∧ F (j + 1) = setd (F j) o.dst (X j)
  | [], i, fr, h, _, hs => ⟨fun _ => fr, fun _ => h, fun _ => .junk, rfl, rfl, hs, fun j o h1 h2 => by simp at h2; omega⟩
  | o :: l, i, fr, h, hl, hs => by
    obtain ⟨x, h', p1, p2, p3, p4, p5⟩ := astep_det hs
    obtain ⟨F, H, X, f1, f2, f3, f4⟩ := aops_trace l (i + 1) (setd fr o.dst x) h' (fun j => by have := hl (j + 1); simpa [Nat.add_assoc, Nat.add_comm 1 j] using this) p5
    refine ⟨fun j => if j ≤ i then fr else F j, fun j => if j ≤ i then h else H j, fun j => if j ≤ i then x else X j, by simp, by simp, ?_, ?_⟩
    · simp only [List.length_cons]
      rw [if_neg (by omega), if_neg (by omega), show i + (l.length + 1) = i + 1 + l.length by omega]
      exact f3
    · intro j o' h1 h2 ho'
      simp only [List.length_cons] at h2
      by_cases hji : j = i
      · subst hji
        have h0 := hl 0
        simp at h0
        rw [ho'] at h0
        injection h0 with h0
        subst h0
        simp only [Nat.le_refl, if_true, if_neg (show ¬ (j + 1 ≤ j) by omega)]
        rw [f1, f2]
        exact ⟨p1, p2, p3, p4, rfl⟩
      · simp only [if_neg (show ¬ (j ≤ i) by omega), if_neg (show ¬ (j + 1 ≤ i) by omega)]
        exact f4 j o' (by omega) (by omega) ho'

/-! ### Any order -/

/-- The frame in which just the listed operations have been carried out. -/
def FD (ops : Array Oper) (X : Nat → AV) (fr : AFrame) (D : Nat → Bool) : Nat → AFrame
  | 0 => fr
  | i + 1 => if D i then setd (FD ops X fr D i) ((ops[i]?).bind (·.dst)) (X i) else FD ops X fr D i

theorem FD_congr {X : Nat → AV} {D D' : Nat → Bool} {t : Tmp} : ∀ n, (∀ i o, i < n → ops[i]? = some o → o.dst = some t → D i = D' i) → FD ops X fr D n t = FD ops X fr D' n t
  | 0, _ => rfl
  | n + 1, hh => by
    have ih := FD_congr (X := X) (D := D) (D' := D') n (fun i o hi => hh i o (by omega))
    have same : ∀ (D : Nat → Bool), (∀ o, ops[n]? = some o → o.dst ≠ some t) → FD ops X fr D (n + 1) t = FD ops X fr D n t := by
      intro D hne
      simp only [FD]
      split
      · cases ho : ops[n]? with
        | none => simp [setd]
        | some o =>
          simp only [Option.bind_some]
          cases hd : o.dst with
          | none => rfl
          | some d =>
            simp only [setd]
            rw [if_neg]
            intro e
            exact hne o ho (by rw [hd, e])
      · rfl
    by_cases hw : ∃ o, ops[n]? = some o ∧ o.dst = some t
    · obtain ⟨o, ho, hd⟩ := hw
      have hD := hh n o (by omega) ho hd
      simp only [FD, hD, ho, Option.bind_some, hd]
      split
      · simp [setd]
      · exact ih
    · rw [same D (fun o ho e => hw ⟨o, ho, e⟩), same D' (fun o ho e => hw ⟨o, ho, e⟩)]
      exact ih

/-- Operations from 'n' on that are not listed, or do not write the place, change nothing. -/
theorem FD_beyond {X : Nat → AV} {D : Nat → Bool} {t : Tmp} (n : Nat) : ∀ k, (∀ i o, n ≤ i → i < n + k → ops[i]? = some o → o.dst = some t → D i = false) → FD ops X fr D (n + k) t = FD ops X fr D n t
  | 0, _ => rfl
  | k + 1, hh => by
    rw [← FD_beyond n k (fun i o h1 h2 => hh i o h1 (by omega))]
    show FD ops X fr D (n + k + 1) t = _
    simp only [FD]
    split
    · rename_i hD
      cases ho : ops[n + k]? with
      | none => simp [setd]
      | some o =>
        simp only [Option.bind_some]
        cases hd : o.dst with
        | none => rfl
        | some d =>
          simp only [setd]
          rw [if_neg]
          intro e
          have := hh (n + k) o (by omega) (by omega) ho (by rw [hd, e])
          rw [this] at hD
          cases hD
    · rfl

theorem FD_trace {X : Nat → AV} {F : Nat → AFrame} (h0 : F 0 = fr) (n : Nat) (hF : ∀ i o, i < n → ops[i]? = some o → F (i + 1) = setd (F i) o.dst (X i)) (hn : n ≤ ops.size) : ∀ k, k ≤ n → FD ops X fr (fun i => decide (i < n)) k = F k
  | 0, _ => h0.symm
  | k + 1, hk => by
    have ih := FD_trace h0 n hF hn k (by omega)
    have ho : ops[k]? = some (ops[k]'(by omega)) := Array.getElem?_eq_getElem (by omega)
    simp only [FD, decide_eq_true_eq, if_pos (show k < n by omega), ho, Option.bind_some, ih]
    exact (hF k _ (by omega) ho).symm

theorem heap_const {H : Nat → AHeap} {n : Nat} (hH : ∀ i o, i < n → ops[i]? = some o → actB o.op = false → H (i + 1) = H i) (hn : n ≤ ops.size) (a : Nat) : ∀ k, a + k ≤ n → (∀ i o, a ≤ i → i < a + k → ops[i]? = some o → actB o.op = false) → H (a + k) = H a
  | 0, _, _ => rfl
  | k + 1, hle, hh => by
    have ih := heap_const hH hn a k (by omega) (fun i o h1 h2 => hh i o h1 (by omega))
    have ho : ops[a + k]? = some (ops[a + k]'(by omega)) := Array.getElem?_eq_getElem (by omega)
    rw [← ih]
    exact hH (a + k) _ (by omega) ho (hh (a + k) _ (by omega) (by omega) ho)
end
end Go.Abs
end

section 

namespace Go.Abs
open Go

section
variable {P : Program} {gl : Globs} {J : List Blk} {h : AHeap} {w : World} {fr : AFrame} {N : Nat} {ops : Array Oper}

/-- What holds when some of the operations have been carried out. -/
structure Part (gl : Globs) (N : Nat) (ops : Array Oper) (fr : AFrame) (H : Nat → AHeap) (X : Nat → AV) (h : AHeap) (J0 : List Blk) (w0 : World) (D : Nat → Bool) (a : Act) (w : World) : Prop where
  closed : ∀ i j, Dep ops i j → D j = true → D i = true
  rel : ∃ m J, m ≤ ops.size ∧ (∀ e o, ops[e]? = some o → actB o.op = true → (D e = true ↔ e < m)) ∧ ARel gl N J (FD ops X fr D ops.size) (H m) a w ∧ Evo h J0 w0 (H m) J w

theorem Part.go {F : Nat → AFrame} {H : Nat → AHeap} {X : Nat → AV} {J0 : List Blk} {w0 : World} (dk : DrawOk ops) (hF0 : F 0 = fr) (hH0 : H 0 = h)
    (tr : ∀ j o, j < ops.size → ops[j]? = some o → (∀ d, o.dst = some d → d < N) ∧ StepOK P gl N ops o (F j) (H j) (X j) (H (j + 1)) ∧ (freeB o.op = true → ∀ h0, StepOK P gl N ops o (F j) h0 (X j) h0) ∧ (actB o.op = false → H (j + 1) = H j) ∧ F (j + 1) = setd (F j) o.dst (X j))
    {D : Nat → Bool} {a : Act} {w : World} (p : Part gl N ops fr H X h J0 w0 D a w) {j : Nat} {o : Oper} (ho : ops[j]? = some o) (hD : D j = false) (hready : ∀ i, Dep ops i j → D i = true)
    {Q : Exit → Act → World → Prop} {next : Act → World → Prop} (hn : ∀ a' w', Part gl N ops fr H X h J0 w0 (fun i => if i = j then true else D i) a' w' → next a' w') : wpOp P ops Q j next a w := by
  have hj : j < ops.size := (Array.getElem?_eq_some_iff.1 ho).1
  obtain ⟨t1, t2, t3, t4, t5⟩ := tr j o hj ho
  obtain ⟨m, J, hm, hacts, r, ev⟩ := p.rel
  -- what has been carried out of those before, what of those behind
  have before : ∀ i oi, ops[i]? = some oi → i < j → Dep ops i j → D i = true := fun i oi _ _ hd => hready i hd
  have behind : ∀ i, Dep ops j i → D i = false := fun i hd => by
    cases hDi : D i with
    | false => rfl
    | true => rw [p.closed j i hd hDi] at hD; cases hD
  -- the frame, as far as the operation looks
  have hframe : ∀ t, (t ∈ looks ops o ∨ o.dst = some t) → (∀ i oi, ops[i]? = some oi → j < i → oi.dst = some t → Dep ops j i) → FD ops X fr D ops.size t = F j t := by
    intro t ht hlater
    rw [← FD_trace (ops := ops) (fr := fr) (X := X) hF0 j (fun i oi hi hoi => (tr i oi (by omega) hoi).2.2.2.2) (by omega) j (Nat.le_refl _)]
    rw [show ops.size = j + (ops.size - j) by omega, FD_beyond j (ops.size - j) ?_]
    · refine FD_congr j fun i oi hi hoi hd => ?_
      rw [before i oi hoi hi (dk.writes i j oi o t hoi ho hi hd ht)]
      simp [hi]
    · intro i oi h1 h2 hoi hd
      by_cases hij : i = j
      · subst hij; exact hD
      · exact behind i (hlater i oi hoi (by omega) hd)
  have hlook : ∀ t ∈ looks ops o, FD ops X fr D ops.size t = F j t := fun t ht => hframe t (.inl ht) fun i oi hoi hji hd => dk.reads j i o oi t ho hoi hji hd ht
  -- the heap, unless it does not matter
  have hHc : ∀ (a : Nat) k, a + k ≤ ops.size → (∀ i o, a ≤ i → i < a + k → ops[i]? = some o → actB o.op = false) → H (a + k) = H a :=
    heap_const (ops := ops) (n := ops.size) (fun i oi hi hoi hne => (tr i oi hi hoi).2.2.2.1 hne) (Nat.le_refl _)
  have hheap : freeB o.op = false → H m = H j := by
    intro hf
    have hno : ∀ e oe, ops[e]? = some oe → actB oe.op = true → e ≠ j → (D e = true ↔ e < j) := by
      intro e oe hoe hae hne
      rcases Nat.lt_or_gt_of_ne hne with hlt | hgt
      · have := dk.acts e j oe o hoe ho hlt (.inl ⟨hae, hf⟩)
        simp [before e oe hoe hlt this, hlt]
      · have := dk.acts j e o oe ho hoe hgt (.inr ⟨hf, hae⟩)
        rw [behind e this]
        simp; omega
    rcases Nat.le_total m j with hmj | hmj
    · have := hHc m (j - m) (by omega) (fun i oi h1 h2 hoi => by
        cases hab : actB oi.op with
        | false => rfl
        | true =>
          have e1 := (hacts i oi hoi hab)
          have e2 := (hno i oi hoi hab (by omega))
          rw [e2] at e1
          omega)
      rw [show m + (j - m) = j by omega] at this
      exact this.symm
    · have := hHc j (m - j) (by omega) (fun i oi h1 h2 hoi => by
        cases hab : actB oi.op with
        | false => rfl
        | true =>
          by_cases hij : i = j
          · subst hij
            have e1 := (hacts i oi hoi hab)
            rw [hD] at e1
            simp at e1
            omega
          · have e1 := (hacts i oi hoi hab)
            have e2 := (hno i oi hoi hab hij)
            rw [e2] at e1
            omega)
      rw [show j + (m - j) = m by omega] at this
      exact this
  -- the step, at the heap as it is
  have hst : ∃ m', m' ≤ ops.size ∧ StepOK P gl N ops o (F j) (H m) (X j) (H m') ∧ (∀ e oe, ops[e]? = some oe → actB oe.op = true → ((if e = j then true else D e) = true ↔ e < m')) := by
    cases hf : freeB o.op with
    | true =>
      refine ⟨m, hm, t3 hf (H m), fun e oe hoe hae => ?_⟩
      by_cases hej : e = j
      · subst hej
        rw [ho] at hoe
        injection hoe with hoe
        subst hoe
        have : actB o.op = false := by cases hop : o.op <;> simp [hop, freeB] at hf <;> rfl
        rw [this] at hae
        cases hae
      · rw [if_neg hej]; exact hacts e oe hoe hae
    | false =>
      have e0 := hheap hf
      cases hab : actB o.op with
      | false =>
        refine ⟨m, hm, ?_, fun e oe hoe hae => ?_⟩
        · have := t2
          rw [t4 hab, ← e0] at this
          exact this
        · by_cases hej : e = j
          · subst hej
            rw [ho] at hoe
            injection hoe with hoe
            subst hoe
            rw [hab] at hae
            cases hae
          · rw [if_neg hej]; exact hacts e oe hoe hae
      | true =>
        refine ⟨j + 1, by omega, ?_, fun e oe hoe hae => ?_⟩
        · rw [e0]; exact t2
        · by_cases hej : e = j
          · subst hej; simp
          · rw [if_neg hej]
            rcases Nat.lt_or_gt_of_ne hej with hlt | hgt
            · have := dk.acts e j oe o hoe ho hlt (.inl ⟨hae, hf⟩)
              simp [before e oe hoe hlt this]; omega
            · have := dk.acts j e o oe ho hoe hgt (.inr ⟨hf, hae⟩)
              rw [behind e this]
              simp; omega
  obtain ⟨m', hm', hstep, hacts'⟩ := hst
  -- the frame behind the step
  have hFD : ∀ t, FD ops X fr (fun i => if i = j then true else D i) ops.size t = setd (FD ops X fr D ops.size) o.dst (X j) t := by
    intro t
    by_cases hd : o.dst = some t
    · simp only [setd, hd, if_true]
      have hlate : ∀ i oi, j + 1 ≤ i → i < j + 1 + (ops.size - (j + 1)) → ops[i]? = some oi → oi.dst = some t → (if i = j then true else D i) = false := by
        intro i oi h1 h2 hoi hdi
        rw [if_neg (by omega)]
        exact behind i (dk.writes j i o oi t ho hoi (by omega) hd (.inr hdi))
      rw [show ops.size = j + 1 + (ops.size - (j + 1)) by omega, FD_beyond (D := fun i => if i = j then true else D i) (j + 1) (ops.size - (j + 1)) hlate]
      simp only [FD, if_true, ho, Option.bind_some, hd, setd]
    · have : setd (FD ops X fr D ops.size) o.dst (X j) t = FD ops X fr D ops.size t := by
        cases hdo : o.dst with
        | none => rfl
        | some d =>
          simp only [setd]
          rw [if_neg]
          intro e
          exact hd (by rw [hdo, e])
      rw [this]
      refine FD_congr ops.size fun i oi _ hoi hdi => ?_
      by_cases hij : i = j
      · subst hij
        rw [ho] at hoi
        injection hoi with hoi
        subst hoi
        exact absurd hdi hd
      · simp [hij]
  have hclosed : ∀ i k, Dep ops i k → (if k = j then true else D k) = true → (if i = j then true else D i) = true := by
    intro i k hd hk
    by_cases hij : i = j
    · simp [hij]
    · rw [if_neg hij]
      by_cases hkj : k = j
      · subst hkj; exact hready i hd
      · rw [if_neg hkj] at hk
        exact p.closed i k hd hk
  obtain ⟨s1, s2⟩ := hstep J a w Q r.heap (fun t ht => by rw [← hlook t ht]; exact r.tmps t)
  have fin : ∀ (v : Value) (J' : List Blk) (w' : World), HRel gl (H m') J' w' → VRel J' (Own (H m') J') w' (X j) v → Evo (H m) J w (H m') J' w' → next (a.put o.dst v) w' := by
    intro v J' w' q1 q2 q3
    refine hn _ _ ⟨hclosed, m', J', hm', hacts', ?_, ev.trans q3⟩
    have := evo_same q3 r q1 t1 q2
    exact ⟨this.size, this.defers, fun t => by rw [hFD t]; exact this.tmps t, this.heap⟩
  unfold wpOp
  rw [ho]
  simp only
  split
  · rename_i hw
    refine .inl (Oper.wp_mono ?_ (s1 hw))
    rintro a' w' ⟨v, J', rfl, q1, q2, q3⟩
    exact fin v J' w' q1 q2 q3
  · rename_i hw
    obtain ⟨e1, q2⟩ := s2 (by simpa using hw)
    refine fin undef J w (by rw [e1]; exact r.heap) (by rw [e1]; exact q2) (by rw [e1]; exact Evo.refl _ _ _)

theorem ready_all (dk : DrawOk ops) {listed : Array Bool} (hsz : listed.size = ops.size) (hr : Region.ready .any ops listed = []) : ∀ i, i < ops.size → listed.getD i false = true := by
  intro i
  induction i using Nat.strongRecOn with
  | _ i ih =>
    intro hi
    cases hl : listed.getD i false with
    | true => rfl
    | false =>
      have ho : ops[i]? = some (ops[i]'hi) := Array.getElem?_eq_getElem hi
      have : i ∈ Region.ready .any ops listed := mem_ready.2 ⟨by
        rw [Array.getD_eq_getD_getElem?] at hl ⊢
        rw [Array.getElem?_eq_getElem (by omega)] at hl ⊢
        simpa using hl, _, ho, fun e he hb => ih e.on (dk.early i _ ho e he hb) (by have := dk.early i _ ho e he hb; omega)⟩
      rw [hr] at this
      cases this

theorem wpAny_of_part {F : Nat → AFrame} {H : Nat → AHeap} {X : Nat → AV} {J0 : List Blk} {w0 : World} (dk : DrawOk ops) (hF0 : F 0 = fr) (hH0 : H 0 = h)
    (tr : ∀ j o, j < ops.size → ops[j]? = some o → (∀ d, o.dst = some d → d < N) ∧ StepOK P gl N ops o (F j) (H j) (X j) (H (j + 1)) ∧ (freeB o.op = true → ∀ h0, StepOK P gl N ops o (F j) h0 (X j) h0) ∧ (actB o.op = false → H (j + 1) = H j) ∧ F (j + 1) = setd (F j) o.dst (X j))
    {Q : Exit → Act → World → Prop} (hQ : ∀ J a w, ARel gl N J (F ops.size) (H ops.size) a w → Evo h J0 w0 (H ops.size) J w → Q .normal a w) :
    ∀ (fuel : Nat) (listed : Array Bool) (a : Act) (w : World), listed.size = ops.size → (fuel = 0 → Region.ready .any ops listed = []) → (listed.toList.count false ≤ fuel) → Part gl N ops fr H X h J0 w0 (fun i => listed.getD i false) a w → wpAny P .any ops Q fuel listed a w := by
  have fin : ∀ (listed : Array Bool) (a : Act) (w : World), listed.size = ops.size → Region.ready .any ops listed = [] → Part gl N ops fr H X h J0 w0 (fun i => listed.getD i false) a w → Q .normal a w := by
    intro listed a w hsz hr p
    have hall := ready_all dk hsz hr
    obtain ⟨m, J, hm, hacts, r, ev⟩ := p.rel
    have hHm : H m = H ops.size := by
      have := heap_const (ops := ops) (n := ops.size) (fun i oi hi hoi hne => (tr i oi hi hoi).2.2.2.1 hne) (Nat.le_refl _) m (ops.size - m) (by omega) (fun i oi h1 h2 hoi => by
        cases hab : actB oi.op with
        | false => rfl
        | true =>
          have := (hacts i oi hoi hab).1 (hall i (by omega))
          omega)
      rw [show m + (ops.size - m) = ops.size by omega] at this
      exact this.symm
    have hFF : ∀ t, FD ops X fr (fun i => listed.getD i false) ops.size t = F ops.size t := by
      intro t
      rw [← FD_trace (ops := ops) (fr := fr) (X := X) hF0 ops.size (fun i oi hi hoi => (tr i oi hi hoi).2.2.2.2) (Nat.le_refl _) ops.size (Nat.le_refl _)]
      exact FD_congr ops.size fun i oi hi _ _ => by rw [hall i hi]; simp [hi]
    refine hQ J a w ⟨r.size, r.defers, fun t => ?_, ?_⟩ ?_
    · rw [← hFF t, ← hHm]; exact r.tmps t
    · rw [← hHm]; exact r.heap
    · rw [← hHm]; exact ev
  intro fuel
  induction fuel with
  | zero =>
    intro listed a w hsz h0 _ p
    exact ⟨h0 rfl, fin listed a w hsz (h0 rfl) p⟩
  | succ fuel ih =>
    intro listed a w hsz _ hc p
    refine ⟨fun hr => fin listed a w hsz hr p, fun i hi => ?_⟩
    obtain ⟨hun, o, ho, hall⟩ := mem_ready.1 hi
    have hil : i < listed.size := by rw [hsz]; exact (Array.getElem?_eq_some_iff.1 ho).1
    have hD : listed.getD i false = false := by
      rw [Array.getD_eq_getD_getElem?, Array.getElem?_eq_getElem hil] at hun ⊢
      simpa using hun
    have hready : ∀ k, Dep ops k i → listed.getD k false = true := by
      intro k hd
      generalize hii : i = i' at hd
      induction hd with
      | base a b ob e hob he hb hon =>
        subst hii
        rw [ho] at hob
        injection hob with hob
        subst hob
        rw [← hon]
        exact hall e he hb
      | trans a b c h1 h2 _ ih2 =>
        exact p.closed a b h1 (ih2 hii)
    refine Part.go dk hF0 hH0 tr p ho hD hready fun a' w' p' => ?_
    have hD' : ∀ k, (listed.setIfInBounds i true).getD k false = if k = i then true else listed.getD k false := by
      intro k
      by_cases hk : k = i
      · subst hk
        rw [Array.getD_eq_getD_getElem?, Array.getElem?_setIfInBounds_self_of_lt hil]
        simp
      · rw [Array.getD_eq_getD_getElem?, Array.getElem?_setIfInBounds_ne (Ne.symm hk), ← Array.getD_eq_getD_getElem?]
        simp [hk]
    have hcount : (listed.setIfInBounds i true).toList.count false + 1 = listed.toList.count false := by
      rw [Array.toList_setIfInBounds]
      have hli : listed.toList[i]? = some false := by
        rw [Array.getD_eq_getD_getElem?] at hD
        cases hx : listed[i]? with
        | none => rw [Array.getElem?_eq_getElem hil] at hx; cases hx
        | some b => rw [hx] at hD; simp at hD; subst hD; simpa using hx
      obtain ⟨hlt, heq⟩ := List.getElem?_eq_some_iff.1 hli
      rw [List.count_set hlt]
      rw [heq]
      have hpos : 0 < listed.toList.count false := List.count_pos_iff.2 (by rw [← heq]; exact List.getElem_mem hlt)
      have e1 : (if (false == false) = true then 1 else 0) = 1 := rfl
      have e2 : (if (true == false) = true then 1 else 0) = 0 := rfl
      rw [e1, e2]
      omega
    refine ih _ a' w' (by simp [hsz]) ?_ (by omega) ?_
    · intro h0
      have hcz : (listed.setIfInBounds i true).toList.count false = 0 := by omega
      cases hr : Region.ready .any ops (listed.setIfInBounds i true) with
      | nil => rfl
      | cons k ks =>
        have hk : k ∈ Region.ready .any ops (listed.setIfInBounds i true) := by rw [hr]; simp
        obtain ⟨hun', ok, hok, _⟩ := mem_ready.1 hk
        have hkl : k < (listed.setIfInBounds i true).size := by simp [hsz]; exact (Array.getElem?_eq_some_iff.1 hok).1
        rw [Array.getD_eq_getD_getElem?, Array.getElem?_eq_getElem hkl] at hun'
        simp only [Option.getD_some] at hun'
        have : false ∈ (listed.setIfInBounds i true).toList := by
          rw [← hun']
          exact Array.getElem_mem_toList hkl
        have := List.count_pos_iff.2 this
        omega
    · have hfun : (fun k => (listed.setIfInBounds i true).getD k false) = (fun k => if k = i then true else listed.getD k false) := funext hD'
      rw [hfun]
      exact p'

/-- A region in whatever order. -/
theorem AWP.region_draw {id : Nat} {Q : APost} (hm : P.follows .mixedOrders = true) (hd : drawOk ops = true) (hs : aops P gl N true ops ops.toList (Q .normal) fr h) : AWP P gl N (.region id ops true) Q fr h := by
  intro J a w r
  have dk := drawOk_spec hd
  obtain ⟨F, H, X, f1, f2, f3, f4⟩ := aops_trace ops.toList 0 fr h (by simp) hs
  simp only [Nat.zero_add, Array.length_toList] at f3 f4
  obtain ⟨hdr, evd⟩ := r.heap.drew
  refine wp_region_any hm ?_
  refine wpAny_of_part (F := F) (H := H) (X := X) (fr := fr) (h := h) (J0 := J) (w0 := w) dk f1 f2 (fun j o hj ho => f4 j o (Nat.zero_le _) hj ho) (Q := lift gl N h J w Q) ?_ ops.size _ a _ (by simp) ?_ (by simp) ?_
  · intro J' a' w' r' ev'
    exact ⟨J', F ops.size, H ops.size, r', ev', f3⟩
  · intro h0
    have : ops = #[] := Array.eq_empty_of_size_eq_zero h0
    subst this
    rfl
  · refine ⟨fun i j _ hj => ?_, 0, J, Nat.zero_le _, fun e o ho hae => ?_, ?_, ?_⟩
    · exfalso
      simp only [Array.getD_eq_getD_getElem?] at hj
      cases hx : (Array.replicate ops.size false)[j]? with
      | none => rw [hx] at hj; simp at hj
      | some b =>
        rw [hx] at hj
        rw [Array.getElem?_replicate] at hx
        split at hx <;> simp_all
    · have he : e < ops.size := (Array.getElem?_eq_some_iff.1 ho).1
      simp [he]
    · have hfd : ∀ n, FD ops X fr (fun i => (Array.replicate ops.size false).getD i false) n = fr := by
        intro n
        induction n with
        | zero => rfl
        | succ n ih =>
          simp only [FD]
          rw [if_neg, ih]
          intro hh
          simp only [Array.getD_eq_getD_getElem?] at hh
          cases hx : (Array.replicate ops.size false)[n]? with
          | none => rw [hx] at hh; simp at hh
          | some b =>
            rw [hx] at hh
            rw [Array.getElem?_replicate] at hx
            split at hx <;> simp_all
      rw [hfd, f2]
      exact ⟨r.size, r.defers, fun t => (r.tmps t).evo evd, hdr⟩
    · rw [f2]; exact evd
end
end Go.Abs
end

section 

namespace Go.Abs
open Go

def resV (P : Program) (h : AHeap) (fr : AFrame) : ResultVar → AV
  | .tmp t => fr t
  | .cell t ty => loadV P h ty (fr t)
def resOk (P : Program) (h : AHeap) (fr : AFrame) : ResultVar → Prop
  | .tmp _ => True
  | .cell t ty => (tinfo P ty).ok = true ∧ loadOk P h ty (fr t)
def resAll (P : Program) (h : AHeap) (fr : AFrame) : List ResultVar → AV
  | [r] => resV P h fr r
  | l => .tup (l.map (resV P h fr))

def rleaves (P : Program) (fn : Func) (R : AV → AHeap → Prop) : APost
  | .normal, fr, h | .ret, fr, h => (∀ r ∈ fn.results.toList, resOk P h fr r) ∧ R (resAll P h fr fn.results.toList) h
  | _, _, _ => False

section
variable {P : Program} {gl : Globs} {J : List Blk} {h : AHeap} {w : World} {fr : AFrame} {N : Nat}

def resS (tmps : Array Value) : ResultVar → Sem Value
  | .tmp t => pure (tmps.getD t undef)
  | .cell a t => do loadVar t (← asAddr (tmps.getD a undef))

theorem load_res (hh : HRel gl h J w) {t : TypeId} {x : AV} {u : Value} (hx : VRel J (Own h J) w x u) (ht : (tinfo P t).ok = true)
    (hok : loadOk P h t x) : ∃ v, (do loadVar t (← asAddr u)).run P w = .ok v w ∧ VRel J (Own h J) w (loadV P h t x) v := by
  unfold loadOk at hok
  unfold loadV
  split at hok
  · rename_i b i c
    obtain ⟨hi, hc⟩ := hok
    have hg : (hcells h b)[i]? = some ((hcells h b).getD i []) := by simp [List.getD, List.getElem?_eq_getElem hi]
    obtain ⟨k, hk, rfl, hl, hr⟩ := erow_ptr hh hx hg
    obtain ⟨v, hv, hvr⟩ := load_sound (P := P) ht hr hc
    exact ⟨v, by simp only [asAddr, Sem.run_bind, Sem.run_pure, Result.andThen_ok, hv], hvr⟩
  · rename_i es i c
    obtain ⟨hi, hc⟩ := hok
    have hg : es[i]? = some (es.getD i []) := by simp [List.getD, List.getElem?_eq_getElem hi]
    obtain ⟨a, rfl, hr⟩ := erow_rop hx hg
    obtain ⟨v, hv, hvr⟩ := load_sound (P := P) ht hr hc
    exact ⟨v, by simp only [asAddr, Sem.run_bind, Sem.run_pure, Result.andThen_ok, hv], hvr⟩
  · exact hok.elim

theorem res_one {a : Act} (r : ARel gl N J fr h a w) {x : ResultVar} (hok : resOk P h fr x) : ∃ v, (resS a.tmps x).run P w = .ok v w ∧ VRel J (Own h J) w (resV P h fr x) v := by
  cases x with
  | tmp t => exact ⟨_, by simp [resS], r.tmps t⟩
  | cell t ty => exact load_res r.heap (r.tmps t) hok.1 hok.2

theorem res_list {a : Act} (r : ARel gl N J fr h a w) : ∀ (l : List ResultVar), (∀ x ∈ l, resOk P h fr x) → ∃ vs, (l.mapM (resS a.tmps)).run P w = .ok vs w ∧ VRels J (Own h J) w (l.map (resV P h fr)) vs
  | [], _ => ⟨[], by simp, .nil⟩
  | x :: l, hok => by
    obtain ⟨v, h1, h2⟩ := res_one r (hok x (by simp))
    obtain ⟨vs, h3, h4⟩ := res_list r l fun y hy => hok y (by simp [hy])
    exact ⟨v :: vs, by simp [h1, h3], .cons h2 h4⟩

theorem res_sound {a : Act} {fn : Func} (r : ARel gl N J fr h a w) (hok : ∀ x ∈ fn.results.toList, resOk P h fr x) :
    ∃ v, (results fn a.tmps).run P w = .ok v w ∧ VRel J (Own h J) w (resAll P h fr fn.results.toList) v := by
  obtain ⟨vs, h1, h2⟩ := res_list (P := P) r fn.results.toList hok
  have hf : results fn a.tmps = ((fn.results.mapM (resS a.tmps)) >>= fun vs => pure (if h : vs.size = 1 then vs[0] else .tuple vs)) := by
    unfold results
    congr 1
  rw [hf, Array.mapM_eq_mapM_toList]
  simp only [Sem.run_bind, Sem.run_map, h1, Result.andThen_ok]
  generalize fn.results.toList = l at h2
  have hl := h2.1
  match l, vs, h2 with
  | [], [], h2 => exact ⟨_, rfl, .tup _ _ rfl VRels.nil.2⟩
  | [x], [v], h2 => exact ⟨_, rfl, h2.2 0 _ _ rfl rfl⟩
  | x :: y :: l, v :: u :: vs, h2 => exact ⟨.tuple (v :: u :: vs).toArray, rfl, .tup _ _ h2.1 h2.2⟩
  | [], _ :: _, h2 => simp at hl
  | [x], [], h2 => simp at hl
  | [x], _ :: _ :: _, h2 => simp at hl
  | _ :: _ :: _, [], h2 => simp at hl
  | _ :: _ :: _, [_], h2 => simp at hl

/-- A function's contract from its body. -/
theorem ACalls.of_body' {f : FuncId} {fn : Func} {c : Code} {args : List AV} {R : AV → AHeap → Prop} (hf : P.funcs[f]? = some fn) (hb : fn.body = some c) (hname : (fn.name == "runtime.NumGoroutine") = false)
    (hn : args.length ≤ fn.ntmps) (hc : AWP P gl fn.ntmps c (rleaves P fn R) (ainit args) h) : ACalls P gl f args h R := by
  refine ⟨⟨fn, hf, by simp [hb], hname⟩, fun J w vs hh hv => ?_⟩
  refine calls_of_wp hf hb ?_
  have hr : ARel gl fn.ntmps J (ainit args) h { tmps := vs.toArray ++ Array.replicate (fn.ntmps - vs.toArray.size) undef, defers := [] } w := by
    refine ⟨?_, rfl, fun t => ?_, hh⟩
    · have := hv.1
      simp; omega
    · unfold ainit
      rcases Nat.lt_or_ge t args.length with h1 | h1
      · have h2 : t < vs.length := by rw [← hv.1]; exact h1
        have e1 : args.getD t .junk = args[t] := by simp [List.getD, h1]
        have e2 : (vs.toArray ++ Array.replicate (fn.ntmps - vs.toArray.size) undef).getD t undef = vs[t] := by
          simp [Array.getD_eq_getD_getElem?, Array.getElem?_append, h2]
        rw [e1, e2]
        exact hv.2 t _ _ (List.getElem?_eq_getElem h1) (List.getElem?_eq_getElem h2)
      · have e1 : args.getD t .junk = .junk := by simp [List.getD, h1]
        rw [e1]
        exact .junk _
  refine wp_mono (hc J _ w hr) ?_
  rintro e a' w' ⟨J', fr', h', r', ev, q⟩
  cases e with
  | normal =>
    obtain ⟨hx, hR⟩ := q
    obtain ⟨v, hv1, hv2⟩ := res_sound (P := P) r' hx
    exact ⟨r'.defers, v, hv1, _, v, J', h', rfl, r'.heap, hv2, ev, hR⟩
  | ret =>
    obtain ⟨hx, hR⟩ := q
    obtain ⟨v, hv1, hv2⟩ := res_sound (P := P) r' hx
    exact ⟨r'.defers, v, hv1, _, v, J', h', rfl, r'.heap, hv2, ev, hR⟩
  | _ => exact q.elim
end
end Go.Abs
end
