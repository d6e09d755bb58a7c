/-
  One operation over the abstract state; a region in the text's order, and in whatever order.
-/
import Derived.Test.YtcbaojkchiphkaaAbsHop4
set_option linter.unusedVariables false
set_option linter.unusedSimpArgs false
namespace Go.Abs
open Go

section
variable {P : Program} {gl : Globs} {J : List Blk} {h : AHeap} {w : World} {fr : AFrame} {N : Nat} {ops : Array Oper}

/-- An operation's guard in the abstract frame. -/
def agd (ops : Array Oper) (fr : AFrame) (o : Oper) : Option Bool := match o.guard with
  | none => some true
  | some (j, want) => match (ops[j]?).bind (·.dst) with
    | some d => match fr d with
      | .bool b => some (b == want)
      | .opt g (.bool b) => some (g && (b == want))
      | _ => none
    | none => some false

theorem getD_tmps {a : Act} {d : Nat} {v : Value} (h : a.tmps.getD d undef = v) (hv : v ≠ undef) : a.tmps[d]? = some v := by
  rw [Array.getD_eq_getD_getElem?] at h
  cases hh : a.tmps[d]? with
  | none => rw [hh] at h; exact absurd h.symm hv
  | some u => rw [hh] at h; simp at h; rw [h]

/-- The temporaries that a guard asks. -/
def gtmp (ops : Array Oper) (o : Oper) : List Tmp := match o.guard with
  | none => []
  | some (j, _) => match (ops[j]?).bind (·.dst) with
    | some d => [d]
    | none => []
/-- The temporaries that an operation looks at. -/
def looks (ops : Array Oper) (o : Oper) : List Tmp := (o.op.operands.toList.filterMap fun x => match x with | .tmp t => some t | _ => none) ++ gtmp ops o

theorem agd_sound {O : Nat → Prop} {o : Oper} {G : Bool} {a : Act} (hr : ∀ t ∈ gtmp ops o, VRel J O w (fr t) (a.tmps.getD t undef)) (hg : agd ops fr o = some G) : Region.wanted o (yielded ops a.tmps) = G := by
  unfold agd at hg
  unfold Region.wanted
  split at hg
  · rename_i hgd
    injection hg with hg
    simp [hgd, hg]
  · rename_i j want hgd
    simp only [hgd]
    unfold yielded
    split at hg
    · rename_i d hd
      have hr' := hr d (by simp [gtmp, hgd, hd])
      rw [hd]
      simp only [Option.bind_some]
      split at hg
      · rename_i b hb
        rw [hb] at hr'
        generalize hv : a.tmps.getD d undef = v at hr'
        cases hr'
        rw [getD_tmps hv (by simp [undef])]
        simpa using hg
      · rename_i g b hb
        rw [hb] at hr'
        generalize hv : a.tmps.getD d undef = v at hr'
        cases hr' with
        | opt _ _ _ h1 h0 =>
          cases g with
          | true =>
            have h1' := h1 rfl
            cases h1'
            rw [getD_tmps hv (by simp [undef])]
            simpa using hg
          | false =>
            have h0' := h0 rfl
            simp at hg
            subst hg
            rw [Array.getD_eq_getD_getElem?] at hv
            cases hh : a.tmps[d]? with
            | none => simp
            | some u =>
              rw [hh] at hv
              simp at hv
              subst hv
              rw [h0']
              simp [undef]
      · cases hg
    · rename_i hd
      rw [hd]
      injection hg

theorem mem_looks_op {o : Oper} {t : Tmp} (h : Operand.tmp t ∈ o.op.operands) : t ∈ looks ops o :=
  List.mem_append.2 (.inl (List.mem_filterMap.2 ⟨.tmp t, by simpa using h, rfl⟩))
theorem mem_looks_g {o : Oper} {t : Tmp} (h : t ∈ gtmp ops o) : t ∈ looks ops o := List.mem_append.2 (.inr h)

/-- WHAT ONE OPERATION DOES: whoever carries it out, in whatever state that shows the abstract one as far as it looks, gets a value and a world that show the outcome. -/
def StepOK (P : Program) (gl : Globs) (N : Nat) (ops : Array Oper) (o : Oper) (fr : AFrame) (h : AHeap) (x : AV) (h' : AHeap) : Prop :=
  ∀ (J : List Blk) (a : Act) (w : World) (Q : Exit → Act → World → Prop), HRel gl h J w → (∀ t ∈ looks ops o, VRel J (Own h J) w (fr t) (a.tmps.getD t undef)) →
    (Region.wanted o (yielded ops a.tmps) = true → o.wp P a w (fun a' w' => ∃ v J', a' = a.put o.dst v ∧ HRel gl h' J' w' ∧ VRel J' (Own h' J') w' x v ∧ Evo h J w h' J' w') Q) ∧
    (Region.wanted o (yielded ops a.tmps) = false → h' = h ∧ VRel J (Own h J) w x undef)

/-- The value of an operation that has a guard. -/
def wrapG : Option (Nat × Bool) → Bool → AV → AV
  | none, _, x => x
  | some _, g, x => .opt g x

theorem vrel_wrapG {O : Nat → Prop} {g : Option (Nat × Bool)} {x : AV} {v : Value} (h : VRel J O w x v) : VRel J O w (wrapG g true x) v := by
  cases g with
  | none => exact h
  | some p => exact .opt true x v (fun _ => h) (by simp)
theorem vrel_wrapG_false {O : Nat → Prop} {g : Option (Nat × Bool)} {x : AV} (hg : g ≠ none) : VRel J O w (wrapG g false x) undef := by
  cases g with
  | none => exact absurd rfl hg
  | some p => exact .opt false x undef (by simp) (fun _ => rfl)

theorem agd_none {o : Oper} (h : agd ops fr o = some false) : o.guard ≠ none := by
  intro hg
  simp [agd, hg] at h

theorem ev_at {O : Nat → Prop} (hh : HRel gl h J w) {o : Oper} {a : Act} (hr : ∀ t ∈ looks ops o, VRel J (Own h J) w (fr t) (a.tmps.getD t undef)) : ∀ x ∈ o.op.operands, VRel J (Own h J) w (ev gl fr x) (a.eval x) :=
  fun x hx => ev_sound hh fun t ht => hr t (mem_looks_op (by rw [← ht]; exact hx))

theorem StepOK.value {o : Oper} {G : Bool} (hg : agd ops fr o = some G) (hok : G = true → vok P gl fr h o.op) : StepOK P gl N ops o fr h (wrapG o.guard G (vval P gl fr h o.op)) h := by
  intro J a w Q hh hr
  have hw := agd_sound (fun t ht => hr t (mem_looks_g ht)) hg
  rw [hw]
  refine ⟨?_, ?_⟩
  · rintro rfl
    obtain ⟨v, h1, h2⟩ := vop_sound (P := P) hh (ev_at (O := Own h J) hh hr) (hok rfl)
    unfold Oper.wp
    rw [h1]
    exact ⟨v, J, rfl, hh, vrel_wrapG h2, Evo.refl _ _ _⟩
  · rintro rfl
    exact ⟨rfl, vrel_wrapG_false (agd_none hg)⟩

/-- An operation that hands back a value and turns the heap. -/
theorem StepOK.steps1 {o : Oper} {x : AV} {h' : AHeap} (hg : agd ops fr o = some true)
    (hs : ∀ (J : List Blk) (a : Act) (w : World), HRel gl h J w → (∀ y ∈ o.op.operands, VRel J (Own h J) w (ev gl fr y) (a.eval y)) → ∃ s : Sem Value, (execOp a.eval o).run P w = (s.run P w).andThen (fun v w' => .ok (.value v) w') ∧ Steps1 P gl h J w s (fun x' h'' => x' = x ∧ h'' = h')) :
    StepOK P gl N ops o fr h x h' := by
  intro J a w Q hh hr
  have hw := agd_sound (fun t ht => hr t (mem_looks_g ht)) hg
  rw [hw]
  refine ⟨fun _ => ?_, by simp⟩
  obtain ⟨s, e, v, w', J', x', h'', h1, h2, h3, h4, h5, h6⟩ := hs J a w hh (ev_at (O := Own h J) hh hr)
  subst h5; subst h6
  unfold Oper.wp
  rw [e, h1]
  exact ⟨v, J', rfl, h2, h3, h4⟩

theorem StepOK.steps0 {o : Oper} {h' : AHeap} (hg : agd ops fr o = some true)
    (hs : ∀ (J : List Blk) (a : Act) (w : World), HRel gl h J w → (∀ y ∈ o.op.operands, VRel J (Own h J) w (ev gl fr y) (a.eval y)) → ∃ s : Sem Unit, (execOp a.eval o).run P w = (s.run P w).andThen (fun _ w' => .ok .skip w') ∧ Steps0 P gl h J w s (fun h'' => h'' = h')) :
    StepOK P gl N ops o fr h .junk h' := by
  intro J a w Q hh hr
  have hw := agd_sound (fun t ht => hr t (mem_looks_g ht)) hg
  rw [hw]
  refine ⟨fun _ => ?_, by simp⟩
  obtain ⟨s, e, w', J', h'', h1, h2, h3, h4⟩ := hs J a w hh (ev_at (O := Own h J) hh hr)
  subst h4
  unfold Oper.wp
  rw [e, h1]
  exact ⟨undef, J', rfl, h2, .junk _, h3⟩

/-- An operation that does not run. -/
theorem StepOK.idle {o : Oper} (hg : agd ops fr o = some false) : StepOK P gl N ops o fr h .junk h := by
  intro J a w Q hh hr
  have hw := agd_sound (fun t ht => hr t (mem_looks_g ht)) hg
  rw [hw]
  exact ⟨by simp, fun _ => ⟨rfl, .junk _⟩⟩

/-- A call of a Go function that leaves the abstract heap alone. -/
theorem StepOK.call {o : Oper} {G : Bool} {x : AV} {f : Operand} {args : Array Operand} {ats : Array TypeId} {fn : FuncId} {first caps : List AV} (ho : o.op = .call { callee := .value f, args, argTypes := ats }) (hg : agd ops fr o = some G)
    (hf : G = true → (ev gl fr f).gd = true ∧ (ev gl fr f).core = .fn (.func fn) first caps) (ha : G = true → ∀ y ∈ args.toList, (ev gl fr y).gd = true)
    (hc : G = true → ACalls P gl fn (first ++ args.toList.map (fun y => (ev gl fr y).core) ++ caps) h (fun x' h' => x' = x ∧ h' = h)) :
    StepOK P gl N ops o fr h (wrapG o.guard G x) h := by
  intro J a w Q hh hr
  have hw := agd_sound (fun t ht => hr t (mem_looks_g ht)) hg
  rw [hw]
  refine ⟨?_, ?_⟩
  · rintro rfl
    have hev := ev_at (O := Own h J) hh hr
    obtain ⟨hf1, hf2⟩ := hf rfl
    have hop : o.op.operands = #[f] ++ args := by rw [ho]; rfl
    have rf := (hev f (by rw [hop]; simp)).core hf1
    rw [hf2] at rf
    have rargs := vrels_map (a := a) (J := J) (O := Own h J) (w := w) (gl := gl) (fr := fr) args.toList (fun y hy => hev y (by rw [hop]; simpa using Or.inr hy)) (ha rfl)
    obtain ⟨⟨fd, hfd, hbody, hname⟩, hcalls⟩ := hc rfl
    generalize hfv : a.eval f = vf at rf
    cases rf with
    | fn _ _ _ vfs vcs l1 l2 r1 r2 =>
      have hvs : VRels J (Own h J) w (first ++ args.toList.map (fun y => (ev gl fr y).core) ++ caps) (vfs ++ args.toList.map a.eval ++ vcs) := VRels.append (VRels.append ⟨l1, r1⟩ rargs) ⟨l2, r2⟩
      have hrun : (execOp a.eval o).run P w = .ok (.enter fn (vfs ++ args.toList.map a.eval ++ vcs).toArray) w := by
        unfold execOp
        rw [ho]
        simp only [resolve, hfv, Deferred.ofValue, Sem.run_bind, Sem.run_pure, Result.andThen_ok, invoke, callFunc, run_program, hfd, hname, Bool.false_eq_true, if_false]
        have hb2 : fd.body.isNone = false := by cases hbb : fd.body with | none => simp [hbb] at hbody | some c => rfl
        simp only [hb2, Bool.false_eq_true, if_false, Sem.run_pure]
        congr 2
        apply Array.ext'
        simp
      unfold Oper.wp
      rw [hrun]
      simp only [Oper.upon]
      refine Calls.mono' (hcalls J w _ hh hvs) ?_
      rintro e w' ⟨x', v, J', h', rfl, q1, q2, q3, rfl, rfl⟩
      exact ⟨v, J', rfl, q1, vrel_wrapG q2, q3⟩
  · rintro rfl
    exact ⟨rfl, vrel_wrapG_false (agd_none hg)⟩
end
end Go.Abs
