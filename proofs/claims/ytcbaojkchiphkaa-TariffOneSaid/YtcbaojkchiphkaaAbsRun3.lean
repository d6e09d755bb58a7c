/-
  A region's operations, one after the other, over the abstract state; a piece of code over the abstract state, as a Prop that a simp unfolds.
-/
import Derived.Test.YtcbaojkchiphkaaAbsRun2
set_option linter.unusedVariables false
set_option linter.unusedSimpArgs false
namespace Go.Abs
open Go

def acallV (P : Program) (gl : Globs) (f : AV) (args : List AV) (h : AHeap) (R : AV → AHeap → Prop) : Prop := match f with
  | .fn (.func fn) first caps => ACalls P gl fn (first ++ args ++ caps) h R
  | _ => False

/-- A call and what follows: quietly, or (where 'q' is false) in whatever way. -/
def callS (P : Program) (gl : Globs) (q : Bool) (g : Option (Nat × Bool)) (G : Bool) (f : AV) (args : List AV) (h : AHeap) (c : AV → AHeap → Prop) : Prop :=
  (∃ r, (G = true → acallV P gl f args h (fun x h' => x = r ∧ h' = h)) ∧ c (wrapG g G r) h) ∨
  (q = false ∧ (G = true → acallV P gl f args h c) ∧ (G = false → c .junk h))

def nilQ (k : TK) (x y : AV) (c : Bool → Prop) : Prop := match k, x, y with
  | .slice _, .ro es, .nil => ∀ b : Bool, (es ≠ [] → b = false) → c b
  | _, _, _ => False

theorem nilQ_sound {P : Program} {J : List Blk} {O : Nat → Prop} {w : World} {t : TypeId} {X Y : Operand} {x y : AV} {u v : Value} (hx : VRel J O w x u) (hy : VRel J O w y v) {c : Bool → Prop} (hok : nilQ (tinfo P t).kind x y c) :
    ∃ b, c b ∧ (do eqGuard .eql t X Y u v; binOp .eql t u v).run P w = .ok (.bool b) w ∧ (do eqGuard .neq t X Y u v; binOp .neq t u v).run P w = .ok (.bool !b) w := by
  unfold nilQ at hok
  split at hok
  · rename_i e es hk
    have hu := (kind_slice hk).1
    cases hy
    simp only [eqGuard_at_slice, Sem.run_bind, Sem.run_pure, Result.andThen_ok]
    cases hx with
    | roNil =>
      have := run_eql_slices (P := P) w t (none, 0, 0) (none, 0, 0) true (fun d => by simp only [Op.equalIn, Sem.run_bind, run_underlying hu, Result.andThen_ok]; rfl)
      exact ⟨true, hok true (by simp), this.1, this.2⟩
    | ro es a n cap f =>
      have := run_eql_slices (P := P) w t (some a, es.length, cap) (none, 0, 0) false (fun d => by simp only [Op.equalIn, Sem.run_bind, run_underlying hu, Result.andThen_ok]; rfl)
      exact ⟨false, hok false (by simp), this.1, this.2⟩
  · exact hok.elim

def dstB (N : Nat) : Option Tmp → Bool
  | none => true
  | some d => d < N

def allGd (gl : Globs) (fr : AFrame) (l : List Operand) : Prop := ∀ y ∈ l, (ev gl fr y).gd = true

def isNilV : Value → Bool
  | .slice none 0 0 => true
  | _ => false
def isNilC : Operand → Bool
  | .const v => isNilV v
  | _ => false
/-- A comparison with nil, as the text writes it. -/
def nilOp : Op → Bool
  | .binOp o _ _ y _ => match o with
    | .eql => isNilC y
    | .neq => isNilC y
    | _ => false
  | _ => false

/-- A slice that is only read, held against nil: an empty one may be either. -/
def nilCmp (P : Program) (gl : Globs) (fr : AFrame) (h : AHeap) (c : AV → AHeap → Prop) : Op → Prop
  | .binOp o t x y _ => match o with
    | .eql => (ev gl fr x).gd = true ∧ (ev gl fr y).gd = true ∧ nilQ (tinfo P t).kind (ev gl fr x).core (ev gl fr y).core fun b => c (.bool b) h
    | .neq => (ev gl fr x).gd = true ∧ (ev gl fr y).gd = true ∧ nilQ (tinfo P t).kind (ev gl fr x).core (ev gl fr y).core fun b => c (.bool !b) h
    | _ => False
  | _ => False

/-- One operation and what follows, the guard known. -/
def gstep (P : Program) (gl : Globs) (q : Bool) (fr : AFrame) (h : AHeap) (g : Option (Nat × Bool)) (G : Bool) (c : AV → AHeap → Prop) (op : Op) : Prop := match op with
  | .call k => match k.callee with
    | .value f => (G = true → (ev gl fr f).gd = true ∧ allGd gl fr k.args.toList) ∧ callS P gl q g G (ev gl fr f).core (k.args.toList.map fun y => (ev gl fr y).core) h c
    | .builtin b => match isEffB b with
      | true => (G = true → allGd gl fr k.args.toList ∧ effBP P h k.argTypes.toList c b (k.args.toList.map fun y => (ev gl fr y).core)) ∧ (G = false → c .junk h)
      | false => (G = true → allGd gl fr k.args.toList ∧ builtinOk P h b k.argTypes.toList (k.args.toList.map fun y => (ev gl fr y).core)) ∧ c (wrapG g G (builtinV h b (k.args.toList.map fun y => (ev gl fr y).core))) h
    | .invoke _ _ => False
  | op => match isEff op with
    | true => (G = true → effP P gl fr h c op) ∧ (G = false → c .junk h)
    | false => match nilOp op && !q with
      | true => ((G = true → vok P gl fr h op) ∧ c (wrapG g G (vval P gl fr h op)) h) ∨ (g = none ∧ G = true ∧ nilCmp P gl fr h c op)
      | false => (G = true → vok P gl fr h op) ∧ c (wrapG g G (vval P gl fr h op)) h

/-- What follows an outcome. -/
def acont (k : AFrame → AHeap → Prop) (fr : AFrame) (d : Option Tmp) (x : AV) (h : AHeap) : Prop := k (setd fr d x) h

/-- One operation and what follows. -/
def astep (P : Program) (gl : Globs) (N : Nat) (q : Bool) (ops : Array Oper) (o : Oper) (fr : AFrame) (h : AHeap) (k : AFrame → AHeap → Prop) : Prop := match agd ops fr o with
  | none => False
  | some G => dstB N o.dst = true ∧ gstep P gl q fr h o.guard G (acont k fr o.dst) o.op

def aops (P : Program) (gl : Globs) (N : Nat) (q : Bool) (ops : Array Oper) : List Oper → (AFrame → AHeap → Prop) → AFrame → AHeap → Prop
  | [], K, fr, h => K fr h
  | o :: l, K, fr, h => astep P gl N q ops o fr h (aops P gl N q ops l K)

section
variable {P : Program} {gl : Globs} {J : List Blk} {h : AHeap} {w : World} {fr : AFrame} {N : Nat} {ops : Array Oper}

/-- An operation that makes nothing of the heap and turns nothing. -/
def freeB : Op → Bool
  | .move _ | .assign _ | .pick .. | .build .. | .nilCheck _ | .binOp .. | .unOp .. | .convert .. | .makeInterface .. | .makeFunc .. | .fieldAddr .. | .field .. | .index .. | .extract .. => true
  | _ => false
/-- An operation that may turn the heap. -/
def actB : Op → Bool
  | .call { callee := .builtin b, .. } => isEffB b
  | .call _ => false
  | op => isEff op

/-- What a quiet step gives: the outcome, and how it hangs on the heap. -/
theorem astep_det {o : Oper} {k : AFrame → AHeap → Prop} (hs : astep P gl N true ops o fr h k) :
    ∃ x h', (∀ d, o.dst = some d → d < N) ∧ StepOK P gl N ops o fr h x h' ∧ (freeB o.op = true → ∀ h0, StepOK P gl N ops o fr h0 x h0) ∧ (actB o.op = false → h' = h) ∧ k (setd fr o.dst x) h' := by
  unfold astep at hs
  split at hs
  · exact hs.elim
  · rename_i G hg
    obtain ⟨hd, hs⟩ := hs
    have hd' : ∀ d, o.dst = some d → d < N := by
      intro d he
      rw [he] at hd
      simpa [dstB] using hd
    by_cases hcall : ∃ c, o.op = .call c
    · obtain ⟨c, hop⟩ := hcall
      obtain ⟨callee, args, ats⟩ := c
      rw [hop] at hs
      simp only [gstep] at hs
      cases callee with
      | invoke r m => exact hs.elim
      | value f =>
        simp only at hs
        obtain ⟨hgd, hc⟩ := hs
        rcases hc with ⟨r, h1, h2⟩ | ⟨h0, _⟩
        · refine ⟨_, h, hd', ?_, by simp [hop, freeB], fun _ => rfl, h2⟩
          cases G with
          | true =>
            have h1' := h1 rfl
            unfold acallV at h1'
            split at h1'
            · rename_i fn first caps hf
              exact StepOK.call hop hg (fun _ => ⟨(hgd rfl).1, hf⟩) (fun _ => (hgd rfl).2) (fun _ => h1')
            · exact h1'.elim
          | false =>
            intro J a w Q hh hr
            have hw := agd_sound (fun t ht => hr t (mem_looks_g ht)) hg
            rw [hw]
            exact ⟨by simp, fun _ => ⟨rfl, vrel_wrapG_false (agd_none hg)⟩⟩
        · cases h0
      | builtin b =>
        simp only at hs
        cases hb : isEffB b with
        | true =>
          rw [hb] at hs
          obtain ⟨h1, h2⟩ := hs
          cases G with
          | true =>
            obtain ⟨g1, g2⟩ := h1 rfl
            obtain ⟨x, h', p1, p2⟩ := StepOK.effB (N := N) hop hg g1 g2
            exact ⟨x, h', hd', p2, by simp [hop, freeB], by simp [hop, actB, hb], p1⟩
          | false => exact ⟨.junk, h, hd', StepOK.idle hg, by simp [hop, freeB], fun _ => rfl, h2 rfl⟩
        | false =>
          rw [hb] at hs
          obtain ⟨h1, h2⟩ := hs
          exact ⟨_, h, hd', StepOK.valB hop hg (fun e => (h1 e).1) (fun e => (h1 e).2), by simp [hop, freeB], fun _ => rfl, h2⟩
    · have hgs : gstep P gl true fr h o.guard G (acont k fr o.dst) o.op = (match isEff o.op with
          | true => (G = true → effP P gl fr h (acont k fr o.dst) o.op) ∧ (G = false → acont k fr o.dst .junk h)
          | false => (G = true → vok P gl fr h o.op) ∧ acont k fr o.dst (wrapG o.guard G (vval P gl fr h o.op)) h) := by
        unfold gstep
        split
        · rename_i c hc; exact absurd ⟨c, hc⟩ hcall
        · cases isEff o.op <;> simp
      rw [hgs] at hs
      have hact : actB o.op = isEff o.op := by
        unfold actB
        split
        · rename_i hc; exact absurd ⟨_, hc⟩ hcall
        · rename_i hc; exact absurd ⟨_, hc⟩ hcall
        · rfl
      cases hb : isEff o.op with
      | true =>
        rw [hb] at hs
        obtain ⟨h1, h2⟩ := hs
        have hfree : freeB o.op = false := by cases hop : o.op <;> simp [hop, isEff] at hb <;> rfl
        cases G with
        | true =>
          obtain ⟨x, h', p1, p2⟩ := StepOK.eff (N := N) hg (h1 rfl)
          exact ⟨x, h', hd', p2, by simp [hfree], by simp [hact, hb], p1⟩
        | false => exact ⟨.junk, h, hd', StepOK.idle hg, by simp [hfree], fun _ => rfl, h2 rfl⟩
      | false =>
        rw [hb] at hs
        obtain ⟨h1, h2⟩ := hs
        refine ⟨_, h, hd', StepOK.value hg h1, ?_, fun _ => rfl, h2⟩
        intro hf h0
        have e1 : vval P gl fr h o.op = vval P gl fr h0 o.op := by
          cases hop : o.op <;> simp [hop, freeB] at hf <;> simp only [vval]
        have e2 : G = true → vok P gl fr h0 o.op := by
          intro hG
          have := h1 hG
          cases hop : o.op <;> simp [hop, freeB] at hf <;> rw [hop] at this <;> simpa only [vok] using this
        rw [e1]
        exact StepOK.value hg e2
end
end Go.Abs
