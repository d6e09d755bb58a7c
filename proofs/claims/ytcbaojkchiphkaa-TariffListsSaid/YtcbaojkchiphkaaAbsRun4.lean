/-
  A region in the text's order; a region in whatever order.
-/
import Derived.Test.YtcbaojkchiphkaaAbsRun3
set_option linter.unusedVariables false
set_option linter.unusedSimpArgs false
namespace Go.Abs
open Go

section
variable {P : Program} {gl : Globs} {J : List Blk} {h : AHeap} {w : World} {fr : AFrame} {N : Nat} {ops : Array Oper}

def AOnly (K : AFrame → AHeap → Prop) : APost
  | .normal, fr, h => K fr h
  | _, _, _ => False

/-! ### In the text's order -/

def wpL (P : Program) (ops : Array Oper) (Q : Exit → Act → World → Prop) : List Oper → Act → World → Prop
  | [], a, w => Q .normal a w
  | o :: l, a, w => if Region.wanted o (yielded ops a.tmps) then o.wp P a w (wpL P ops Q l) Q else wpL P ops Q l (a.put o.dst undef) w

theorem wpOps_of_wpL {Q : Exit → Act → World → Prop} : ∀ (l : List Oper) (i : Nat) (a : Act) (w : World), (∀ j, l[j]? = ops[i + j]?) → wpL P ops Q l a w → wpOps P ops Q (List.range' i l.length) a w
  | [], i, a, w, _, hw => by simpa [wpOps, wpL] using hw
  | o :: l, i, a, w, hl, hw => by
    have h0 : ops[i]? = some o := by simpa using (hl 0).symm
    have hrest : ∀ a w, wpL P ops Q l a w → wpOps P ops Q (List.range' (i + 1) l.length) a w := fun a w => wpOps_of_wpL l (i + 1) a w (fun j => by have := hl (j + 1); simpa [Nat.add_assoc, Nat.add_comm 1 j] using this)
    simp only [List.length_cons, List.range'_succ, wpOps, h0]
    simp only [wpL] at hw
    split
    · rename_i hwt
      rw [if_pos hwt] at hw
      exact .inl (Oper.wp_mono hrest hw)
    · rename_i hwt
      rw [if_neg hwt] at hw
      exact hrest _ _ hw

theorem evo_same {J' : List Blk} {h' : AHeap} {w' : World} (ev : Evo h J w h' J' w') {a : Act} (r : ARel gl N J fr h a w) (hh' : HRel gl h' J' w') {dst : Option Tmp} {x : AV} {v : Value} (hd : ∀ d, dst = some d → d < N) (hv : VRel J' (Own h' J') w' x v) :
    ARel gl N J' (setd fr dst x) h' (a.put dst v) w' :=
  ARel.put (J := J') (h := h') ⟨r.size, r.defers, fun t => (r.tmps t).evo ev, hh'⟩ hd hv

theorem aops_wpL {K : AFrame → AHeap → Prop} : ∀ (l : List Oper) (fr : AFrame) (h : AHeap), aops P gl N false ops l K fr h → ∀ (J : List Blk) (a : Act) (w : World), ARel gl N J fr h a w → wpL P ops (lift gl N h J w (AOnly K)) l a w
  | [], fr, h, hs, J, a, w, r => ⟨J, fr, h, r, Evo.refl _ _ _, hs⟩
  | o :: l, fr, h, hs, J, a, w, r => by
    have tail : ∀ (x : AV) (h' : AHeap) (J' : List Blk) (v : Value) (w' : World), (∀ d, o.dst = some d → d < N) → HRel gl h' J' w' → VRel J' (Own h' J') w' x v → Evo h J w h' J' w' → aops P gl N false ops l K (setd fr o.dst x) h' →
        wpL P ops (lift gl N h J w (AOnly K)) l (a.put o.dst v) w' := by
      intro x h' J' v w' hd h1 h2 h3 h4
      have := aops_wpL l _ _ h4 J' _ _ (evo_same h3 r h1 hd h2)
      have mono : ∀ (l : List Oper) (a : Act) (w0 : World), wpL P ops (lift gl N h' J' w' (AOnly K)) l a w0 → wpL P ops (lift gl N h J w (AOnly K)) l a w0 := by
        intro l
        induction l with
        | nil => intro a w0 hw; exact lift_evo h3 hw
        | cons o l ih =>
          intro a w0 hw
          simp only [wpL] at hw ⊢
          split
          · rename_i hwt
            rw [if_pos hwt] at hw
            -- the operation's own ways out
            have : o.wp P a w0 (wpL P ops (lift gl N h J w (AOnly K)) l) (lift gl N h' J' w' (AOnly K)) := Oper.wp_mono ih hw
            unfold Oper.wp at this ⊢
            generalize (execOp a.eval o).run P w0 = res at this ⊢
            cases res with
            | ok nx w1 =>
              cases nx <;> simp only [Oper.upon] at this ⊢ <;> try exact this
              refine Calls.mono' this ?_
              intro e w2 he
              cases e <;> first | exact he | exact lift_evo h3 he | (obtain ⟨a', w', q⟩ := he; exact ⟨a', w', lift_evo h3 q⟩)
            | halt x w1 => cases x <;> simp only [Oper.upon] at this ⊢ <;> first | exact this | exact lift_evo h3 this
          · rename_i hwt
            rw [if_neg hwt] at hw
            exact ih _ _ hw
      exact mono _ _ _ this
    -- one step
    simp only [aops] at hs
    by_cases hq : astep P gl N true ops o fr h (aops P gl N false ops l K)
    · obtain ⟨x, h', hd, hst, _, _, hk⟩ := astep_det hq
      obtain ⟨s1, s2⟩ := hst J a w (lift gl N h J w (AOnly K)) r.heap (fun t _ => r.tmps t)
      simp only [wpL]
      split
      · rename_i hwt
        refine Oper.wp_mono ?_ (s1 hwt)
        rintro a' w' ⟨v, J', rfl, q1, q2, q3⟩
        exact tail x h' J' v w' hd q1 q2 q3 hk
      · rename_i hwt
        obtain ⟨rfl, q2⟩ := s2 (by simpa using hwt)
        exact tail x h' J undef w hd r.heap q2 (Evo.refl _ _ _) hk
    · -- a call that is not quiet
      unfold astep at hs hq
      split at hs
      · exact hs.elim
      · rename_i G hg
        rw [hg] at hq
        simp only at hq
        obtain ⟨hdb, hs⟩ := hs
        have hd : ∀ d, o.dst = some d → d < N := by
          intro d he
          rw [he] at hdb
          simpa [dstB] using hdb
        have hw := agd_sound (fun t _ => r.tmps t) hg
        by_cases hcall : ∃ f args ats, o.op = .call { callee := .value f, args, argTypes := ats }
        · obtain ⟨f, args, ats, hop⟩ := hcall
          rw [hop] at hs hq
          simp only [gstep] at hs hq
          obtain ⟨hgd, hc⟩ := hs
          rcases hc with hc | ⟨_, hc1, hc2⟩
          · exact absurd ⟨hdb, hgd, .inl hc⟩ hq
          · simp only [wpL]
            split
            · rename_i hwt
              rw [hw] at hwt
              subst hwt
              have hc1' := hc1 rfl
              unfold acallV at hc1'
              split at hc1'
              · rename_i fn first caps hf
                obtain ⟨hgf, hga⟩ := hgd rfl
                have hev := ev_at (O := Own h J) r.heap (fun t (_ : t ∈ looks ops o) => r.tmps t)
                have hopp : o.op.operands = #[f] ++ args := by rw [hop]; rfl
                have rf := (hev f (by rw [hopp]; simp)).core hgf
                rw [hf] at rf
                have rargs := vrels_map (a := a) (J := J) (O := Own h J) (w := w) (gl := gl) (fr := fr) args.toList (fun y hy => hev y (by rw [hopp]; simpa using Or.inr hy)) hga
                obtain ⟨⟨fd, hfd, hbody, hname⟩, hcalls⟩ := hc1'
                generalize hfv : a.eval f = vf at rf
                cases rf with
                | fn _ _ _ vfs vcs l1 l2 r1 r2 =>
                  have hvs := VRels.append (VRels.append ⟨l1, r1⟩ rargs) ⟨l2, r2⟩
                  have hrun : (execOp a.eval o).run P w = .ok (.enter fn (vfs ++ args.toList.map a.eval ++ vcs).toArray) w := by
                    unfold execOp
                    rw [hop]
                    simp only [resolve, hfv, Deferred.ofValue, Sem.run_bind, Sem.run_pure, Result.andThen_ok, invoke, callFunc, run_program, hfd, hname, Bool.false_eq_true, if_false]
                    have hb2 : fd.body.isNone = false := by cases hbb : fd.body with | none => simp [hbb] at hbody | some c => rfl
                    simp only [hb2, Bool.false_eq_true, if_false, Sem.run_pure]
                    congr 2
                    apply Array.ext'
                    simp
                  unfold Oper.wp
                  rw [hrun]
                  simp only [Oper.upon]
                  refine Calls.mono' (hcalls J w _ r.heap hvs) ?_
                  rintro e w' ⟨x', v, J', h', rfl, q1, q2, q3, q4⟩
                  exact tail x' h' J' v w' hd q1 q2 q3 q4
              · exact hc1'.elim
            · rename_i hwt
              rw [hw] at hwt
              have hG : G = false := by simpa using hwt
              exact tail .junk h J undef w hd r.heap (.junk _) (Evo.refl _ _ _) (hc2 hG)
        by_cases hnil : o.guard = none ∧ G = true ∧ nilCmp P gl fr h (acont (aops P gl N false ops l K) fr o.dst) o.op
        · obtain ⟨hgn, hG, hnil⟩ := hnil
          subst hG
          simp only [wpL]
          rw [hw, if_pos rfl]
          have hev := ev_at (O := Own h J) r.heap (fun t (_ : t ∈ looks ops o) => r.tmps t)
          unfold nilCmp at hnil
          split at hnil
          · rename_i o' t x y ty hop
            have hopp : o.op.operands = #[x, y] := by rw [hop]; rfl
            split at hnil
            · obtain ⟨gx, gy, hok⟩ := hnil
              obtain ⟨b, hc, hrun, _⟩ := nilQ_sound (X := x) (Y := y) ((hev x (by rw [hopp]; simp)).core gx) ((hev y (by rw [hopp]; simp)).core gy) hok
              have hx : (execOp a.eval o).run P w = .ok (.value (.bool b)) w := by
                unfold execOp
                rw [hop]
                simp only [Sem.run_bind] at hrun ⊢
                simp [hrun]
              unfold Oper.wp
              rw [hx]
              exact tail (.bool b) h J (.bool b) w hd r.heap (.bool b) (Evo.refl _ _ _) hc
            · obtain ⟨gx, gy, hok⟩ := hnil
              obtain ⟨b, hc, _, hrun⟩ := nilQ_sound (X := x) (Y := y) ((hev x (by rw [hopp]; simp)).core gx) ((hev y (by rw [hopp]; simp)).core gy) hok
              have hx : (execOp a.eval o).run P w = .ok (.value (.bool !b)) w := by
                unfold execOp
                rw [hop]
                simp only [Sem.run_bind] at hrun ⊢
                simp [hrun]
              unfold Oper.wp
              rw [hx]
              exact tail (.bool !b) h J (.bool !b) w hd r.heap (.bool _) (Evo.refl _ _ _) hc
            · exact hnil.elim
          · exact hnil.elim
        · -- everything else is as in the quiet way
          refine absurd ⟨hdb, ?_⟩ hq
          unfold gstep at hs ⊢
          split at hs
          · rename_i k hk
            obtain ⟨callee, args, ats⟩ := k
            cases callee with
            | value f => exact absurd ⟨f, args, ats, hk⟩ hcall
            | builtin b => exact hs
            | invoke r m => exact hs
          · split at hs
            · exact hs
            · simp only [Bool.not_true, Bool.and_false]
              split at hs
              · rcases hs with hs | ⟨h1, h2, h3⟩
                · exact hs
                · exact absurd ⟨h1, h2, h3⟩ hnil
              · exact hs

/-- A region in the text's order. -/
theorem AWP.region {id : Nat} {Q : APost} (hs : aops P gl N false ops ops.toList (Q .normal) fr h) : AWP P gl N (.region id ops false) Q fr h := by
  intro J a w r
  have := aops_wpL ops.toList fr h hs J a w r
  have h2 := wpOps_of_wpL ops.toList 0 a w (by simp) this
  rw [Array.length_toList, ← List.range_eq_range'] at h2
  refine wp_mono (wp_region h2) ?_
  rintro e a' w' ⟨J', fr', h', q1, q2, q3⟩
  cases e with
  | normal => exact ⟨J', fr', h', q1, q2, q3⟩
  | _ => exact q3.elim
end
end Go.Abs
