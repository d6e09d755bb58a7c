/-
  All operations that only compute or read.
-/
import Derived.Test.YtcbaojkchiphkaaAbsSound5
set_option linter.unusedVariables false
set_option linter.unusedSimpArgs false
namespace Go.Abs
open Go

section
variable {P : Program} {gl : Globs} {J : List Blk} {h : AHeap} {w : World} {O : Nat → Prop} {fr : AFrame} {N : Nat}

theorem vrels_map {J : List Blk} {O : Nat → Prop} {w : World} {a : Act} : ∀ (l : List Operand), (∀ x ∈ l, VRel J O w (ev gl fr x) (a.eval x)) → (∀ x ∈ l, (ev gl fr x).gd = true) → VRels J O w (l.map fun x => (ev gl fr x).core) (l.map a.eval)
  | [], _, _ => .nil
  | x :: l, h1, h2 => VRels.cons ((h1 x (by simp)).core (h2 x (by simp))) (vrels_map l (fun y hy => h1 y (by simp [hy])) (fun y hy => h2 y (by simp [hy])))

theorem prels_map {J : List Blk} {O : Nat → Prop} {w : World} {a : Act} : ∀ (l : List (Nat × Operand)), (∀ p ∈ l, VRel J O w (ev gl fr p.2) (a.eval p.2)) → (∀ p ∈ l, (ev gl fr p.2).gd = true) → PRels J O w (l.map fun p => (p.1, (ev gl fr p.2).core)) (l.map fun p => (p.1, a.eval p.2))
  | [], _, _ => trivial
  | (i, x) :: l, h1, h2 => ⟨rfl, (h1 (i, x) (by simp)).core (h2 (i, x) (by simp)), prels_map l (fun y hy => h1 y (by simp [hy])) (fun y hy => h2 y (by simp [hy]))⟩

/-- The operands that an abstract value looks at. -/
theorem vop_sound {o : Oper} {a : Act} (hh : HRel gl h J w) (hr : ∀ x ∈ o.op.operands, VRel J (Own h J) w (ev gl fr x) (a.eval x)) (hok : vok P gl fr h o.op) :
    ∃ v, (execOp a.eval o).run P w = .ok (.value v) w ∧ VRel J (Own h J) w (vval P gl fr h o.op) v := by
  have of1 : ∀ {s : Sem Value} {x : AV}, Yields1 P J (Own h J) w s x → ∃ v, (s >>= fun v => (pure (Next.value v) : Sem Next)).run P w = .ok (.value v) w ∧ VRel J (Own h J) w x v := by
    rintro s x ⟨v, h1, h2⟩
    exact ⟨v, by simp [h1], h2⟩
  unfold execOp
  cases hop : o.op <;> simp only [hop] at hok hr ⊢ <;> simp only [vok] at hok <;> simp only [vval]
  case move x => exact ⟨_, rfl, (hr x (by simp [Op.operands])).core hok⟩
  case assign x => exact ⟨_, rfl, (hr x (by simp [Op.operands])).core hok⟩
  case pick c x y =>
    obtain ⟨hc, hok⟩ := hok
    have rc := (hr c (by simp [Op.operands])).core hc
    have rx := hr x (by simp [Op.operands])
    have ry := hr y (by simp [Op.operands])
    unfold pickOk at hok
    unfold pickV
    split at hok
    · rename_i t e1
      rw [e1] at rc
      generalize a.eval c = vc at *
      cases rc
      cases t with
      | true =>
        obtain ⟨h1, h2⟩ := hok.1 rfl
        have r := rx.core h1
        generalize (ev gl fr x).core = X at r h2 ⊢
        cases X <;> simp [isBoolV] at h2
        generalize a.eval x = vx at *
        cases r
        exact ⟨_, by simp [asBool, AV.bval], .bool _⟩
      | false =>
        obtain ⟨h1, h2⟩ := hok.2 rfl
        have r := ry.core h1
        generalize (ev gl fr y).core = X at r h2 ⊢
        cases X <;> simp [isBoolV] at h2
        generalize a.eval y = vy at *
        cases r
        exact ⟨_, by simp [asBool, AV.bval], .bool _⟩
    · exact hok.elim
  case build t parts =>
    obtain ⟨hg, hok⟩ := hok
    have hm : ∀ p ∈ parts.toList, VRel J (Own h J) w (ev gl fr p.2) (a.eval p.2) := fun p hp => hr p.2 (by
      simp only [Op.operands, List.mem_toArray]
      exact List.mem_map.2 ⟨p, hp, rfl⟩)
    have := prels_map (a := a) (J := J) (O := Own h J) (w := w) parts.toList hm hg
    exact of1 (build_yields (qs := parts.map fun (i, x) => (i, a.eval x)) (by simpa using this) hok)
  case load t x =>
    obtain ⟨hg, ht, hok⟩ := hok
    exact of1 (load_yields hh ((hr x (by simp [Op.operands])).core hg) ht hok)
  case nilCheck x =>
    obtain ⟨hg, hok⟩ := hok
    have r := (hr x (by simp [Op.operands])).core hg
    unfold nilOk at hok
    split at hok
    · rename_i e
      rw [e] at r ⊢
      generalize a.eval x = v at *
      cases r
      exact ⟨_, rfl, .ptr _ _ _ _ ‹_›⟩
    · rename_i f first caps e
      rw [e] at r ⊢
      generalize a.eval x = v at *
      cases r
      exact ⟨_, rfl, .fn _ _ _ _ _ ‹_› ‹_› ‹_› ‹_›⟩
    · exact hok.elim
  case binOp op t x y yt =>
    obtain ⟨hx, hy, hok⟩ := hok
    exact of1 (abin_sound ((hr x (by simp [Op.operands])).core hx) ((hr y (by simp [Op.operands])).core hy) hok)
  case unOp op t x =>
    obtain ⟨hx, hok⟩ := hok
    exact of1 (aun_sound ((hr x (by simp [Op.operands])).core hx) hok)
  case convert src dst x =>
    obtain ⟨hx, hok⟩ := hok
    exact of1 (aconv_sound ((hr x (by simp [Op.operands])).core hx) hok)
  case makeInterface t x =>
    obtain ⟨hx, ht, hok⟩ := hok
    obtain ⟨d, i, hd, hi, e⟩ := tinfo_ok ht
    refine of1 ⟨.iface t (a.eval x), ?_, .iface t _ _ ((hr x (by simp [Op.operands])).core hx)⟩
    rw [e] at hok
    simp only [Instr.makeInterface, Sem.run_bind, run_underlying hd, Result.andThen_ok]
    cases d <;> first | rfl | (simp [tkOf, ifaceOk] at hok)
  case makeFunc f first caps =>
    obtain ⟨h1, h2⟩ := hok
    have r1 := vrels_map (a := a) (J := J) (O := Own h J) (w := w) (gl := gl) (fr := fr) first.toList (fun x hx => hr x (Array.mem_append.2 (.inl (by simpa using hx)))) h1
    have r2 := vrels_map (a := a) (J := J) (O := Own h J) (w := w) (gl := gl) (fr := fr) caps.toList (fun x hx => hr x (Array.mem_append.2 (.inr (by simpa using hx)))) h2
    refine of1 ⟨.func f (first.map a.eval) (caps.map a.eval), rfl, ?_⟩
    have e1 : first.map a.eval = (first.toList.map a.eval).toArray := by rw [← Array.toList_map, Array.toArray_toList]
    have e2 : caps.map a.eval = (caps.toList.map a.eval).toArray := by rw [← Array.toList_map, Array.toArray_toList]
    rw [e1, e2]
    exact .fn f _ _ _ _ r1.1 r2.1 r1.2 r2.2
  case slice t x lo hi mx =>
    obtain ⟨hx, rfl, hlo, hhi, hok⟩ := hok
    have rx := (hr x (by simp [Op.operands])).core hx
    refine of1 (slice_yields (lo := lo.map a.eval) (hi := hi.map a.eval) hh rx ?_ ?_ ?_ ?_ hok)
    · intro v hv
      cases lo with
      | none => simp at hv
      | some y =>
        simp only [Option.map_some, Option.mem_def, Option.some.injEq] at hv
        subst hv
        simp only [Option.map_some, isIntO] at hlo
        obtain ⟨k, hk⟩ := int_of ((hr y (by simp [Op.operands])).core hlo.1) hlo.2
        exact ⟨k, _, hk, rfl⟩
    · intro hn; cases lo <;> simp_all
    · intro v hv
      cases hi with
      | none => simp at hv
      | some y =>
        simp only [Option.map_some, Option.mem_def, Option.some.injEq] at hv
        subst hv
        simp only [Option.map_some, isIntO] at hhi
        obtain ⟨k, hk⟩ := int_of ((hr y (by simp [Op.operands])).core hhi.1) hhi.2
        exact ⟨k, _, hk, rfl⟩
    · intro hn; cases hi <;> simp_all
  case fieldAddr s x f =>
    obtain ⟨hx, h1, h2, h3, hok⟩ := hok
    exact of1 (fieldAddr_yields ((hr x (by simp [Op.operands])).core hx) h1 h2 h3 hok)
  case field s x f =>
    obtain ⟨hx, h1, h3, hok⟩ := hok
    exact of1 (field_yields ((hr x (by simp [Op.operands])).core hx) h1 h3 hok)
  case indexAddr t x ix =>
    obtain ⟨hx, hy, h1, h2, hok⟩ := hok
    exact of1 (indexAddr_yields hh ((hr x (by simp [Op.operands])).core hx) ((hr ix (by simp [Op.operands])).core hy) h1 h2 hok)
  case index t x ix =>
    obtain ⟨hx, hy, h1, h2, hok⟩ := hok
    exact of1 (index_yields ((hr x (by simp [Op.operands])).core hx) ((hr ix (by simp [Op.operands])).core hy) h1 h2 hok)
  case lookup t x ix ok =>
    obtain ⟨hx, hy, hok⟩ := hok
    exact of1 (lookup_yields hh ok ((hr x (by simp [Op.operands])).core hx) ((hr ix (by simp [Op.operands])).core hy) hok)
  case extract x i =>
    obtain ⟨hx, hok⟩ := hok
    exact of1 (extract_yields ((hr x (by simp [Op.operands])).core hx) hok)
end
end Go.Abs
