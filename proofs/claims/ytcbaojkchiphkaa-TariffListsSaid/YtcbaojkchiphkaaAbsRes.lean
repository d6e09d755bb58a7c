/-
  What a call hands back, variables of results that lie in memory among them.
-/
import Derived.Test.YtcbaojkchiphkaaAbsRun6
set_option linter.unusedVariables false
set_option linter.unusedSimpArgs false
namespace Go.Abs
open Go

def resV (P : Program) (h : AHeap) (fr : AFrame) : ResultVar → AV
  | .tmp t => fr t
  | .cell t ty => loadV P h ty (fr t)
def resOk (P : Program) (h : AHeap) (fr : AFrame) : ResultVar → Prop
  | .tmp _ => True
  | .cell t ty => (tinfo P ty).ok = true ∧ loadOk P h ty (fr t)
def resAll (P : Program) (h : AHeap) (fr : AFrame) : List ResultVar → AV
  | [r] => resV P h fr r
  | l => .tup (l.map (resV P h fr))

def rleaves (P : Program) (fn : Func) (R : AV → AHeap → Prop) : APost
  | .normal, fr, h | .ret, fr, h => (∀ r ∈ fn.results.toList, resOk P h fr r) ∧ R (resAll P h fr fn.results.toList) h
  | _, _, _ => False

section
variable {P : Program} {gl : Globs} {J : List Blk} {h : AHeap} {w : World} {fr : AFrame} {N : Nat}

def resS (tmps : Array Value) : ResultVar → Sem Value
  | .tmp t => pure (tmps.getD t undef)
  | .cell a t => do loadVar t (← asAddr (tmps.getD a undef))

theorem load_res (hh : HRel gl h J w) {t : TypeId} {x : AV} {u : Value} (hx : VRel J (Own h J) w x u) (ht : (tinfo P t).ok = true)
    (hok : loadOk P h t x) : ∃ v, (do loadVar t (← asAddr u)).run P w = .ok v w ∧ VRel J (Own h J) w (loadV P h t x) v := by
  unfold loadOk at hok
  unfold loadV
  split at hok
  · rename_i b i c
    obtain ⟨hi, hc⟩ := hok
    have hg : (hcells h b)[i]? = some ((hcells h b).getD i []) := by simp [List.getD, List.getElem?_eq_getElem hi]
    obtain ⟨k, hk, rfl, hl, hr⟩ := erow_ptr hh hx hg
    obtain ⟨v, hv, hvr⟩ := load_sound (P := P) ht hr hc
    exact ⟨v, by simp only [asAddr, Sem.run_bind, Sem.run_pure, Result.andThen_ok, hv], hvr⟩
  · rename_i es i c
    obtain ⟨hi, hc⟩ := hok
    have hg : es[i]? = some (es.getD i []) := by simp [List.getD, List.getElem?_eq_getElem hi]
    obtain ⟨a, rfl, hr⟩ := erow_rop hx hg
    obtain ⟨v, hv, hvr⟩ := load_sound (P := P) ht hr hc
    exact ⟨v, by simp only [asAddr, Sem.run_bind, Sem.run_pure, Result.andThen_ok, hv], hvr⟩
  · exact hok.elim

theorem res_one {a : Act} (r : ARel gl N J fr h a w) {x : ResultVar} (hok : resOk P h fr x) : ∃ v, (resS a.tmps x).run P w = .ok v w ∧ VRel J (Own h J) w (resV P h fr x) v := by
  cases x with
  | tmp t => exact ⟨_, by simp [resS], r.tmps t⟩
  | cell t ty => exact load_res r.heap (r.tmps t) hok.1 hok.2

theorem res_list {a : Act} (r : ARel gl N J fr h a w) : ∀ (l : List ResultVar), (∀ x ∈ l, resOk P h fr x) → ∃ vs, (l.mapM (resS a.tmps)).run P w = .ok vs w ∧ VRels J (Own h J) w (l.map (resV P h fr)) vs
  | [], _ => ⟨[], by simp, .nil⟩
  | x :: l, hok => by
    obtain ⟨v, h1, h2⟩ := res_one r (hok x (by simp))
    obtain ⟨vs, h3, h4⟩ := res_list r l fun y hy => hok y (by simp [hy])
    exact ⟨v :: vs, by simp [h1, h3], .cons h2 h4⟩

theorem res_sound {a : Act} {fn : Func} (r : ARel gl N J fr h a w) (hok : ∀ x ∈ fn.results.toList, resOk P h fr x) :
    ∃ v, (results fn a.tmps).run P w = .ok v w ∧ VRel J (Own h J) w (resAll P h fr fn.results.toList) v := by
  obtain ⟨vs, h1, h2⟩ := res_list (P := P) r fn.results.toList hok
  have hf : results fn a.tmps = ((fn.results.mapM (resS a.tmps)) >>= fun vs => pure (if h : vs.size = 1 then vs[0] else .tuple vs)) := by
    unfold results
    congr 1
  rw [hf, Array.mapM_eq_mapM_toList]
  simp only [Sem.run_bind, Sem.run_map, h1, Result.andThen_ok]
  generalize fn.results.toList = l at h2
  have hl := h2.1
  match l, vs, h2 with
  | [], [], h2 => exact ⟨_, rfl, .tup _ _ rfl VRels.nil.2⟩
  | [x], [v], h2 => exact ⟨_, rfl, h2.2 0 _ _ rfl rfl⟩
  | x :: y :: l, v :: u :: vs, h2 => exact ⟨.tuple (v :: u :: vs).toArray, rfl, .tup _ _ h2.1 h2.2⟩
  | [], _ :: _, h2 => simp at hl
  | [x], [], h2 => simp at hl
  | [x], _ :: _ :: _, h2 => simp at hl
  | _ :: _ :: _, [], h2 => simp at hl
  | _ :: _ :: _, [_], h2 => simp at hl

/-- A function's contract from its body. -/
theorem ACalls.of_body' {f : FuncId} {fn : Func} {c : Code} {args : List AV} {R : AV → AHeap → Prop} (hf : P.funcs[f]? = some fn) (hb : fn.body = some c) (hname : (fn.name == "runtime.NumGoroutine") = false)
    (hn : args.length ≤ fn.ntmps) (hc : AWP P gl fn.ntmps c (rleaves P fn R) (ainit args) h) : ACalls P gl f args h R := by
  refine ⟨⟨fn, hf, by simp [hb], hname⟩, fun J w vs hh hv => ?_⟩
  refine calls_of_wp hf hb ?_
  have hr : ARel gl fn.ntmps J (ainit args) h { tmps := vs.toArray ++ Array.replicate (fn.ntmps - vs.toArray.size) undef, defers := [] } w := by
    refine ⟨?_, rfl, fun t => ?_, hh⟩
    · have := hv.1
      simp; omega
    · unfold ainit
      rcases Nat.lt_or_ge t args.length with h1 | h1
      · have h2 : t < vs.length := by rw [← hv.1]; exact h1
        have e1 : args.getD t .junk = args[t] := by simp [List.getD, h1]
        have e2 : (vs.toArray ++ Array.replicate (fn.ntmps - vs.toArray.size) undef).getD t undef = vs[t] := by
          simp [Array.getD_eq_getD_getElem?, Array.getElem?_append, h2]
        rw [e1, e2]
        exact hv.2 t _ _ (List.getElem?_eq_getElem h1) (List.getElem?_eq_getElem h2)
      · have e1 : args.getD t .junk = .junk := by simp [List.getD, h1]
        rw [e1]
        exact .junk _
  refine wp_mono (hc J _ w hr) ?_
  rintro e a' w' ⟨J', fr', h', r', ev, q⟩
  cases e with
  | normal =>
    obtain ⟨hx, hR⟩ := q
    obtain ⟨v, hv1, hv2⟩ := res_sound (P := P) r' hx
    exact ⟨r'.defers, v, hv1, _, v, J', h', rfl, r'.heap, hv2, ev, hR⟩
  | ret =>
    obtain ⟨hx, hR⟩ := q
    obtain ⟨v, hv1, hv2⟩ := res_sound (P := P) r' hx
    exact ⟨r'.defers, v, hv1, _, v, J', h', rfl, r'.heap, hv2, ev, hR⟩
  | _ => exact q.elim
end
end Go.Abs
