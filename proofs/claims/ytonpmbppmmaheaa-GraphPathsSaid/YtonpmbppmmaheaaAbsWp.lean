/-
  A piece of code as a Prop that a simp unfolds; a function's contract; memory that is given back.
  What a simp unfolds of the abstract logic.
  A slice that reads as a list of elements, shared or of a block of the call's own: one set of facts for both.
-/
import Derived.Test.YtonpmbppmmaheaaAbsRun
set_option linter.unusedVariables false
set_option linter.unusedSimpArgs false

section 

namespace Go.Abs
open Go

def isB : AV → (Bool → Prop) → Prop
  | .bool t, k => k t
  | _, _ => False

def acond (kx ky : AFrame → AHeap → Prop) (fr : AFrame) (h : AHeap) (t : Bool) : Prop := (t = true → kx fr h) ∧ (t = false → ky fr h)

def awp (P : Program) (gl : Globs) (N : Nat) : Code → APost → AFrame → AHeap → Prop
  | .skip, Q, fr, h => Q .normal fr h
  | .label _, Q, fr, h => Q .normal fr h
  | .seq a b, Q, fr, h => awp P gl N a (AThen (awp P gl N b Q) Q) fr h
  | .cond c x y, Q, fr, h => (ev gl fr c).gd = true ∧ isB (ev gl fr c).core (acond (awp P gl N x Q) (awp P gl N y Q) fr h)
  | .block id c, Q, fr, h => awp P gl N c (ABlock id Q) fr h
  | .exit id, Q, fr, h => Q (.exit id) fr h
  | .ret, Q, fr, h => Q .ret fr h
  | .region _ ops false, Q, fr, h => aops P gl N false ops ops.toList (Q .normal) fr h
  | .region _ ops true, Q, fr, h => drawOk ops = true ∧ aops P gl N true ops ops.toList (Q .normal) fr h
  | .loop c, Q, fr, h => AWP P gl N (.loop c) Q fr h
  | _, _, _, _ => False

section
variable {P : Program} {gl : Globs} {N : Nat} {fr : AFrame} {h : AHeap}

theorem AWP.of_awp (hm : P.follows .mixedOrders = true) : ∀ (c : Code) (Q : APost) (fr : AFrame) (h : AHeap), awp P gl N c Q fr h → AWP P gl N c Q fr h
  | .skip, Q, fr, h, hs => AWP.skip hs
  | .label _, Q, fr, h, hs => AWP.label hs
  | .seq a b, Q, fr, h, hs => by
    refine AWP.seq ((AWP.of_awp hm a _ fr h hs).mono ?_)
    intro e fr' h' q
    cases e with
    | normal => exact AWP.of_awp hm b Q fr' h' q
    | _ => exact q
  | .cond c x y, Q, fr, h, hs => by
    obtain ⟨hg, hs⟩ := hs
    unfold isB at hs
    split at hs
    · rename_i t ht
      intro J a w r
      have re := (ev_sound (a := a) r.heap (fun t' _ => r.tmps t') : VRel J (Own h J) w (ev gl fr c) (a.eval c)).core hg
      rw [ht] at re
      have hc : a.eval c = .bool t := by
        generalize a.eval c = v at re
        cases re
        rfl
      refine wp_cond hc ?_
      cases t with
      | true => exact AWP.of_awp hm x Q fr h (hs.1 rfl) J a w r
      | false => exact AWP.of_awp hm y Q fr h (hs.2 rfl) J a w r
    · exact hs.elim
  | .block id c, Q, fr, h, hs => AWP.block (AWP.of_awp hm c _ fr h hs)
  | .exit id, Q, fr, h, hs => AWP.exit hs
  | .ret, Q, fr, h, hs => AWP.ret hs
  | .region _ ops false, Q, fr, h, hs => AWP.region hs
  | .region _ ops true, Q, fr, h, hs => AWP.region_draw hm hs.1 hs.2
  | .loop c, Q, fr, h, hs => hs
  | .rangeFunc .., _, _, _, hs => hs.elim
  | .scope _, _, _, _, hs => hs.elim
  | .goto _, _, _, _, hs => hs.elim
  | .refuse _, _, _, _, hs => hs.elim

/-- A function's contract from its body. -/
theorem ACalls.body {f : FuncId} (fn : Func) (c : Code) {args : List AV} {R : AV → AHeap → Prop} (hm : P.follows .mixedOrders = true) (hf : P.funcs[f]? = some fn) (hb : fn.body = some c) (hname : (fn.name == "runtime.NumGoroutine") = false)
    (hn : args.length ≤ fn.ntmps) (hc : awp P gl fn.ntmps c (rleaves P fn R) (ainit args) h) : ACalls P gl f args h R :=
  ACalls.of_body' hf hb hname hn (AWP.of_awp hm c _ _ _ hc)

/-- A loop whose rounds count up to 'n'. -/
theorem AWP.up {c : Code} {Q : APost} (hm : P.follows .mixedOrders = true) (n : Nat) (I : Nat → AFrame → AHeap → Prop) (k : Nat) (hk : k ≤ n) (h0 : I k fr h)
    (round : ∀ k fr h, k ≤ n → I k fr h → awp P gl N c (AThen (fun fr' h' => ∃ k', k < k' ∧ k' ≤ n ∧ I k' fr' h') Q) fr h) : AWP P gl N (.loop c) Q fr h :=
  AWP.loop_up n I k hk h0 fun k fr h h1 h2 => AWP.of_awp hm c _ _ _ (round k fr h h1 h2)
/-- A loop whose rounds count down. -/
theorem AWP.down {c : Code} {Q : APost} (hm : P.follows .mixedOrders = true) (I : Nat → AFrame → AHeap → Prop) (k : Nat) (h0 : I k fr h)
    (round : ∀ k fr h, I k fr h → awp P gl N c (AThen (fun fr' h' => ∃ k', k' < k ∧ I k' fr' h') Q) fr h) : AWP P gl N (.loop c) Q fr h :=
  AWP.loop I k h0 fun k fr h h2 => AWP.of_awp hm c _ _ _ (round k fr h h2)

/-- What a call of a closed function leads to. -/
theorem callS.pure {q : Bool} {g : Option (Nat × Bool)} {G : Bool} {fn : FuncId} {first caps args : List AV} {c : AV → AHeap → Prop} (r : AV)
    (h1 : G = true → ACalls P gl fn (first ++ args ++ caps) h (fun x h' => x = r ∧ h' = h)) (h2 : c (wrapG g G r) h) : callS P gl q g G (.fn (.func fn) first caps) args h c :=
  .inl ⟨r, h1, h2⟩
theorem callS.any {g : Option (Nat × Bool)} {fn : FuncId} {first caps args : List AV} {c R : AV → AHeap → Prop}
    (h1 : ACalls P gl fn (first ++ args ++ caps) h R) (h2 : ∀ x h', R x h' → c x h') : callS P gl false g true (.fn (.func fn) first caps) args h c :=
  .inr ⟨rfl, fun _ => h1.mono h2, fun h => by cases h⟩
end

/-! ### Memory that is given back -/

/-- Values that lead to no block of the abstract heap. -/
inductive AV.Data : AV → Prop
  | bool (b : Bool) : Data (.bool b)
  | int (k : IntKind) (n : Int) : Data (.int k n)
  | str (s : List UInt8) : Data (.str s)
  | lit (x : Value) : Data (.lit x)
  | agg (cs : List AV) (h : ∀ x ∈ cs, Data x) : Data (.agg cs)
  | tup (cs : List AV) (h : ∀ x ∈ cs, Data x) : Data (.tup cs)
  | nil : Data .nil
  | e0 : Data .e0
  | ro (es : List (List AV)) (h : ∀ e ∈ es, ∀ x ∈ e, Data x) : Data (.ro es)
  | rop (es : List (List AV)) (i c : Nat) (h : ∀ e ∈ es, ∀ x ∈ e, Data x) : Data (.rop es i c)
  | fn (f : Fn) (a b : List AV) (h1 : ∀ x ∈ a, Data x) (h2 : ∀ x ∈ b, Data x) : Data (.fn f a b)
  | iface (t : TypeId) (x : AV) (h : Data x) : Data (.iface t x)
  | junk : Data .junk

/-- Values that lead to blocks below 'n' alone. -/
inductive AV.Bdd (n : Nat) : AV → Prop
  | bool (b : Bool) : Bdd n (.bool b)
  | int (k : IntKind) (m : Int) : Bdd n (.int k m)
  | str (s : List UInt8) : Bdd n (.str s)
  | lit (x : Value) : Bdd n (.lit x)
  | agg (cs : List AV) (h : ∀ (i : Nat) (x : AV), cs[i]? = some x → Bdd n x) : Bdd n (.agg cs)
  | tup (cs : List AV) (h : ∀ (i : Nat) (x : AV), cs[i]? = some x → Bdd n x) : Bdd n (.tup cs)
  | nil : Bdd n .nil
  | e0 : Bdd n .e0
  | ro (es : List (List AV)) (h : ∀ (i : Nat) (e : List AV) (c : Nat) (x : AV), es[i]? = some e → e[c]? = some x → Bdd n x) : Bdd n (.ro es)
  | rop (es : List (List AV)) (i₀ c₀ : Nat) (h : ∀ (i : Nat) (e : List AV) (c : Nat) (x : AV), es[i]? = some e → e[c]? = some x → Bdd n x) : Bdd n (.rop es i₀ c₀)
  | own (b off len : Nat) (h : b < n) : Bdd n (.own b off len)
  | ptr (b i c : Nat) (h : b < n) : Bdd n (.ptr b i c)
  | fn (f : Fn) (a b : List AV) (h1 : ∀ (i : Nat) (x : AV), a[i]? = some x → Bdd n x) (h2 : ∀ (i : Nat) (x : AV), b[i]? = some x → Bdd n x) : Bdd n (.fn f a b)
  | map (b : Nat) (h : b < n) : Bdd n (.map b)
  | obj (b : Nat) (h : b < n) : Bdd n (.obj b)
  | iface (t : TypeId) (x : AV) (h : Bdd n x) : Bdd n (.iface t x)
  | opt (g : Bool) (x : AV) (h : g = true → Bdd n x) : Bdd n (.opt g x)
  | junk : Bdd n .junk

theorem AV.Data.bdd {n : Nat} {x : AV} (h : x.Data) : x.Bdd n := by
  induction h with
  | bool b => exact .bool b
  | int k m => exact .int k m
  | str s => exact .str s
  | lit x => exact .lit x
  | agg cs _ ih => exact .agg cs fun i x hx => ih x (List.mem_of_getElem? hx)
  | tup cs _ ih => exact .tup cs fun i x hx => ih x (List.mem_of_getElem? hx)
  | nil => exact .nil
  | e0 => exact .e0
  | ro es _ ih => exact .ro es fun i e c x he hx => ih e (List.mem_of_getElem? he) x (List.mem_of_getElem? hx)
  | rop es i c _ ih => exact .rop es i c fun i e c x he hx => ih e (List.mem_of_getElem? he) x (List.mem_of_getElem? hx)
  | fn f a b _ _ ih1 ih2 => exact .fn f a b (fun i x hx => ih1 x (List.mem_of_getElem? hx)) (fun i x hx => ih2 x (List.mem_of_getElem? hx))
  | iface t x _ ih => exact .iface t x ih
  | junk => exact .junk

section
variable {J J' : List Blk} {O O' : Nat → Prop} {w : World}

theorem lt_of_get {α : Type} {l : List α} {i : Nat} {x : α} (h : l[i]? = some x) : i < l.length := (List.getElem?_eq_some_iff.1 h).1

theorem VRel.bdd {x : AV} {v : Value} (h : VRel J O w x v) : x.Bdd J.length := by
  induction h with
  | bool b => exact .bool b
  | int k m => exact .int k m
  | str s => exact .str s
  | lit x _ => exact .lit x
  | agg cs vs hl _ _ ih => exact .agg cs fun i x hx => ih i x (vs[i]'(by have := lt_of_get hx; omega)) hx (List.getElem?_eq_getElem _)
  | tup cs vs hl _ ih => exact .tup cs fun i x hx => ih i x (vs[i]'(by have := lt_of_get hx; omega)) hx (List.getElem?_eq_getElem _)
  | nil => exact .nil
  | e0 a => exact .e0
  | roNil => exact .ro [] (by simp)
  | ro es a n cap f _ _ _ _ _ _ _ ih => exact .ro es ih
  | rop es i c a n f _ _ _ _ _ _ ih => exact .rop es i c ih
  | own b off len k a cap hb _ _ _ => exact .own b off len (lt_of_get hb)
  | ptr b i c k hb => exact .ptr b i c (lt_of_get hb)
  | fn f first caps vf vc hf hc _ _ ih1 ih2 => exact .fn f first caps (fun i x hx => ih1 i x (vf[i]'(by have := lt_of_get hx; omega)) hx (List.getElem?_eq_getElem _)) (fun i x hx => ih2 i x (vc[i]'(by have := lt_of_get hx; omega)) hx (List.getElem?_eq_getElem _))
  | map b k hb => exact .map b (lt_of_get hb)
  | obj b k hb => exact .obj b (lt_of_get hb)
  | iface t x v _ ih => exact .iface t x ih
  | opt g x v _ _ ih => exact .opt g x ih
  | junk v => exact .junk

/-- What is known of more blocks is known of fewer. -/
theorem VRel.cut {x : AV} {v : Value} {n : Nat} (h : VRel J O w x v) (hb : x.Bdd n) (hO : ∀ r, O' r → O r) : VRel (J.take n) O' w x v := by
  induction h with
  | bool b => exact .bool b
  | int k n => exact .int k n
  | str s => exact .str s
  | lit x h => exact .lit x h
  | agg cs vs hl h1 _ ih => cases hb with | agg _ hb => exact .agg cs vs hl h1 fun i x v hx hv => ih i x v hx hv (hb i x hx)
  | tup cs vs hl _ ih => cases hb with | tup _ hb => exact .tup cs vs hl fun i x v hx hv => ih i x v hx hv (hb i x hx)
  | nil => exact .nil
  | e0 a => exact .e0 a
  | roNil => exact .roNil
  | ro es a n cap f hcap hn hO' hl hc h1 _ ih => cases hb with | ro _ hb => exact .ro es a n cap f hcap hn (hO'.imp id fun ⟨p, q⟩ => ⟨p, fun h => q (hO _ h)⟩) hl hc h1 fun i e c x hi hx => ih i e c x hi hx (hb i e c x hi hx)
  | rop es i₀ c₀ a n f hn hO' hl hc h1 _ ih => cases hb with | rop _ _ _ hb => exact .rop es i₀ c₀ a n f hn (hO'.imp id fun ⟨p, q⟩ => ⟨p, fun h => q (hO _ h)⟩) hl hc h1 fun i e c x hi hx => ih i e c x hi hx (hb i e c x hi hx)
  | own b off len k a cap hk ha hlen hcap => cases hb with | own _ _ _ hb => exact .own b off len k a cap (by rw [List.getElem?_take_of_lt hb]; exact hk) ha hlen hcap
  | ptr b i c k hk => cases hb with | ptr _ _ _ hb => exact .ptr b i c k (by rw [List.getElem?_take_of_lt hb]; exact hk)
  | fn f first caps vf vc hf hc _ _ ih1 ih2 => cases hb with | fn _ _ _ hb1 hb2 => exact .fn f first caps vf vc hf hc (fun i x v hx hv => ih1 i x v hx hv (hb1 i x hx)) (fun i x v hx hv => ih2 i x v hx hv (hb2 i x hx))
  | map b k hk => cases hb with | map _ hb => exact .map b k (by rw [List.getElem?_take_of_lt hb]; exact hk)
  | obj b k hk => cases hb with | obj _ hb => exact .obj b k (by rw [List.getElem?_take_of_lt hb]; exact hk)
  | iface t x v _ ih => cases hb with | iface _ _ hb => exact .iface t x v (ih hb)
  | opt g x v _ h0 ih => cases hb with | opt _ _ hb => exact .opt g x v (fun hg => ih hg (hb hg)) h0
  | junk v => exact .junk v
end

/-- An object whose content leads to blocks below 'n' alone. -/
def OBdd (n : Nat) : AObj → Prop
  | .dead => True
  | .cells _ es => ∀ (i : Nat) (e : List AV) (c : Nat) (x : AV), es[i]? = some e → e[c]? = some x → x.Bdd n
  | .map kvs => ∀ (i : Nat) (p : AV × AV), kvs[i]? = some p → p.1.Bdd n ∧ p.2.Bdd n
  | .iter m _ _ => m < n
  | .pin x => x.Bdd n
  | .raw _ => True

theorem ORel.bdd {J : List Blk} {O : Nat → Prop} {w : World} {k : Blk} {o : AObj} (h : ORel J O w k o) : OBdd J.length o := by
  cases o with
  | dead => trivial
  | cells n es =>
    obtain ⟨_, _, _, _, vs, T, _, _, hc⟩ := h
    intro i e c x hi hx
    obtain ⟨v, _, _, hv⟩ := hc i e c x hi hx
    exact hv.bdd
  | map kvs =>
    obtain ⟨es, clock, _, hl, hr, _⟩ := h
    intro i p hp
    have hi : es[i]? = some (es[i]'(by have := lt_of_get hp; omega)) := Array.getElem?_eq_getElem _
    exact ⟨(hr i _ p hi hp).1.bdd, (hr i _ p hi hp).2.bdd⟩
  | iter m n seen =>
    obtain ⟨k', h1, _⟩ := h
    exact lt_of_get h1
  | pin x =>
    obtain ⟨v, _, _, h1⟩ := h
    exact h1.bdd
  | raw o => trivial

theorem ORel.cut {J : List Blk} {O O' : Nat → Prop} {w : World} {k : Blk} {o : AObj} {n : Nat} (h : ORel J O w k o) (hb : OBdd n o) (hO : ∀ r, O' r → O r) : ORel (J.take n) O' w k o := by
  cases o with
  | dead => trivial
  | cells m es =>
    obtain ⟨h0, h1, h2, h3, vs, T, h4, h5, h6⟩ := h
    refine ⟨h0, h1, h2, h3, vs, T, h4, h5, fun i e c x hi hx => ?_⟩
    obtain ⟨v, p1, p2, p3⟩ := h6 i e c x hi hx
    exact ⟨v, p1, p2, p3.cut (hb i e c x hi hx) hO⟩
  | map kvs =>
    obtain ⟨es, clock, h1, h2, h3, h4⟩ := h
    exact ⟨es, clock, h1, h2, fun i e p hi hp => ⟨(h3 i e p hi hp).1.cut (hb i p hp).1 hO, (h3 i e p hi hp).2.cut (hb i p hp).2 hO⟩, h4⟩
  | iter m n' seen =>
    obtain ⟨k', h1, h2⟩ := h
    exact ⟨k', by rw [List.getElem?_take_of_lt hb]; exact h1, h2⟩
  | pin x =>
    obtain ⟨v, T, h1, h2⟩ := h
    exact ⟨v, T, h1, h2.cut hb hO⟩
  | raw o => exact h

/-- A value that is handed over to be read: fresh slices become read-only ones. -/
inductive Frz (n : Nat) (h : AHeap) : AV → AV → Prop
  | data (x : AV) (hd : x.Data) : Frz n h x x
  | bdd (x : AV) (hd : x.Bdd n) : Frz n h x x
  | nil : Frz n h .nil (.ro [])
  | e0 : Frz n h .e0 (.ro [])
  | own (b off len m : Nat) (es es' : List (List AV)) (hn : n ≤ b) (hb : h[b]? = some (.cells m es)) (hl : off + len ≤ es.length) (hl' : es'.length = len)
      (hlen : ∀ (i : Nat) (e e' : List AV), es[off + i]? = some e → es'[i]? = some e' → e'.length = e.length)
      (hc : ∀ (i : Nat) (e e' : List AV) (c : Nat) (x x' : AV), es[off + i]? = some e → es'[i]? = some e' → e[c]? = some x → e'[c]? = some x' → Frz n h x x') : Frz n h (.own b off len) (.ro es')
  | agg (cs cs' : List AV) (hl : cs'.length = cs.length) (hc : ∀ (i : Nat) (x x' : AV), cs[i]? = some x → cs'[i]? = some x' → Frz n h x x') : Frz n h (.agg cs) (.agg cs')
  | tup (cs cs' : List AV) (hl : cs'.length = cs.length) (hc : ∀ (i : Nat) (x x' : AV), cs[i]? = some x → cs'[i]? = some x' → Frz n h x x') : Frz n h (.tup cs) (.tup cs')

theorem own_take {h : AHeap} {J : List Blk} {n r : Nat} (ho : Own (h.take n) (J.take n) r) : Own h J r := by
  obtain ⟨b, k, o, h1, h2, h3, h4⟩ := ho
  rw [List.getElem?_take] at h1 h2
  split at h1
  · rename_i hb
    rw [if_pos hb] at h2
    exact ⟨b, k, o, h1, h2, h3, h4⟩
  · cases h1

theorem Frz.sound {gl : Globs} {n : Nat} {h : AHeap} {J : List Blk} {w : World} (hh : HRel gl h J w) {x x' : AV} (hf : Frz n h x x') : ∀ {v : Value}, VRel J (Own h J) w x v → VRel (J.take n) (Own (h.take n) (J.take n)) w x' v := by
  induction hf with
  | data x hd => exact fun hv => hv.cut hd.bdd fun r => own_take
  | bdd x hd => exact fun hv => hv.cut hd fun r => own_take
  | nil => intro v hv; cases hv; exact .roNil
  | e0 =>
    intro v hv
    cases hv with
    | e0 a =>
      cases a with
      | none => exact .roNil
      | some a => exact VRel.ro [] a 1 0 (fun _ _ => undef) (by simp) (by omega) (.inl rfl) (by simp) (by simp) (by simp) (by simp)
  | own b off len m es es' hn hb hl hl' hlen hc ih =>
    intro v hv
    cases hv with
    | own _ _ _ k a cap hk ha hle hcap =>
      obtain ⟨h0, h1, h2, h3, vs, T, h4, h5, h6⟩ := hh.obj b k _ hk hb
      rw [← hl']
      by_cases hes : es' = []
      · subst hes
        exact VRel.ro [] a 1 cap (fun _ _ => undef) (by simp) (by omega) (.inl rfl) (by simp) (by simp) (by simp) (by simp)
      · have hpos : 0 < len := by rw [← hl']; exact List.length_pos_iff.2 hes
        have ha' := ha (by omega)
        subst ha'
        have hnot : ¬ Own (h.take n) (J.take n) k.r := by
          rintro ⟨b', k', o', q1, q2, q3, q4⟩
          rw [List.getElem?_take] at q1 q2
          split at q1
          · rename_i hb'
            rw [if_pos hb'] at q2
            have := hh.inj b b' k k' _ o' hk q1 hb q2 (by simp) q3 q4.symm
            omega
          · cases q1
        have src : ∀ (i : Nat) (e' : List AV), es'[i]? = some e' → ∃ e, es[off + i]? = some e ∧ e.length = k.n ∧ e'.length = k.n := by
          intro i e' hi
          have hlt := lt_of_get hi
          have he : es[off + i]? = some (es[off + i]'(by omega)) := List.getElem?_eq_getElem (by omega)
          exact ⟨_, he, h3 _ _ he, by rw [hlen i _ e' he hi]; exact h3 _ _ he⟩
        have cell : ∀ (i : Nat) (e' : List AV) (c : Nat) (x' : AV), es'[i]? = some e' → e'[c]? = some x' → ∃ e x u, es[off + i]? = some e ∧ e[c]? = some x ∧ vs[k.base + ((off + i) * k.n + c)]? = some u ∧ u.oneCell' = true ∧ VRel J (Own h J) w x u := by
          intro i e' c x' hi hx
          obtain ⟨e, he, l1, l2⟩ := src i e' hi
          have hcl := lt_of_get hx
          have hxe : e[c]? = some (e[c]'(by omega)) := List.getElem?_eq_getElem (by omega)
          obtain ⟨u, p1, p2, p3⟩ := h6 _ _ _ _ he hxe
          exact ⟨e, _, u, he, hxe, p1, p2, p3⟩
        refine VRel.ro es' ⟨k.r, k.base + off * k.n, none⟩ k.n cap (fun i c => (vs[k.base + ((off + i) * k.n + c)]?).getD undef) (by omega) h1 (.inr ⟨hh.lt b k hk, hnot⟩) (fun i e' hi => by obtain ⟨e, _, _, l2⟩ := src i e' hi; exact l2) ?_ ?_ ?_
        · intro i e' c x' hi hx
          obtain ⟨e, x, u, q1, q2, q3, q4, q5⟩ := cell i e' c x' hi hx
          rw [add_mk, cell_of_heap h4, show k.base + off * k.n + (i * k.n + c) = k.base + ((off + i) * k.n + c) by rw [Nat.add_mul]; omega, q3]
          rfl
        · intro i e' c x' hi hx
          obtain ⟨e, x, u, q1, q2, q3, q4, q5⟩ := cell i e' c x' hi hx
          rw [q3]; exact q4
        · intro i e' c x' hi hx
          obtain ⟨e, x, u, q1, q2, q3, q4, q5⟩ := cell i e' c x' hi hx
          rw [q3]
          exact ih i e e' c x x' q1 hi q2 hx q5
  | agg cs cs' hl hc ih =>
    intro v hv
    cases hv with
    | agg _ vs hl1 h1 hr =>
      refine .agg cs' vs (by omega) h1 fun i x' v hx' hv => ?_
      have hx : cs[i]? = some (cs[i]'(by have := lt_of_get hx'; omega)) := List.getElem?_eq_getElem _
      exact ih i _ x' hx hx' (hr i _ v hx hv)
  | tup cs cs' hl hc ih =>
    intro v hv
    cases hv with
    | tup _ vs hl1 hr =>
      refine .tup cs' vs (by omega) fun i x' v hx' hv => ?_
      have hx : cs[i]? = some (cs[i]'(by have := lt_of_get hx'; omega)) := List.getElem?_eq_getElem _
      exact ih i _ x' hx hx' (hr i _ v hx hv)

/-- WHAT A CALL MADE FOR ITSELF IS FORGOTTEN; what it hands back may be read. -/
theorem ACalls.trim {P : Program} {gl : Globs} {f : FuncId} {args : List AV} {h : AHeap} {R R' : AV → AHeap → Prop} (c : ACalls P gl f args h R)
    (hr : ∀ x h', R x h' → ∃ x', Frz h.length h' x x' ∧ h.length ≤ h'.length ∧ (∀ b o, b < h.length → h'[b]? = some o → h[b]? = some o ∨ (h[b]? ≠ some .dead ∧ OBdd h.length o)) ∧ R' x' (h'.take h.length)) : ACalls P gl f args h R' := by
  refine ⟨c.1, fun J w vs hh hv => Calls.mono' (c.2 J w vs hh hv) ?_⟩
  rintro e w' ⟨x, v, J', h', rfl, q1, q2, q3, q4⟩
  obtain ⟨x', f1, f2, f3, f4⟩ := hr x h' q4
  obtain ⟨t, ht⟩ := q3.pre
  have hJ : J'.take h.length = J := by rw [ht, ← hh.len, List.take_left]
  have hx := Frz.sound q1 f1 q2
  rw [hJ] at hx
  have hO : ∀ r, Own (h'.take h.length) J r → Own h' J' r := fun r ho => own_take (n := h.length) (by rw [hJ]; exact ho)
  have bddO : ∀ b o, b < h.length → h'[b]? = some o → OBdd h.length o := by
    intro b o hb ho
    rcases f3 b o hb ho with h1 | ⟨_, h1⟩
    · have hk : J[b]? = some (J[b]'(by rw [hh.len]; exact hb)) := List.getElem?_eq_getElem _
      have := (hh.obj b _ o hk h1).bdd
      rwa [hh.len] at this
    · exact h1
  have ev : Evo h J w (h'.take h.length) J w' := by
    refine ⟨⟨[], by simp⟩, q3.size, fun r hr' hn => ⟨(q3.keep r hr' hn).1, fun ho => (q3.keep r hr' hn).2 (hO r ho)⟩, q3.os, q3.tape, q3.output⟩
  have hg : ∀ b o, (h'.take h.length)[b]? = some o → b < h.length ∧ h'[b]? = some o := by
    intro b o ho
    rw [List.getElem?_take] at ho
    split at ho
    · rename_i hb; exact ⟨hb, ho⟩
    · cases ho
  have hJ' : ∀ b k, J[b]? = some k → J'[b]? = some k := fun b k hk => prefix_get ht hk
  have hr1 : HRel gl (h'.take h.length) J w' := by
    refine ⟨by rw [hh.len]; simp; omega, ?_, ?_, ?_, ?_⟩
    · intro b b' k k' o o' h1 h2 h3 h4
      exact q1.inj b b' k k' o o' (hJ' _ _ h1) (hJ' _ _ h2) (hg _ _ h3).2 (hg _ _ h4).2
    · intro b k hk; exact q1.lt b k (hJ' _ _ hk)
    · intro b k o hk ho
      obtain ⟨hb, ho'⟩ := hg b o ho
      have := (q1.obj b k o (hJ' _ _ hk) ho').cut (bddO b o hb ho') hO
      rwa [hJ] at this
    · intro g cs hgl
      have hb := (hh.glob g cs hgl).bdd
      rw [hh.len] at hb
      have := (q1.glob g cs hgl).cut hb hO
      rwa [hJ] at this
  exact ⟨x', v, J, h'.take h.length, rfl, hr1, hx, ev, f4⟩
end Go.Abs
end

section 

namespace Go.Abs
open Go

section
variable {P : Program} {gl : Globs} {N : Nat} {q : Bool} {ops : Array Oper} {K : AFrame → AHeap → Prop} {Q : APost} {fr : AFrame} {h : AHeap}
@[simp] theorem awp_skip : awp P gl N .skip Q fr h ↔ Q .normal fr h := Iff.rfl
@[simp] theorem awp_label (l : Nat) : awp P gl N (.label l) Q fr h ↔ Q .normal fr h := Iff.rfl
@[simp] theorem awp_seq (a b : Code) : awp P gl N (.seq a b) Q fr h ↔ awp P gl N a (AThen (awp P gl N b Q) Q) fr h := Iff.rfl
@[simp] theorem awp_cond (c : Operand) (x y : Code) : awp P gl N (.cond c x y) Q fr h ↔ (ev gl fr c).gd = true ∧ isB (ev gl fr c).core (acond (awp P gl N x Q) (awp P gl N y Q) fr h) := Iff.rfl
@[simp] theorem awp_block (id : Nat) (c : Code) : awp P gl N (.block id c) Q fr h ↔ awp P gl N c (ABlock id Q) fr h := Iff.rfl
@[simp] theorem awp_exit (id : Nat) : awp P gl N (.exit id) Q fr h ↔ Q (.exit id) fr h := Iff.rfl
@[simp] theorem awp_ret : awp P gl N .ret Q fr h ↔ Q .ret fr h := Iff.rfl
@[simp] theorem awp_region (id : Nat) : awp P gl N (.region id ops false) Q fr h ↔ aops P gl N false ops ops.toList (Q .normal) fr h := Iff.rfl
@[simp] theorem awp_draw (id : Nat) : awp P gl N (.region id ops true) Q fr h ↔ drawOk ops = true ∧ aops P gl N true ops ops.toList (Q .normal) fr h := Iff.rfl
@[simp] theorem awp_loop (c : Code) : awp P gl N (.loop c) Q fr h ↔ AWP P gl N (.loop c) Q fr h := Iff.rfl
@[simp] theorem acond_at (kx ky : AFrame → AHeap → Prop) (t : Bool) : acond kx ky fr h t ↔ (t = true → kx fr h) ∧ (t = false → ky fr h) := Iff.rfl
@[simp] theorem isB_bool (t : Bool) (k : Bool → Prop) : isB (.bool t) k ↔ k t := Iff.rfl
@[simp] theorem then_normal : AThen K Q .normal fr h ↔ K fr h := Iff.rfl
@[simp] theorem then_ret : AThen K Q .ret fr h ↔ Q .ret fr h := Iff.rfl
@[simp] theorem then_exit (id : Nat) : AThen K Q (.exit id) fr h ↔ Q (.exit id) fr h := Iff.rfl
@[simp] theorem block_normal (id : Nat) : ABlock id Q .normal fr h ↔ Q .normal fr h := Iff.rfl
@[simp] theorem block_ret (id : Nat) : ABlock id Q .ret fr h ↔ Q .ret fr h := Iff.rfl
@[simp] theorem block_exit (id id' : Nat) : ABlock id Q (.exit id') fr h ↔ if id' = id then Q .normal fr h else Q (.exit id') fr h := Iff.rfl
@[simp] theorem aops_nil : aops P gl N q ops [] K fr h ↔ K fr h := Iff.rfl
@[simp] theorem aops_cons (o : Oper) (l : List Oper) : aops P gl N q ops (o :: l) K fr h ↔ astep P gl N q ops o fr h (aops P gl N q ops l K) := Iff.rfl
@[simp] theorem acont_at (d : Option Tmp) (x : AV) : acont K fr d x h ↔ K (setd fr d x) h := Iff.rfl
@[simp] theorem setd_none (x : AV) : setd fr none x = fr := rfl
@[simp] theorem setd_some (d t : Nat) (x : AV) : setd fr (some d) x t = if t = d then x else fr t := rfl
@[simp] theorem ainit_at (args : List AV) (t : Nat) : ainit args t = args.getD t .junk := rfl
@[simp] theorem leaves_ret (fn : Func) (R : AV → AHeap → Prop) : rleaves P fn R .ret fr h ↔ (∀ r ∈ fn.results.toList, resOk P h fr r) ∧ R (resAll P h fr fn.results.toList) h := Iff.rfl
@[simp] theorem leaves_normal (fn : Func) (R : AV → AHeap → Prop) : rleaves P fn R .normal fr h ↔ (∀ r ∈ fn.results.toList, resOk P h fr r) ∧ R (resAll P h fr fn.results.toList) h := Iff.rfl
end

attribute [simp] mapOpB mapP mapNextP getP isNilV isNilC nilOp nilCmp nilQ.eq_1 nilQ.eq_2 astep gstep agd isEff isEffB vok vval ev ofV ofV1 wrapG dstB   abin abinOk ibin ibinOk sbin sbinOk pickOk pickV resV resOk resAll aun aunOk aconv aconvOk
      fieldV fieldOk   indexV indexOk lookV lookOk extractV extractOk buildV buildOk sliceTOk aslice sliceOk loOk hiOf builtinV builtinOk   nilOk ifaceOk isIntO isInt aint
  acut cutOk foff fsz fty fieldsOf acells aelems effP effBP storeP updateP entryP entryStoreP makeMapP rangeP nextP buildSliceOk partsOk makeSliceOk elemZero elemCells zeroOk appendOk appendK slOk AV.solid allGd splice abuildS abuildA buildSOk buildAOk
  hcells hsz hmap isMap hput azero ceq ceq1 cok cok1 aggFit keysOk List.getElem?_append List.set_append

@[simp] theorem core_bool (b : Bool) : (AV.bool b).core = (AV.bool b) := rfl
@[simp] theorem gd_bool (b : Bool) : (AV.bool b).gd = true := rfl
@[simp] theorem core_int (k : IntKind) (n : Int) : (AV.int k n).core = (AV.int k n) := rfl
@[simp] theorem gd_int (k : IntKind) (n : Int) : (AV.int k n).gd = true := rfl
@[simp] theorem core_str (s : List UInt8) : (AV.str s).core = (AV.str s) := rfl
@[simp] theorem gd_str (s : List UInt8) : (AV.str s).gd = true := rfl
@[simp] theorem core_lit (x : Value) : (AV.lit x).core = (AV.lit x) := rfl
@[simp] theorem gd_lit (x : Value) : (AV.lit x).gd = true := rfl
@[simp] theorem core_agg (l : List AV) : (AV.agg l).core = (AV.agg l) := rfl
@[simp] theorem gd_agg (l : List AV) : (AV.agg l).gd = true := rfl
@[simp] theorem core_tup (l : List AV) : (AV.tup l).core = (AV.tup l) := rfl
@[simp] theorem gd_tup (l : List AV) : (AV.tup l).gd = true := rfl
@[simp] theorem core_nil  : (AV.nil).core = (AV.nil) := rfl
@[simp] theorem gd_nil  : (AV.nil).gd = true := rfl
@[simp] theorem core_e0  : (AV.e0).core = (AV.e0) := rfl
@[simp] theorem gd_e0  : (AV.e0).gd = true := rfl
@[simp] theorem core_ro (l : List (List AV)) : (AV.ro l).core = (AV.ro l) := rfl
@[simp] theorem gd_ro (l : List (List AV)) : (AV.ro l).gd = true := rfl
@[simp] theorem core_rop (l : List (List AV)) (i c : Nat) : (AV.rop l i c).core = (AV.rop l i c) := rfl
@[simp] theorem gd_rop (l : List (List AV)) (i c : Nat) : (AV.rop l i c).gd = true := rfl
@[simp] theorem core_own (b o l : Nat) : (AV.own b o l).core = (AV.own b o l) := rfl
@[simp] theorem gd_own (b o l : Nat) : (AV.own b o l).gd = true := rfl
@[simp] theorem core_ptr (b i c : Nat) : (AV.ptr b i c).core = (AV.ptr b i c) := rfl
@[simp] theorem gd_ptr (b i c : Nat) : (AV.ptr b i c).gd = true := rfl
@[simp] theorem core_fn (f : Fn) (a c : List AV) : (AV.fn f a c).core = (AV.fn f a c) := rfl
@[simp] theorem gd_fn (f : Fn) (a c : List AV) : (AV.fn f a c).gd = true := rfl
@[simp] theorem core_map (b : Nat) : (AV.map b).core = (AV.map b) := rfl
@[simp] theorem gd_map (b : Nat) : (AV.map b).gd = true := rfl
@[simp] theorem core_obj (b : Nat) : (AV.obj b).core = (AV.obj b) := rfl
@[simp] theorem gd_obj (b : Nat) : (AV.obj b).gd = true := rfl
@[simp] theorem core_iface (t : TypeId) (x : AV) : (AV.iface t x).core = (AV.iface t x) := rfl
@[simp] theorem gd_iface (t : TypeId) (x : AV) : (AV.iface t x).gd = true := rfl
@[simp] theorem core_junk  : (AV.junk).core = (AV.junk) := rfl
@[simp] theorem gd_junk  : (AV.junk).gd = true := rfl
@[simp] theorem core_opt (g : Bool) (x : AV) : (AV.opt g x).core = x := rfl
@[simp] theorem gd_opt (g : Bool) (x : AV) : (AV.opt g x).gd = g := rfl
attribute [simp] alen.eq_1 alen.eq_2 alen.eq_3 alen.eq_4 lenOk.eq_1 lenOk.eq_2 lenOk.eq_3 lenOk.eq_4 lenOk.eq_5 lenOk.eq_6 lenOk.eq_7 iaddrOk.eq_1 iaddrOk.eq_2 iaddrOk.eq_3 iaddrOk.eq_4 iaddrV.eq_1 iaddrV.eq_2 iaddrV.eq_3 iaddrV.eq_4 loadOk.eq_1 loadOk.eq_2 loadV.eq_1 loadV.eq_2 faddrV.eq_1 faddrV.eq_2 faddrOk.eq_1 faddrOk.eq_2
@[simp] theorem alen_nil (h : AHeap) : alen h .nil = 0 := rfl
@[simp] theorem alen_e0 (h : AHeap) : alen h .e0 = 0 := rfl
@[simp] theorem alen_lit (h : AHeap) (x : Value) : alen h (.lit x) = 0 := rfl

section
variable {P : Program} {gl : Globs} {f : FuncId} {args : List AV} {h : AHeap}

/-- A call that hands back data and leaves only rubbish. -/
theorem ACalls.data {r : AV} (hd : r.Data) (c : ACalls P gl f args h (fun x h' => x = r ∧ ∃ g, h' = h ++ g)) : ACalls P gl f args h (fun x h' => x = r ∧ h' = h) := by
  refine c.trim ?_
  rintro x h' ⟨rfl, g, rfl⟩
  exact ⟨_, .data _ hd, by simp, fun b o hb ho => .inl (by rwa [List.getElem?_append_left hb] at ho), rfl, by simp⟩

/-- A call that hands back memory of its own, which may be read from now on. -/
theorem ACalls.fresh {r : AV} (c : ACalls P gl f args h (fun x h' => ∃ g, h' = h ++ g ∧ Frz h.length (h ++ g) x r)) : ACalls P gl f args h (fun x h' => x = r ∧ h' = h) := by
  refine c.trim ?_
  rintro x h' ⟨g, rfl, hf⟩
  exact ⟨_, hf, by simp, fun b o hb ho => .inl (by rwa [List.getElem?_append_left hb] at ho), rfl, by simp⟩
end
@[simp] theorem strAt_inj (s s' : List UInt8) (p p' : Nat) : strAt s p = strAt s' p' ↔ s = s' ∧ p = p' := by
  constructor
  · intro h
    simp only [strAt, AObj.raw.injEq, Obj.stringIter.injEq, ByteArray.mk.injEq] at h
    exact ⟨by have := congrArg Array.toList h.1; simpa using this, h.2⟩
  · rintro ⟨rfl, rfl⟩; rfl
@[simp] theorem bval_bool (b : Bool) : (AV.bool b).bval = b := rfl
@[simp] theorem isBoolV_bool (b : Bool) : isBoolV (.bool b) ↔ True := Iff.rfl
end Go.Abs
end

section 

namespace Go.Abs
open Go

/-- A slice that reads as these elements of n cells. -/
def Rd (n : Nat) (h : AHeap) (x : AV) (es : List (List AV)) : Prop :=
  (x = .ro es ∨ ∃ b off all, x = .own b off es.length ∧ h[b]? = some (.cells n all) ∧ off + es.length ≤ all.length ∧ ∀ i, i < es.length → all[off + i]? = es[i]?) ∧ ∀ e ∈ es, e.length = n

variable {P : Program} {n : Nat} {h : AHeap} {x : AV} {es : List (List AV)}
theorem Rd.append (r : Rd n h x es) (g : AHeap) : Rd n (h ++ g) x es := by
  obtain ⟨r, hn⟩ := r
  refine ⟨?_, hn⟩
  rcases r with rfl | ⟨b, off, all, rfl, hb, he⟩
  · exact .inl rfl
  · refine .inr ⟨b, off, all, rfl, ?_, he⟩
    rw [List.getElem?_append_left (List.getElem?_eq_some_iff.1 hb).1]; exact hb
theorem Rd.ro (hn : ∀ e ∈ es, e.length = n) : Rd n h (.ro es) es := ⟨.inl rfl, hn⟩
theorem Rd.own {b : Nat} (hb : h[b]? = some (.cells n es)) (hn : ∀ e ∈ es, e.length = n) : Rd n h (.own b 0 es.length) es :=
  ⟨.inr ⟨b, 0, es, rfl, hb, by omega, fun i _ => by simp⟩, hn⟩
theorem Rd.core (r : Rd n h x es) : x.core = x := by
  rcases r.1 with rfl | ⟨b, off, all, rfl, _⟩ <;> rfl
theorem Rd.gd (r : Rd n h x es) : x.gd = true := by
  rcases r.1 with rfl | ⟨b, off, all, rfl, _⟩ <;> rfl
theorem Rd.alen (r : Rd n h x es) : alen h x = es.length := by
  rcases r.1 with rfl | ⟨b, off, all, rfl, _⟩ <;> rfl
theorem Rd.lenOk (r : Rd n h x es) {e : TypeId} : lenOk h (.slice e) x ↔ True := by
  rcases r.1 with rfl | ⟨b, off, all, rfl, _⟩ <;> simp [Go.Abs.lenOk]
theorem Rd.iaddrOk (r : Rd n h x es) {e : TypeId} (ho : (tinfo P e).ok = true) (hn : (tinfo P e).cells = n) {i : Int} (h0 : 0 ≤ i) (hi : i < es.length) : iaddrOk P h (.slice e) x i ↔ True := by
  obtain ⟨k, rfl⟩ := Int.eq_ofNat_of_zero_le h0
  have hk : k < es.length := by omega
  rcases r with ⟨rfl | ⟨b, off, all, rfl, hb, hl, he⟩, hn'⟩
  · simp [Go.Abs.iaddrOk, ho, hk]
    rw [hn]; exact hn' _ (List.getElem_mem hk)
  · simp only [Go.Abs.iaddrOk, hcells, hsz, hb, ho, hn]
    simp; omega
theorem Rd.load (r : Rd n h x es) {e : TypeId} {i : Int} (h0 : 0 ≤ i) (hi : i < es.length) :
    (∃ b k, iaddrV P (.slice e) x i = .ptr b k 0 ∧ (hcells h b)[k]? = es[i.toNat]?) ∨ iaddrV P (.slice e) x i = .rop es i.toNat 0 := by
  obtain ⟨k, rfl⟩ := Int.eq_ofNat_of_zero_le h0
  have hk : k < es.length := by omega
  rcases r with ⟨rfl | ⟨b, off, all, rfl, hb, hl, he⟩, hn'⟩
  · right; simp [iaddrV]
  · left
    refine ⟨b, off + k, by simp [iaddrV], ?_⟩
    simp only [hcells, hb]
    exact he k hk
theorem Rd.icore (r : Rd n h x es) {e : TypeId} {i : Int} (h0 : 0 ≤ i) (hi : i < es.length) : (iaddrV P (.slice e) x i).core = iaddrV P (.slice e) x i := by
  rcases r.load (P := P) (e := e) h0 hi with ⟨b, k, h1, _⟩ | h1 <;> rw [h1] <;> rfl
theorem Rd.igd (r : Rd n h x es) {e : TypeId} {i : Int} (h0 : 0 ≤ i) (hi : i < es.length) : (iaddrV P (.slice e) x i).gd = true := by
  rcases r.load (P := P) (e := e) h0 hi with ⟨b, k, h1, _⟩ | h1 <;> rw [h1] <;> rfl
theorem Rd.loadV (r : Rd n h x es) {e t : TypeId} {i : Int} {y : List AV} (h0 : 0 ≤ i) (hi : i < es.length) (hy : es[i.toNat]? = some y) : Go.Abs.loadV P h t (iaddrV P (.slice e) x i) = acut (tinfo P t) y (0) := by
  rcases r.load (P := P) (e := e) h0 hi with ⟨b, k, h1, h2⟩ | h1 <;> rw [h1]
  · show acut _ ((hcells h b).getD k []) 0 = _
    rw [List.getD_eq_getElem?_getD, h2, hy]; rfl
  · show acut _ (es.getD i.toNat []) 0 = _
    rw [List.getD_eq_getElem?_getD, hy]; rfl
theorem Rd.loadOk (r : Rd n h x es) {e t : TypeId} {i : Int} {y : List AV} (h0 : 0 ≤ i) (hi : i < es.length) (hy : es[i.toNat]? = some y) : Go.Abs.loadOk P h t (iaddrV P (.slice e) x i) ↔ cutOk (tinfo P t) y (0) := by
  rcases r.load (P := P) (e := e) h0 hi with ⟨b, k, h1, h2⟩ | h1 <;> rw [h1]
  · rw [hy] at h2
    have := (List.getElem?_eq_some_iff.1 h2).1
    show (k < (hcells h b).length ∧ cutOk _ ((hcells h b).getD k []) 0) ↔ _
    rw [List.getD_eq_getElem?_getD, h2]
    exact ⟨fun h => h.2, fun h => ⟨this, h⟩⟩
  · have : i.toNat < es.length := (List.getElem?_eq_some_iff.1 hy).1
    show (i.toNat < es.length ∧ cutOk _ (es.getD i.toNat []) 0) ↔ _
    rw [List.getD_eq_getElem?_getD, hy]
    exact ⟨fun h => h.2, fun h => ⟨this, h⟩⟩
theorem Rd.faddrOk (r : Rd n h x es) {e : TypeId} {i : Int} (h0 : 0 ≤ i) (hi : i < es.length) : faddrOk (iaddrV P (.slice e) x i) ↔ True := by
  rcases r.load (P := P) (e := e) h0 hi with ⟨b, k, h1, _⟩ | h1 <;> rw [h1] <;> simp [Go.Abs.faddrOk]
theorem Rd.fcore (r : Rd n h x es) {e s : TypeId} {f : Nat} {i : Int} (h0 : 0 ≤ i) (hi : i < es.length) : (faddrV P s f (iaddrV P (.slice e) x i)).core = faddrV P s f (iaddrV P (.slice e) x i) := by
  rcases r.load (P := P) (e := e) h0 hi with ⟨b, k, h1, _⟩ | h1 <;> rw [h1] <;> rfl
theorem Rd.fgd (r : Rd n h x es) {e s : TypeId} {f : Nat} {i : Int} (h0 : 0 ≤ i) (hi : i < es.length) : (faddrV P s f (iaddrV P (.slice e) x i)).gd = true := by
  rcases r.load (P := P) (e := e) h0 hi with ⟨b, k, h1, _⟩ | h1 <;> rw [h1] <;> rfl
theorem Rd.floadV (r : Rd n h x es) {e s t : TypeId} {f : Nat} {i : Int} {y : List AV} (h0 : 0 ≤ i) (hi : i < es.length) (hy : es[i.toNat]? = some y) : Go.Abs.loadV P h t (faddrV P s f (iaddrV P (.slice e) x i)) = acut (tinfo P t) y (foff (tinfo P s) f) := by
  rcases r.load (P := P) (e := e) h0 hi with ⟨b, k, h1, h2⟩ | h1 <;> rw [h1]
  · show acut _ ((hcells h b).getD k []) (0 + foff (tinfo P s) f) = _
    rw [List.getD_eq_getElem?_getD, h2, hy]; rw [Nat.zero_add]; rfl
  · show acut _ (es.getD i.toNat []) (0 + foff (tinfo P s) f) = _
    rw [List.getD_eq_getElem?_getD, hy]; rw [Nat.zero_add]; rfl
theorem Rd.floadOk (r : Rd n h x es) {e s t : TypeId} {f : Nat} {i : Int} {y : List AV} (h0 : 0 ≤ i) (hi : i < es.length) (hy : es[i.toNat]? = some y) : Go.Abs.loadOk P h t (faddrV P s f (iaddrV P (.slice e) x i)) ↔ cutOk (tinfo P t) y (foff (tinfo P s) f) := by
  rcases r.load (P := P) (e := e) h0 hi with ⟨b, k, h1, h2⟩ | h1 <;> rw [h1]
  · rw [hy] at h2
    have := (List.getElem?_eq_some_iff.1 h2).1
    show (k < (hcells h b).length ∧ cutOk _ ((hcells h b).getD k []) (0 + foff (tinfo P s) f)) ↔ _
    rw [List.getD_eq_getElem?_getD, h2]; rw [Nat.zero_add]
    exact ⟨fun h => h.2, fun h => ⟨this, h⟩⟩
  · have : i.toNat < es.length := (List.getElem?_eq_some_iff.1 hy).1
    show (i.toNat < es.length ∧ cutOk _ (es.getD i.toNat []) (0 + foff (tinfo P s) f)) ↔ _
    rw [List.getD_eq_getElem?_getD, hy]; rw [Nat.zero_add]
    exact ⟨fun h => h.2, fun h => ⟨this, h⟩⟩

/-- A slice of plain data, handed out. -/
theorem Frz.ownD {n b m off len : Nat} {h : AHeap} {es es' : List (List AV)} (hb : h[b]? = some (.cells m es)) (hn : n ≤ b) (hl : off + len ≤ es.length) (he : es' = (es.drop off).take len) (hd : ∀ e ∈ es', ∀ x ∈ e, x.Data) : Frz n h (.own b off len) (.ro es') := by
  have hget : ∀ (i : Nat) (e e' : List AV), es[off + i]? = some e → es'[i]? = some e' → e = e' := by
    intro i e e' h1 h2
    subst he
    rw [List.getElem?_take] at h2
    split at h2
    · rw [List.getElem?_drop, h1] at h2; exact Option.some.inj h2
    · cases h2
  refine .own b off len m es es' hn hb hl (by subst he; simp; omega) (fun i e e' h1 h2 => by rw [hget i e e' h1 h2]) ?_
  intro i e e' c x x' h1 h2 h3 h4
  obtain rfl := hget i e e' h1 h2
  rw [h3] at h4
  obtain rfl := Option.some.inj h4
  exact .data x (hd e (List.mem_of_getElem? h2) x (List.mem_of_getElem? h3))

inductive FrzL (n : Nat) (h : AHeap) : List AV → List AV → Prop
  | nil : FrzL n h [] []
  | cons {x x' : AV} {xs xs' : List AV} (hx : Frz n h x x') (hs : FrzL n h xs xs') : FrzL n h (x :: xs) (x' :: xs')
theorem FrzL.get {n : Nat} {h : AHeap} {xs xs' : List AV} (f : FrzL n h xs xs') : xs'.length = xs.length ∧ ∀ (i : Nat) (x x' : AV), xs[i]? = some x → xs'[i]? = some x' → Frz n h x x' := by
  induction f with
  | nil => exact ⟨rfl, by simp⟩
  | cons hx hs ih =>
    refine ⟨by simp [ih.1], fun i x x' h1 h2 => ?_⟩
    cases i with
    | zero => simp at h1 h2; subst h1; subst h2; exact hx
    | succ i => exact ih.2 i x x' (by simpa using h1) (by simpa using h2)
theorem Frz.agg' {n : Nat} {h : AHeap} {xs xs' : List AV} (f : FrzL n h xs xs') : Frz n h (.agg xs) (.agg xs') := .agg _ _ f.get.1 f.get.2
theorem Frz.tup' {n : Nat} {h : AHeap} {xs xs' : List AV} (f : FrzL n h xs xs') : Frz n h (.tup xs) (.tup xs') := .tup _ _ f.get.1 f.get.2
end Go.Abs
end
