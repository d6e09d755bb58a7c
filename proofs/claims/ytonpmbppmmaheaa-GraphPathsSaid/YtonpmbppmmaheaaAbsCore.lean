/-
  An abstract state for the walks: values as trees, memory of the call's own as a list of abstract blocks; what a call does, told over that state. No program in sight.
  How the abstract heap may be turned: a new block, a block's content, a block that is given up, a block that goes on under a new name.
  Operations that only compute: their abstract values, and that the real operation yields a value that shows the abstract one.
  The operations that only compute or read: their abstract values ('vval'), what is asked ('vok'), and soundness.
-/
import Derived.Calls
import Derived.Laws.AppendOwn
import Derived.Orders
import Derived.Laws.Rows
import Derived.Laws.StructEq
import Derived.Laws.Slices
import Derived.Laws.Cells
import Derived.Laws.Tables
import Derived.Laws.BytesString
import Derived.KernelRfl
set_option linter.unusedVariables false
set_option linter.unusedSimpArgs false

section 

namespace Go.Abs
open Go

/-- An abstract value. 'ro': a slice that is only read (each element: its cells); 'rop': a pointer into such memory; 'own': a slice of a block of the abstract heap; 'ptr': a pointer into such a block; 'opt g x': x if g holds. -/
inductive AV where
  | bool (b : Bool)
  | int (k : IntKind) (n : Int)
  | str (s : List UInt8)
  | lit (x : Value)
  | agg (cs : List AV)
  | tup (cs : List AV)
  | nil
  | e0
  | ro (es : List (List AV))
  | rop (es : List (List AV)) (i c : Nat)
  | own (b off len : Nat)
  | ptr (b i c : Nat)
  | fn (f : Fn) (first caps : List AV)
  | map (b : Nat)
  | obj (b : Nat)
  | iface (t : TypeId) (x : AV)
  | opt (g : Bool) (x : AV)
  | junk
  deriving Inhabited

/-- Where an abstract block lies: the real block, the first cell, the cells of an element, the capacity in elements. -/
structure Blk where
  r : Nat
  base : Nat
  n : Nat
  cap : Nat

inductive AObj where
  | dead
  | cells (n : Nat) (es : List (List AV))
  | map (kvs : List (AV × AV))
  | iter (m n : Nat) (seen : List Nat)
  | pin (x : AV)
  | raw (o : Obj)

abbrev AHeap := List AObj
abbrev AFrame := Nat → AV

theorem add_block (a : Addr) (n : Nat) : (a.add n).block = a.block := by unfold Addr.add; split <;> rfl

/-- How a real value shows an abstract one. -/
inductive VRel (J : List Blk) (O : Nat → Prop) (w : World) : AV → Value → Prop
  | bool (b : Bool) : VRel J O w (.bool b) (.bool b)
  | int (k : IntKind) (n : Int) : VRel J O w (.int k n) (.int k n)
  | str (s : List UInt8) : VRel J O w (.str s) (.string ⟨s.toArray⟩)
  | lit (x : Value) (h : x.oneCell' = true) : VRel J O w (.lit x) x
  | agg (cs : List AV) (vs : List Value) (hl : cs.length = vs.length) (h1 : ∀ v ∈ vs, v.oneCell' = true)
      (h : ∀ (i : Nat) (x : AV) (v : Value), cs[i]? = some x → vs[i]? = some v → VRel J O w x v) : VRel J O w (.agg cs) (.agg vs.toArray)
  | tup (cs : List AV) (vs : List Value) (hl : cs.length = vs.length)
      (h : ∀ (i : Nat) (x : AV) (v : Value), cs[i]? = some x → vs[i]? = some v → VRel J O w x v) : VRel J O w (.tup cs) (.tuple vs.toArray)
  | nil : VRel J O w .nil (.slice none 0 0)
  | e0 (a : Option Addr) : VRel J O w .e0 (.slice a 0 0)
  | roNil : VRel J O w (.ro []) (.slice none 0 0)
  | ro (es : List (List AV)) (a : Addr) (n cap : Nat) (f : Nat → Nat → Value) (hcap : es.length ≤ cap) (hn : 0 < n)
      (hO : es = [] ∨ (a.block < w.heap.size ∧ ¬ O a.block)) (hl : ∀ (i : Nat) (e : List AV), es[i]? = some e → e.length = n)
      (hc : ∀ (i : Nat) (e : List AV) (c : Nat) (x : AV), es[i]? = some e → e[c]? = some x → w.cell? (a.add (i * n + c)) = some (f i c))
      (h1 : ∀ (i : Nat) (e : List AV) (c : Nat) (x : AV), es[i]? = some e → e[c]? = some x → (f i c).oneCell' = true)
      (h : ∀ (i : Nat) (e : List AV) (c : Nat) (x : AV), es[i]? = some e → e[c]? = some x → VRel J O w x (f i c)) : VRel J O w (.ro es) (.slice (some a) es.length cap)
  | rop (es : List (List AV)) (i₀ c₀ : Nat) (a : Addr) (n : Nat) (f : Nat → Nat → Value) (hn : 0 < n)
      (hO : es = [] ∨ (a.block < w.heap.size ∧ ¬ O a.block)) (hl : ∀ (i : Nat) (e : List AV), es[i]? = some e → e.length = n)
      (hc : ∀ (i : Nat) (e : List AV) (c : Nat) (x : AV), es[i]? = some e → e[c]? = some x → w.cell? (a.add (i * n + c)) = some (f i c))
      (h1 : ∀ (i : Nat) (e : List AV) (c : Nat) (x : AV), es[i]? = some e → e[c]? = some x → (f i c).oneCell' = true)
      (h : ∀ (i : Nat) (e : List AV) (c : Nat) (x : AV), es[i]? = some e → e[c]? = some x → VRel J O w x (f i c)) : VRel J O w (.rop es i₀ c₀) (.pointer (some (a.add (i₀ * n + c₀))))
  | own (b off len : Nat) (k : Blk) (a : Addr) (cap : Nat) (hb : J[b]? = some k) (ha : 0 < cap → a = ⟨k.r, k.base + off * k.n, none⟩)
      (hlen : len ≤ cap) (hcap : off + cap ≤ k.cap) : VRel J O w (.own b off len) (.slice (some a) len cap)
  | ptr (b i c : Nat) (k : Blk) (hb : J[b]? = some k) : VRel J O w (.ptr b i c) (.pointer (some ⟨k.r, k.base + (i * k.n + c), none⟩))
  | fn (f : Fn) (first caps : List AV) (vf vc : List Value) (hf : first.length = vf.length) (hc : caps.length = vc.length)
      (h1 : ∀ (i : Nat) (x : AV) (v : Value), first[i]? = some x → vf[i]? = some v → VRel J O w x v)
      (h2 : ∀ (i : Nat) (x : AV) (v : Value), caps[i]? = some x → vc[i]? = some v → VRel J O w x v) : VRel J O w (.fn f first caps) (.func f vf.toArray vc.toArray)
  | map (b : Nat) (k : Blk) (hb : J[b]? = some k) : VRel J O w (.map b) (.map (some k.r))
  | obj (b : Nat) (k : Blk) (hb : J[b]? = some k) : VRel J O w (.obj b) (.pointer (some ⟨k.r, 0, none⟩))
  | iface (t : TypeId) (x : AV) (v : Value) (h : VRel J O w x v) : VRel J O w (.iface t x) (.iface t v)
  | opt (g : Bool) (x : AV) (v : Value) (h : g = true → VRel J O w x v) (h0 : g = false → v = undef) : VRel J O w (.opt g x) v
  | junk (v : Value) : VRel J O w .junk v

theorem prefix_get {α : Type} {J J' : List α} {t : List α} (h : J' = J ++ t) {b : Nat} {k : α} (hb : J[b]? = some k) : J'[b]? = some k := by
  subst h
  have hlt : b < J.length := by
    rcases Nat.lt_or_ge b J.length with h | h
    · exact h
    · simp [List.getElem?_eq_none h] at hb
  rw [List.getElem?_append_left hlt]; exact hb

theorem VRel.mono {J J' : List Blk} {O O' : Nat → Prop} {w w' : World} (hJ : ∃ t, J' = J ++ t) (hs : w.heap.size ≤ w'.heap.size)
    (hk : ∀ r, r < w.heap.size → ¬ O r → w'.heap[r]? = w.heap[r]? ∧ ¬ O' r) {x : AV} {v : Value} (h : VRel J O w x v) : VRel J' O' w' x v := by
  obtain ⟨t, hJ⟩ := hJ
  induction h with
  | bool b => exact .bool b
  | int k n => exact .int k n
  | str s => exact .str s
  | lit x h => exact .lit x h
  | agg cs vs hl h1 _ ih => exact .agg cs vs hl h1 ih
  | tup cs vs hl _ ih => exact .tup cs vs hl ih
  | nil => exact .nil
  | e0 a => exact .e0 a
  | roNil => exact .roNil
  | ro es a n cap f hcap hn hO hl hc h1 _ ih =>
    refine .ro es a n cap f hcap hn ?_ hl ?_ h1 ih
    · exact hO.imp id fun ⟨p, q⟩ => ⟨Nat.lt_of_lt_of_le p hs, (hk _ p q).2⟩
    · intro i e c x hi hx
      have := hc i e c x hi hx
      rcases hO with rfl | ⟨p, q⟩
      · simp at hi
      · rw [← this]; exact World.cell?_of_block (by rw [add_block]; exact (hk _ p q).1)
  | rop es i₀ c₀ a n f hn hO hl hc h1 _ ih =>
    refine .rop es i₀ c₀ a n f hn ?_ hl ?_ h1 ih
    · exact hO.imp id fun ⟨p, q⟩ => ⟨Nat.lt_of_lt_of_le p hs, (hk _ p q).2⟩
    · intro i e c x hi hx
      have := hc i e c x hi hx
      rcases hO with rfl | ⟨p, q⟩
      · simp at hi
      · rw [← this]; exact World.cell?_of_block (by rw [add_block]; exact (hk _ p q).1)
  | own b off len k a cap hb ha hlen hcap => exact .own b off len k a cap (prefix_get hJ hb) ha hlen hcap
  | ptr b i c k hb => exact .ptr b i c k (prefix_get hJ hb)
  | fn f first caps vf vc hf hc _ _ ih1 ih2 => exact .fn f first caps vf vc hf hc ih1 ih2
  | map b k hb => exact .map b k (prefix_get hJ hb)
  | obj b k hb => exact .obj b k (prefix_get hJ hb)
  | iface t x v _ ih => exact .iface t x v ih
  | opt g x v _ h0 ih => exact .opt g x v ih h0
  | junk v => exact .junk v

/-- The real blocks that the abstract heap holds. -/
def Own (h : AHeap) (J : List Blk) (r : Nat) : Prop := ∃ (b : Nat) (k : Blk) (o : AObj), J[b]? = some k ∧ h[b]? = some o ∧ o ≠ .dead ∧ k.r = r

/-- How a real block shows an abstract one. -/
def ORel (J : List Blk) (O : Nat → Prop) (w : World) (k : Blk) : AObj → Prop
  | .dead => True
  | .cells n es => k.n = n ∧ 0 < k.n ∧ es.length ≤ k.cap ∧ (∀ (i : Nat) (e : List AV), es[i]? = some e → e.length = k.n) ∧ ∃ (vs : Array Value) (T : TypeId), w.heap[k.r]? = some (.cells vs T (0, 0)) ∧
      k.base + k.cap * k.n ≤ vs.size ∧ ∀ (i : Nat) (e : List AV) (c : Nat) (x : AV), es[i]? = some e → e[c]? = some x → ∃ v : Value, vs[k.base + (i * k.n + c)]? = some v ∧ v.oneCell' = true ∧ VRel J O w x v
  | .map kvs => ∃ (es : Array MapEntry) (clock : Nat), w.heap[k.r]? = some (.map es clock) ∧ es.size = kvs.length ∧
      (∀ (i : Nat) (e : MapEntry) (p : AV × AV), es[i]? = some e → kvs[i]? = some p → VRel J O w p.1 e.key ∧ VRel J O w p.2 e.val) ∧ clock = es.size ∧ ∀ (i : Nat) (e : MapEntry), es[i]? = some e → e.born = i
  | .iter m n seen => ∃ k' : Blk, J[m]? = some k' ∧ w.heap[k.r]? = some (.mapIter (some k'.r) n seen.toArray n)
  | .pin x => ∃ (v : Value) (T : TypeId), w.heap[k.r]? = some (.cells #[v] T (0, 0)) ∧ VRel J O w x v
  | .raw o => w.heap[k.r]? = some o

abbrev Globs := Nat → Option (List AV)

structure HRel (gl : Globs) (h : AHeap) (J : List Blk) (w : World) : Prop where
  len : J.length = h.length
  inj : ∀ (b b' : Nat) (k k' : Blk) (o o' : AObj), J[b]? = some k → J[b']? = some k' → h[b]? = some o → h[b']? = some o' → o ≠ .dead → o' ≠ .dead → k.r = k'.r → b = b'
  lt : ∀ (b : Nat) (k : Blk), J[b]? = some k → k.r < w.heap.size
  obj : ∀ (b : Nat) (k : Blk) (o : AObj), J[b]? = some k → h[b]? = some o → ORel J (Own h J) w k o
  glob : ∀ (g : Nat) (cs : List AV), gl g = some cs → VRel J (Own h J) w (.rop [cs] 0 0) (.pointer (some ⟨g, 0, none⟩))

/-- What a run may have done to the world: only blocks of the abstract heap, and new ones, have turned. -/
structure Evo (h : AHeap) (J : List Blk) (w : World) (h' : AHeap) (J' : List Blk) (w' : World) : Prop where
  pre : ∃ t, J' = J ++ t
  size : w.heap.size ≤ w'.heap.size
  keep : ∀ r, r < w.heap.size → ¬ Own h J r → w'.heap[r]? = w.heap[r]? ∧ ¬ Own h' J' r
  os : w'.os = w.os
  tape : w'.tape = w.tape
  output : w'.output = w.output

theorem Evo.refl (h : AHeap) (J : List Blk) (w : World) : Evo h J w h J w := ⟨⟨[], by simp⟩, Nat.le_refl _, fun _ _ n => ⟨rfl, n⟩, rfl, rfl, rfl⟩

theorem Evo.trans {h h' h'' : AHeap} {J J' J'' : List Blk} {w w' w'' : World} (a : Evo h J w h' J' w') (b : Evo h' J' w' h'' J'' w'') : Evo h J w h'' J'' w'' := by
  obtain ⟨t, ht⟩ := a.pre
  obtain ⟨t', ht'⟩ := b.pre
  refine ⟨⟨t ++ t', by rw [ht', ht, List.append_assoc]⟩, Nat.le_trans a.size b.size, fun r hr hn => ?_, b.os.trans a.os, b.tape.trans a.tape, b.output.trans a.output⟩
  obtain ⟨h1, h2⟩ := a.keep r hr hn
  obtain ⟨h3, h4⟩ := b.keep r (Nat.lt_of_lt_of_le hr a.size) h2
  exact ⟨h3.trans h1, h4⟩

theorem VRel.evo {h h' : AHeap} {J J' : List Blk} {w w' : World} (e : Evo h J w h' J' w') {x : AV} {v : Value} (hv : VRel J (Own h J) w x v) : VRel J' (Own h' J') w' x v :=
  hv.mono e.pre e.size e.keep

/-- Lists of values. -/
def VRels (J : List Blk) (O : Nat → Prop) (w : World) (xs : List AV) (vs : List Value) : Prop :=
  xs.length = vs.length ∧ ∀ (i : Nat) (x : AV) (v : Value), xs[i]? = some x → vs[i]? = some v → VRel J O w x v

theorem VRels.evo {h h' : AHeap} {J J' : List Blk} {w w' : World} (e : Evo h J w h' J' w') {x : List AV} {v : List Value} (hv : VRels J (Own h J) w x v) : VRels J' (Own h' J') w' x v :=
  ⟨hv.1, fun i x v hx hv' => (hv.2 i x v hx hv').evo e⟩

theorem VRels.nil {J : List Blk} {O : Nat → Prop} {w : World} : VRels J O w [] [] := ⟨rfl, by simp⟩
theorem VRels.cons {J : List Blk} {O : Nat → Prop} {w : World} {x : AV} {v : Value} {xs : List AV} {vs : List Value} (h : VRel J O w x v) (hs : VRels J O w xs vs) : VRels J O w (x :: xs) (v :: vs) := by
  refine ⟨by simp [hs.1], fun i y u hy hu => ?_⟩
  cases i with
  | zero => simp at hy hu; subst hy; subst hu; exact h
  | succ i => simp at hy hu; exact hs.2 i y u hy hu
theorem VRels.append {J : List Blk} {O : Nat → Prop} {w : World} {xs ys : List AV} {vs us : List Value} (h : VRels J O w xs vs) (hs : VRels J O w ys us) : VRels J O w (xs ++ ys) (vs ++ us) := by
  refine ⟨by simp [h.1, hs.1], fun i y u hy hu => ?_⟩
  rcases Nat.lt_or_ge i xs.length with hi | hi
  · rw [List.getElem?_append_left hi] at hy
    rw [List.getElem?_append_left (by rw [← h.1]; exact hi)] at hu
    exact h.2 i y u hy hu
  · rw [List.getElem?_append_right hi] at hy
    rw [List.getElem?_append_right (by rw [← h.1]; exact hi), ← h.1] at hu
    exact hs.2 _ y u hy hu

/-- WHAT A CALL DOES, told over the abstract state. -/
def ACalls (P : Program) (gl : Globs) (f : FuncId) (args : List AV) (h : AHeap) (R : AV → AHeap → Prop) : Prop :=
  (∃ fn, P.funcs[f]? = some fn ∧ fn.body.isSome = true ∧ (fn.name == "runtime.NumGoroutine") = false) ∧
  ∀ (J : List Blk) (w : World) (vs : List Value), HRel gl h J w → VRels J (Own h J) w args vs →
    Calls P f vs.toArray w fun e w' => ∃ x v J' h', e = .returned v ∧ HRel gl h' J' w' ∧ VRel J' (Own h' J') w' x v ∧ Evo h J w h' J' w' ∧ R x h'

theorem Calls.mono' {P : Program} {f : FuncId} {args : Array Value} {w : World} {R R' : Ending → World → Prop} (h : Calls P f args w R) (hr : ∀ e w', R e w' → R' e w') : Calls P f args w R' :=
  fun cs => let ⟨e, w', fr, r, s⟩ := h cs; ⟨e, w', fr, hr _ _ r, s⟩

theorem ACalls.mono {P : Program} {gl : Globs} {f : FuncId} {args : List AV} {h : AHeap} {R R' : AV → AHeap → Prop} (c : ACalls P gl f args h R) (hr : ∀ x h', R x h' → R' x h') : ACalls P gl f args h R' :=
  ⟨c.1, fun J w vs hh hv => Calls.mono' (c.2 J w vs hh hv) fun _ _ ⟨x, v, J', h', p1, p2, p3, p4, p5⟩ => ⟨x, v, J', h', p1, p2, p3, p4, hr _ _ p5⟩⟩

/-- The frame and the heap show the abstract state. -/
structure ARel (gl : Globs) (N : Nat) (J : List Blk) (fr : AFrame) (h : AHeap) (a : Act) (w : World) : Prop where
  size : a.tmps.size = N
  defers : a.defers = []
  tmps : ∀ t, VRel J (Own h J) w (fr t) (a.tmps.getD t undef)
  heap : HRel gl h J w

abbrev APost := Exit → AFrame → AHeap → Prop

def lift (gl : Globs) (N : Nat) (h : AHeap) (J : List Blk) (w : World) (Q : APost) : Exit → Act → World → Prop :=
  fun e a' w' => ∃ J' fr' h', ARel gl N J' fr' h' a' w' ∧ Evo h J w h' J' w' ∧ Q e fr' h'

/-- A piece of code, told over the abstract state. -/
def AWP (P : Program) (gl : Globs) (N : Nat) (c : Code) (Q : APost) (fr : AFrame) (h : AHeap) : Prop :=
  ∀ J a w, ARel gl N J fr h a w → c.wp P (lift gl N h J w Q) a w

def AThen (K : AFrame → AHeap → Prop) (Q : APost) : APost
  | .normal, fr, h => K fr h
  | e, fr, h => Q e fr h
def ABlock (id : Nat) (Q : APost) : APost
  | .exit id', fr, h => if id' = id then Q .normal fr h else Q (.exit id') fr h
  | e, fr, h => Q e fr h

section
variable {P : Program} {gl : Globs} {N : Nat} {Q Q' : APost} {fr : AFrame} {h : AHeap}

theorem lift_mono {J : List Blk} {w : World} (hq : ∀ e fr h, Q e fr h → Q' e fr h) {e : Exit} {a' : Act} {w' : World} (hl : lift gl N h J w Q e a' w') : lift gl N h J w Q' e a' w' :=
  let ⟨J', fr', h', r, ev, q⟩ := hl
  ⟨J', fr', h', r, ev, hq _ _ _ q⟩

theorem AWP.mono {c : Code} (hc : AWP P gl N c Q fr h) (hq : ∀ e fr h, Q e fr h → Q' e fr h) : AWP P gl N c Q' fr h :=
  fun J a w r => wp_mono (hc J a w r) fun _ _ _ hl => lift_mono hq hl

theorem lift_evo {J J' : List Blk} {w w' : World} {h' : AHeap} (ev : Evo h J w h' J' w') {e : Exit} {a'' : Act} {w'' : World} (hl : lift gl N h' J' w' Q e a'' w'') : lift gl N h J w Q e a'' w'' :=
  let ⟨J'', fr'', h'', r, ev', q⟩ := hl
  ⟨J'', fr'', h'', r, ev.trans ev', q⟩

theorem AWP.skip (hq : Q .normal fr h) : AWP P gl N .skip Q fr h := fun J _ w r => wp_skip ⟨J, fr, h, r, Evo.refl _ _ _, hq⟩
theorem AWP.exit {id : Nat} (hq : Q (.exit id) fr h) : AWP P gl N (.exit id) Q fr h := fun J _ w r => wp_exit ⟨J, fr, h, r, Evo.refl _ _ _, hq⟩
theorem AWP.ret (hq : Q .ret fr h) : AWP P gl N .ret Q fr h := fun J _ w r => wp_ret ⟨J, fr, h, r, Evo.refl _ _ _, hq⟩
theorem AWP.label {l : Nat} (hq : Q .normal fr h) : AWP P gl N (.label l) Q fr h := fun J _ w r => wp_label ⟨J, fr, h, r, Evo.refl _ _ _, hq⟩

theorem AWP.seq {x y : Code} (hx : AWP P gl N x (AThen (AWP P gl N y Q) Q) fr h) : AWP P gl N (.seq x y) Q fr h := by
  intro J a w r
  refine wp_seq (wp_mono (hx J a w r) ?_)
  rintro e a' w' ⟨J', fr', h', r', ev, q⟩
  cases e with
  | normal => exact wp_mono (q J' a' w' r') fun _ _ _ hl => lift_evo ev hl
  | _ => exact ⟨J', fr', h', r', ev, q⟩

theorem AWP.block {id : Nat} {c : Code} (hc : AWP P gl N c (ABlock id Q) fr h) : AWP P gl N (.block id c) Q fr h := by
  intro J a w r
  refine wp_block (wp_mono (hc J a w r) ?_)
  rintro e a' w' ⟨J', fr', h', r', ev, q⟩
  cases e with
  | exit id' =>
    simp only [Exit.inBlock, ABlock] at q ⊢
    split
    · rename_i hid; simp only [hid, if_true] at q; exact ⟨J', fr', h', r', ev, q⟩
    · rename_i hid; simp only [hid, if_false] at q; exact ⟨J', fr', h', r', ev, q⟩
  | _ => exact ⟨J', fr', h', r', ev, q⟩

theorem wp_loop_ghost {c : Code} {Q : Exit → Act → World → Prop} {a : Act} {w : World} (I : Nat → Act → World → Prop) (n : Nat) (h₀ : I n a w)
    (round : ∀ m a w, I m a w → c.wp P (Exit.then (fun a' w' => ∃ m', m' < m ∧ I m' a' w') Q) a w) : (Code.loop c).wp P Q a w := by
  intro b k cs
  have key : ∀ n a w, I n a w → ∃ e a' w', Q e a' w' ∧ Arrives P (lone (b.at a (.code c :: .inLoop c :: k)) cs w) b k cs e a' w' := by
    intro n
    induction n using Nat.strongRecOn with
    | _ n ih =>
      intro a w hI
      obtain ⟨e, a₁, w₁, hq, harr⟩ := round n a w hI b (.inLoop c :: k) cs
      cases e with
      | normal =>
        obtain ⟨m, hlt, hI₁⟩ := hq
        obtain ⟨e₂, a₂, w₂, hq₂, harr₂⟩ := ih m hlt a₁ w₁ hI₁
        exact ⟨e₂, a₂, w₂, hq₂, .of_steps (Steps.trans harr (.one step_inLoop)) harr₂⟩
      | exit id => exact ⟨_, a₁, w₁, hq, .pass (x := .inLoop c) rfl (fun _ _ => .inl (by simp)) harr⟩
      | goto l => exact ⟨_, a₁, w₁, hq, .pass (x := .inLoop c) rfl (fun _ _ => .inl (by simp)) harr⟩
      | ret => exact ⟨_, a₁, w₁, hq, .pass (x := .inLoop c) rfl (fun _ _ => .inl (by simp)) harr⟩
      | panic ch => exact ⟨_, a₁, w₁, hq, .pass (x := .inLoop c) rfl (fun _ _ => .inl (by simp)) harr⟩
      | outgrown => exact ⟨_, a₁, w₁, hq, .pass (x := .inLoop c) rfl (fun _ _ => .inl (by simp)) harr⟩
  obtain ⟨e, a', w', hq, harr⟩ := key n a w h₀
  exact ⟨e, a', w', hq, .of_steps (.one step_loop) harr⟩

/-- A loop: what holds at each round's head, with a number that every round lowers. -/
theorem AWP.loop {c : Code} (I : Nat → AFrame → AHeap → Prop) (n : Nat) (h0 : I n fr h)
    (round : ∀ m fr h, I m fr h → AWP P gl N c (AThen (fun fr' h' => ∃ m', m' < m ∧ I m' fr' h') Q) fr h) : AWP P gl N (.loop c) Q fr h := by
  intro J a w r
  refine wp_loop_ghost (P := P) (fun m a' w' => ∃ J' fr' h', ARel gl N J' fr' h' a' w' ∧ Evo h J w h' J' w' ∧ I m fr' h') n ⟨J, fr, h, r, Evo.refl _ _ _, h0⟩ ?_
  rintro m a' w' ⟨J', fr', h', r', ev, hI⟩
  refine wp_mono (round m fr' h' hI J' a' w' r') ?_
  rintro e a'' w'' ⟨J'', fr'', h'', r'', ev', q⟩
  cases e with
  | normal =>
    obtain ⟨m', hlt, hI'⟩ := q
    exact ⟨m', hlt, J'', fr'', h'', r'', ev.trans ev', hI'⟩
  | _ => exact ⟨J'', fr'', h'', r'', ev.trans ev', q⟩

/-- A counter that goes up to 'n'. -/
theorem AWP.loop_up {c : Code} (n : Nat) (I : Nat → AFrame → AHeap → Prop) (k : Nat) (hk : k ≤ n) (h0 : I k fr h)
    (round : ∀ k fr h, k ≤ n → I k fr h → AWP P gl N c (AThen (fun fr' h' => ∃ k', k < k' ∧ k' ≤ n ∧ I k' fr' h') Q) fr h) : AWP P gl N (.loop c) Q fr h := by
  refine AWP.loop (fun m fr h => ∃ k, k ≤ n ∧ m = n - k ∧ I k fr h) (n - k) ⟨k, hk, rfl, h0⟩ ?_
  rintro m fr h ⟨k, hk, rfl, hI⟩
  refine (round k fr h hk hI).mono ?_
  intro e fr' h' q
  cases e with
  | normal =>
    obtain ⟨k', h1, h2, h3⟩ := q
    exact ⟨n - k', by omega, k', h2, rfl, h3⟩
  | _ => exact q

/-- The abstract frame in which a call begins. -/
def ainit (args : List AV) : AFrame := fun t => args.getD t .junk

/-- What a call hands back. -/
def ares (fr : AFrame) : List ResultVar → Option AV
  | [.tmp t] => some (fr t)
  | [.tmp t, .tmp u] => some (.tup [fr t, fr u])
  | [.tmp t, .tmp u, .tmp x] => some (.tup [fr t, fr u, fr x])
  | [.tmp t, .tmp u, .tmp x, .tmp y] => some (.tup [fr t, fr u, fr x, fr y])
  | [] => some (.tup [])
  | _ => none

def aleaves (fn : Func) (R : AV → AHeap → Prop) : APost
  | .normal, fr, h | .ret, fr, h => ∃ x, ares fr fn.results.toList = some x ∧ R x h
  | _, _, _ => False

theorem ares_sound {J : List Blk} {a : Act} {w : World} {fn : Func} {x : AV} (r : ARel gl N J fr h a w) (hx : ares fr fn.results.toList = some x) :
    ∃ v, (results fn a.tmps).run P w = .ok v w ∧ VRel J (Own h J) w x v := by
  obtain ⟨l, hl⟩ : ∃ l, l = fn.results.toList := ⟨_, rfl⟩
  have hr : fn.results = l.toArray := by simp [hl]
  rw [← hl] at hx
  unfold ares at hx
  split at hx <;> first
    | (injection hx with hx; subst hx)
    | (simp at hx; done)
  · rename_i t
    exact ⟨_, by simp [results, hr], r.tmps t⟩
  · rename_i t u
    refine ⟨.tuple [a.tmps.getD t undef, a.tmps.getD u undef].toArray, by simp [results, hr], ?_⟩
    exact .tup _ _ rfl (VRels.cons (r.tmps t) (VRels.cons (r.tmps u) .nil)).2
  · rename_i t u x
    refine ⟨.tuple [a.tmps.getD t undef, a.tmps.getD u undef, a.tmps.getD x undef].toArray, by simp [results, hr], ?_⟩
    exact .tup _ _ rfl (VRels.cons (r.tmps t) (VRels.cons (r.tmps u) (VRels.cons (r.tmps x) .nil))).2
  · rename_i t u x y
    refine ⟨.tuple [a.tmps.getD t undef, a.tmps.getD u undef, a.tmps.getD x undef, a.tmps.getD y undef].toArray, by simp [results, hr], ?_⟩
    exact .tup _ _ rfl (VRels.cons (r.tmps t) (VRels.cons (r.tmps u) (VRels.cons (r.tmps x) (VRels.cons (r.tmps y) .nil)))).2
  · refine ⟨.tuple [].toArray, by simp [results, hr], .tup _ _ rfl VRels.nil.2⟩

/-- A function's contract from its body. -/
theorem ACalls.of_body {f : FuncId} {fn : Func} {c : Code} {args : List AV} {R : AV → AHeap → Prop} (hf : P.funcs[f]? = some fn) (hb : fn.body = some c) (hname : (fn.name == "runtime.NumGoroutine") = false)
    (hn : args.length ≤ fn.ntmps) (hc : AWP P gl fn.ntmps c (aleaves fn R) (ainit args) h) : ACalls P gl f args h R := by
  refine ⟨⟨fn, hf, by simp [hb], hname⟩, fun J w vs hh hv => ?_⟩
  refine calls_of_wp hf hb ?_
  have hr : ARel gl fn.ntmps J (ainit args) h { tmps := vs.toArray ++ Array.replicate (fn.ntmps - vs.toArray.size) undef, defers := [] } w := by
    refine ⟨?_, rfl, fun t => ?_, hh⟩
    · have := hv.1
      simp; omega
    · unfold ainit
      rcases Nat.lt_or_ge t args.length with h1 | h1
      · have h2 : t < vs.length := by rw [← hv.1]; exact h1
        have e1 : args.getD t .junk = args[t] := by simp [List.getD, h1]
        have e2 : (vs.toArray ++ Array.replicate (fn.ntmps - vs.toArray.size) undef).getD t undef = vs[t] := by
          simp [Array.getD_eq_getD_getElem?, Array.getElem?_append, h2]
        rw [e1, e2]
        exact hv.2 t _ _ (List.getElem?_eq_getElem h1) (List.getElem?_eq_getElem h2)
      · have e1 : args.getD t .junk = .junk := by simp [List.getD, h1]
        rw [e1]
        exact .junk _
  refine wp_mono (hc J _ w hr) ?_
  rintro e a' w' ⟨J', fr', h', r', ev, q⟩
  cases e with
  | normal =>
    obtain ⟨x, hx, hR⟩ := q
    obtain ⟨v, hv1, hv2⟩ := ares_sound (P := P) r' hx
    exact ⟨r'.defers, v, hv1, x, v, J', h', rfl, r'.heap, hv2, ev, hR⟩
  | ret =>
    obtain ⟨x, hx, hR⟩ := q
    obtain ⟨v, hv1, hv2⟩ := ares_sound (P := P) r' hx
    exact ⟨r'.defers, v, hv1, x, v, J', h', rfl, r'.heap, hv2, ev, hR⟩
  | _ => exact q.elim

end
end Go.Abs
end

section 

namespace Go.Abs
open Go

section
variable {gl : Globs} {h h' : AHeap} {J J' : List Blk} {w w' : World}

theorem ORel.evo {k : Blk} {o : AObj} (ev : Evo h J w h' J' w') (hw : w'.heap[k.r]? = w.heap[k.r]?) (ho : ORel J (Own h J) w k o) : ORel J' (Own h' J') w' k o := by
  cases o with
  | dead => trivial
  | cells n es =>
    obtain ⟨h0, h1, h2, h3, vs, T, h4, h5, h6⟩ := ho
    refine ⟨h0, h1, h2, h3, vs, T, hw.trans h4, h5, fun i e c x hi hx => ?_⟩
    obtain ⟨v, p1, p2, p3⟩ := h6 i e c x hi hx
    exact ⟨v, p1, p2, p3.evo ev⟩
  | map kvs =>
    obtain ⟨es, clock, h1, h2, h3, h4⟩ := ho
    exact ⟨es, clock, hw.trans h1, h2, fun i e p hi hp => ⟨(h3 i e p hi hp).1.evo ev, (h3 i e p hi hp).2.evo ev⟩, h4⟩
  | iter m n seen =>
    obtain ⟨k', h1, h2⟩ := ho
    obtain ⟨t, ht⟩ := ev.pre
    exact ⟨k', prefix_get ht h1, hw.trans h2⟩
  | pin x =>
    obtain ⟨v, T, h1, h2⟩ := ho
    exact ⟨v, T, hw.trans h1, h2.evo ev⟩
  | raw o => exact hw.trans ho

theorem HRel.step (hh : HRel gl h J w) (ev : Evo h J w h' J' w') (len : J'.length = h'.length)
    (inj : ∀ (b b' : Nat) (k k' : Blk) (o o' : AObj), J'[b]? = some k → J'[b']? = some k' → h'[b]? = some o → h'[b']? = some o' → o ≠ .dead → o' ≠ .dead → k.r = k'.r → b = b')
    (lt : ∀ (b : Nat) (k : Blk), J'[b]? = some k → k.r < w'.heap.size)
    (objs : ∀ (b : Nat) (k : Blk) (o : AObj), J'[b]? = some k → h'[b]? = some o → o ≠ .dead → (J[b]? = some k ∧ h[b]? = some o ∧ w'.heap[k.r]? = w.heap[k.r]?) ∨ ORel J' (Own h' J') w' k o) : HRel gl h' J' w' := by
  refine ⟨len, inj, lt, fun b k o hb ho => ?_, fun g cs hg => (hh.glob g cs hg).evo ev⟩
  by_cases hd : o = .dead
  · subst hd; trivial
  · rcases objs b k o hb ho hd with ⟨h1, h2, h3⟩ | h1
    · exact (hh.obj b k o h1 h2).evo ev h3
    · exact h1

/-- A draw. -/
theorem HRel.drew (hh : HRel gl h J w) : HRel gl h J w.drew ∧ Evo h J w h J w.drew := by
  have ev : Evo h J w h J w.drew := ⟨⟨[], by simp⟩, Nat.le_refl _, fun _ _ n => ⟨rfl, n⟩, rfl, rfl, rfl⟩
  exact ⟨hh.step ev hh.len hh.inj hh.lt (fun b k o h1 h2 _ => .inl ⟨h1, h2, rfl⟩), ev⟩

theorem own_append {k : Blk} {o : AObj} (hl : J.length = h.length) {r : Nat} (hr : Own (h ++ [o]) (J ++ [k]) r) : Own h J r ∨ (o ≠ .dead ∧ k.r = r) := by
  obtain ⟨b, k', o', h1, h2, h3, h4⟩ := hr
  rcases Nat.lt_or_ge b J.length with hb | hb
  · rw [List.getElem?_append_left hb] at h1
    rw [List.getElem?_append_left (by omega)] at h2
    exact .inl ⟨b, k', o', h1, h2, h3, h4⟩
  · rw [List.getElem?_append_right hb] at h1
    rw [List.getElem?_append_right (by omega), ← hl] at h2
    rcases Nat.eq_zero_or_pos (b - J.length) with h0 | h0
    · rw [h0] at h1 h2
      simp at h1 h2
      subst h1; subst h2
      exact .inr ⟨h3, h4⟩
    · rw [List.getElem?_eq_none (by simp; omega)] at h1
      cases h1

/-- A new block. -/
theorem HRel.alloc (hh : HRel gl h J w) (ob : Obj) (k : Blk) (o : AObj) (hk : k.r = w.heap.size)
    (ho : ∀ J' O', (∀ x v, VRel J (Own h J) w x v → VRel J' O' (w.alloc ob) x v) → ORel J' O' (w.alloc ob) k o) :
    HRel gl (h ++ [o]) (J ++ [k]) (w.alloc ob) ∧ Evo h J w (h ++ [o]) (J ++ [k]) (w.alloc ob) := by
  have hold : ∀ r, r < w.heap.size → (w.alloc ob).heap[r]? = w.heap[r]? := fun r hr => by
    show (w.heap.push ob)[r]? = _
    rw [Array.getElem?_push, if_neg (by omega)]
  have ev : Evo h J w (h ++ [o]) (J ++ [k]) (w.alloc ob) := by
    refine ⟨⟨[k], rfl⟩, by simp, fun r hr hn => ⟨hold r hr, fun hO => ?_⟩, rfl, rfl, rfl⟩
    rcases own_append hh.len hO with h1 | ⟨_, h1⟩
    · exact hn h1
    · omega
  refine ⟨hh.step ev (by simp [hh.len]) ?_ ?_ ?_, ev⟩
  · intro b b' k1 k2 o1 o2 h1 h2 h3 h4 h5 h6 h7
    have hlen := hh.len
    rcases Nat.lt_or_ge b J.length with hb | hb <;> rcases Nat.lt_or_ge b' J.length with hb' | hb'
    · rw [List.getElem?_append_left hb] at h1
      rw [List.getElem?_append_left hb'] at h2
      rw [List.getElem?_append_left (by omega)] at h3 h4
      exact hh.inj b b' k1 k2 o1 o2 h1 h2 h3 h4 h5 h6 h7
    · rw [List.getElem?_append_left hb] at h1
      rw [List.getElem?_append_right hb'] at h2
      have : k2 = k := by
        rcases Nat.eq_zero_or_pos (b' - J.length) with h0 | h0
        · rw [h0] at h2; simpa using h2.symm
        · rw [List.getElem?_eq_none (by simp; omega)] at h2; cases h2
      subst this
      have := hh.lt b k1 h1
      omega
    · rw [List.getElem?_append_right hb] at h1
      rw [List.getElem?_append_left hb'] at h2
      have : k1 = k := by
        rcases Nat.eq_zero_or_pos (b - J.length) with h0 | h0
        · rw [h0] at h1; simpa using h1.symm
        · rw [List.getElem?_eq_none (by simp; omega)] at h1; cases h1
      subst this
      have := hh.lt b' k2 h2
      omega
    · have e1 : b = J.length := by
        rcases Nat.eq_zero_or_pos (b - J.length) with h0 | h0
        · omega
        · rw [List.getElem?_append_right hb, List.getElem?_eq_none (by simp; omega)] at h1; cases h1
      have e2 : b' = J.length := by
        rcases Nat.eq_zero_or_pos (b' - J.length) with h0 | h0
        · omega
        · rw [List.getElem?_append_right hb', List.getElem?_eq_none (by simp; omega)] at h2; cases h2
      omega
  · intro b k1 h1
    rcases Nat.lt_or_ge b J.length with hb | hb
    · rw [List.getElem?_append_left hb] at h1
      have := hh.lt b k1 h1
      simp; omega
    · rw [List.getElem?_append_right hb] at h1
      have : k1 = k := by
        rcases Nat.eq_zero_or_pos (b - J.length) with h0 | h0
        · rw [h0] at h1; simpa using h1.symm
        · rw [List.getElem?_eq_none (by simp; omega)] at h1; cases h1
      subst this
      simp [hk]
  · intro b k1 o1 h1 h2 h3
    have hlen := hh.len
    rcases Nat.lt_or_ge b J.length with hb | hb
    · rw [List.getElem?_append_left hb] at h1
      rw [List.getElem?_append_left (by omega)] at h2
      exact .inl ⟨h1, h2, hold _ (hh.lt b k1 h1)⟩
    · right
      rw [List.getElem?_append_right hb] at h1
      rw [List.getElem?_append_right (by omega), ← hlen] at h2
      rcases Nat.eq_zero_or_pos (b - J.length) with h0 | h0
      · rw [h0] at h1 h2
        simp at h1 h2
        subst h1; subst h2
        exact ho _ _ fun x v hv => hv.evo ev
      · rw [List.getElem?_eq_none (by simp; omega)] at h1; cases h1

theorem own_set {b : Nat} {o : AObj} {k : Blk} {o' : AObj} (hb : J[b]? = some k) (ho : h[b]? = some o') (ho' : o' ≠ .dead) {r : Nat} (hr : Own (h.set b o) J r) : Own h J r := by
  obtain ⟨b', k', o1, h1, h2, h3, h4⟩ := hr
  by_cases e : b = b'
  · subst e
    rw [hb] at h1
    injection h1 with h1
    subst h1
    exact ⟨b, k, o', hb, ho, ho', h4⟩
  · rw [List.getElem?_set_ne e] at h2
    exact ⟨b', k', o1, h1, h2, h3, h4⟩

/-- A block's content is turned. -/
theorem HRel.set (hh : HRel gl h J w) {b : Nat} {k : Blk} {o' : AObj} (o : AObj) (hb : J[b]? = some k) (ho' : h[b]? = some o') (hnd : o' ≠ .dead)
    (hsz : w'.heap.size = w.heap.size) (hkeep : ∀ r, r ≠ k.r → w'.heap[r]? = w.heap[r]?) (hos : w'.os = w.os) (htape : w'.tape = w.tape) (hout : w'.output = w.output)
    (ho : ∀ O', (∀ x v, VRel J (Own h J) w x v → VRel J O' w' x v) → ORel J O' w' k o) :
    HRel gl (h.set b o) J w' ∧ Evo h J w (h.set b o) J w' := by
  have hOwn : Own h J k.r := ⟨b, k, o', hb, ho', hnd, rfl⟩
  have ev : Evo h J w (h.set b o) J w' := by
    refine ⟨⟨[], by simp⟩, by omega, fun r hr hn => ⟨hkeep r (fun e => hn (e ▸ hOwn)), fun hO => hn (own_set hb ho' hnd hO)⟩, hos, htape, hout⟩
  have hblt : b < h.length := (List.getElem?_eq_some_iff.1 ho').1
  refine ⟨hh.step ev (by simp [hh.len]) ?_ ?_ ?_, ev⟩
  · intro b1 b2 k1 k2 o1 o2 h1 h2 h3 h4 h5 h6 h7
    have old : ∀ (b1 : Nat) (k1 : Blk) (o1 : AObj), J[b1]? = some k1 → (h.set b o)[b1]? = some o1 → o1 ≠ AObj.dead → ∃ o : AObj, h[b1]? = some o ∧ o ≠ AObj.dead := by
      intro b1 k1 o1 h1 h3 h5
      by_cases e : b = b1
      · subst e; exact ⟨o', ho', hnd⟩
      · rw [List.getElem?_set_ne e] at h3; exact ⟨o1, h3, h5⟩
    obtain ⟨p1, q1, r1⟩ := old b1 k1 o1 h1 h3 h5
    obtain ⟨p2, q2, r2⟩ := old b2 k2 o2 h2 h4 h6
    exact hh.inj b1 b2 k1 k2 p1 p2 h1 h2 q1 q2 r1 r2 h7
  · intro b1 k1 h1; rw [hsz]; exact hh.lt b1 k1 h1
  · intro b1 k1 o1 h1 h2 h3
    by_cases e : b = b1
    · subst e
      rw [hb] at h1
      injection h1 with h1
      subst h1
      rw [List.getElem?_set_self hblt] at h2
      injection h2 with h2
      subst h2
      exact .inr (ho _ fun x v hv => hv.evo ev)
    · rw [List.getElem?_set_ne e] at h2
      refine .inl ⟨h1, h2, hkeep _ fun he => e ?_⟩
      exact (hh.inj b1 b k1 k o1 o' h1 hb h2 ho' h3 hnd he).symm

/-- A block is given up: from now on it may only be read, under the values that show it. -/
theorem HRel.kill (hh : HRel gl h J w) {b : Nat} : HRel gl (h.set b .dead) J w ∧ Evo h J w (h.set b .dead) J w := by
  have sub : ∀ r, Own (h.set b .dead) J r → Own h J r := by
    rintro r ⟨b', k', o1, h1, h2, h3, h4⟩
    by_cases e : b = b'
    · subst e
      rw [List.getElem?_set] at h2
      split at h2
      · split at h2
        · injection h2 with h2; exact absurd h2.symm h3
        · cases h2
      · exact ⟨b, k', o1, h1, h2, h3, h4⟩
    · rw [List.getElem?_set_ne e] at h2
      exact ⟨b', k', o1, h1, h2, h3, h4⟩
  have ev : Evo h J w (h.set b .dead) J w := ⟨⟨[], by simp⟩, Nat.le_refl _, fun r _ hn => ⟨rfl, fun hO => hn (sub r hO)⟩, rfl, rfl, rfl⟩
  have old : ∀ (b1 : Nat) (o1 : AObj), (h.set b AObj.dead)[b1]? = some o1 → o1 ≠ AObj.dead → h[b1]? = some o1 := by
    intro b1 o1 h1 h2
    rw [List.getElem?_set] at h1
    split at h1
    · first
        | (injection h1 with h1; exact absurd h1.symm h2)
        | (split at h1
           · injection h1 with h1; exact absurd h1.symm h2
           · cases h1)
    · exact h1
  refine ⟨hh.step ev (by simp [hh.len]) ?_ hh.lt ?_, ev⟩
  · intro b1 b2 k1 k2 o1 o2 h1 h2 h3 h4 h5 h6 h7
    exact hh.inj b1 b2 k1 k2 o1 o2 h1 h2 (old _ _ h3 h5) (old _ _ h4 h6) h5 h6 h7
  · intro b1 k1 o1 h1 h2 h3
    exact .inl ⟨h1, old _ _ h2 h3, rfl⟩

/-- A block goes on under a new name. -/
theorem HRel.move (hh : HRel gl h J w) {b : Nat} {k : Blk} {o' : AObj} (k' : Blk) (o : AObj) (hb : J[b]? = some k) (ho' : h[b]? = some o') (hnd : o' ≠ .dead) (hk : k'.r = k.r)
    (ho : ∀ J' O', (∀ x v, VRel J (Own h J) w x v → VRel J' O' w x v) → ORel J' O' w k' o) :
    HRel gl (h.set b .dead ++ [o]) (J ++ [k']) w ∧ Evo h J w (h.set b .dead ++ [o]) (J ++ [k']) w := by
  obtain ⟨hk1, ev1⟩ := hh.kill (b := b)
  have hlen := hh.len
  have hOwn : Own h J k.r := ⟨b, k, o', hb, ho', hnd, rfl⟩
  have hblt : b < h.length := (List.getElem?_eq_some_iff.1 ho').1
  have ev : Evo h J w (h.set b .dead ++ [o]) (J ++ [k']) w := by
    refine ⟨⟨[k'], rfl⟩, Nat.le_refl _, fun r hr hn => ⟨rfl, fun hO => ?_⟩, rfl, rfl, rfl⟩
    rcases own_append (by simp [hlen]) hO with h1 | ⟨_, h1⟩
    · exact (ev1.keep r hr hn).2 h1
    · rw [hk] at h1; exact hn (h1 ▸ hOwn)
  have last : ∀ b1 k1, (J ++ [k'])[b1]? = some k1 → J.length ≤ b1 → b1 = J.length ∧ k1 = k' := by
    intro b1 k1 h1 hb1
    rw [List.getElem?_append_right hb1] at h1
    rcases Nat.eq_zero_or_pos (b1 - J.length) with h0 | h0
    · rw [h0] at h1; exact ⟨by omega, by simpa using h1.symm⟩
    · rw [List.getElem?_eq_none (by simp; omega)] at h1; cases h1
  have old : ∀ (b1 : Nat) (o1 : AObj), b1 < J.length → (h.set b AObj.dead ++ [o])[b1]? = some o1 → o1 ≠ AObj.dead → b1 ≠ b ∧ h[b1]? = some o1 := by
    intro b1 o1 hb1 h1 h2
    rw [List.getElem?_append_left (by simp; omega), List.getElem?_set] at h1
    split at h1
    · first
        | (injection h1 with h1; exact absurd h1.symm h2)
        | (split at h1
           · injection h1 with h1; exact absurd h1.symm h2
           · cases h1)
    · rename_i hne; exact ⟨Ne.symm hne, h1⟩
  refine ⟨hh.step ev (by simp [hlen]) ?_ ?_ ?_, ev⟩
  · intro b1 b2 k1 k2 o1 o2 h1 h2 h3 h4 h5 h6 h7
    rcases Nat.lt_or_ge b1 J.length with l1 | l1 <;> rcases Nat.lt_or_ge b2 J.length with l2 | l2
    · rw [List.getElem?_append_left l1] at h1
      rw [List.getElem?_append_left l2] at h2
      exact hh.inj b1 b2 k1 k2 o1 o2 h1 h2 (old _ _ l1 h3 h5).2 (old _ _ l2 h4 h6).2 h5 h6 h7
    · rw [List.getElem?_append_left l1] at h1
      obtain ⟨e1, e2⟩ := last _ _ h2 l2
      obtain ⟨n1, n2⟩ := old _ _ l1 h3 h5
      exact absurd (hh.inj b1 b k1 k o1 o' h1 hb n2 ho' h5 hnd (by rw [h7, e2, hk])) n1
    · rw [List.getElem?_append_left l2] at h2
      obtain ⟨e1, e2⟩ := last _ _ h1 l1
      obtain ⟨n1, n2⟩ := old _ _ l2 h4 h6
      exact absurd (hh.inj b2 b k2 k o2 o' h2 hb n2 ho' h6 hnd (by rw [← h7, e2, hk])) n1
    · rw [(last _ _ h1 l1).1, (last _ _ h2 l2).1]
  · intro b1 k1 h1
    rcases Nat.lt_or_ge b1 J.length with l1 | l1
    · rw [List.getElem?_append_left l1] at h1; exact hh.lt b1 k1 h1
    · rw [(last _ _ h1 l1).2, hk]; exact hh.lt b k hb
  · intro b1 k1 o1 h1 h2 h3
    rcases Nat.lt_or_ge b1 J.length with l1 | l1
    · rw [List.getElem?_append_left l1] at h1
      exact .inl ⟨h1, (old _ _ l1 h2 h3).2, rfl⟩
    · obtain ⟨e1, e2⟩ := last _ _ h1 l1
      rw [e1, List.getElem?_append_right (by simp; omega)] at h2
      have : o1 = o := by
        simp only [List.length_set] at h2
        rw [show J.length - h.length = 0 by omega] at h2
        simpa using h2.symm
      subst this
      rw [e2]
      exact .inr (ho _ _ fun x v hv => hv.evo ev)
end
end Go.Abs
end

section 

namespace Go.Abs
open Go

def AV.core : AV → AV | .opt _ x => x | x => x
def AV.gd : AV → Bool | .opt g _ => g | _ => true

section
variable {J : List Blk} {O : Nat → Prop} {w : World}

theorem VRel.core {x : AV} {v : Value} (h : VRel J O w x v) (hg : x.gd = true) : VRel J O w x.core v := by
  cases h with
  | opt g x v h h0 => exact h hg
  | _ => first | exact .bool _ | exact .int _ _ | exact .str _ | exact .lit _ ‹_› | exact .agg _ _ ‹_› ‹_› ‹_› | exact .tup _ _ ‹_› ‹_› | exact .nil | exact .e0 _ | exact .roNil | exact .ro _ _ _ _ _ ‹_› ‹_› ‹_› ‹_› ‹_› ‹_› ‹_› | exact .rop _ _ _ _ _ _ ‹_› ‹_› ‹_› ‹_› ‹_› ‹_› | exact .own _ _ _ _ _ _ ‹_› ‹_› ‹_› ‹_› | exact .ptr _ _ _ _ ‹_› | exact .fn _ _ _ _ _ ‹_› ‹_› ‹_› ‹_› | exact .map _ _ ‹_› | exact .obj _ _ ‹_› | exact .iface _ _ _ ‹_› | exact .junk _
end

def ofV1 : Value → AV
  | .bool b => .bool b
  | .int k n => .int k n
  | .string s => .str s.data.toList
  | .slice none 0 0 => .nil
  | v => .lit v
def ofV : Value → AV
  | .agg cs => match cs.toList.all (·.oneCell') with
    | true => .agg (cs.toList.map ofV1)
    | false => .junk
  | .tuple _ => .junk
  | v => ofV1 v

theorem vrel_ofV1 {J : List Blk} {O : Nat → Prop} {w : World} {v : Value} (h : v.oneCell' = true) : VRel J O w (ofV1 v) v := by
  unfold ofV1
  split
  · exact .bool _
  · exact .int _ _
  · rename_i s
    have : s = ⟨s.data.toList.toArray⟩ := by simp
    conv => rhs; rw [this]
    exact .str _
  · exact .nil
  · exact .lit _ h

theorem vrels_ofV1 {J : List Blk} {O : Nat → Prop} {w : World} {l : List Value} (h : ∀ v ∈ l, v.oneCell' = true) : VRels J O w (l.map ofV1) l := by
  refine ⟨by simp, fun i x v hx hv => ?_⟩
  simp only [List.getElem?_map, hv, Option.map_some, Option.some.injEq] at hx
  subst hx
  exact vrel_ofV1 (h v (List.mem_of_getElem? hv))

theorem vrel_ofV {J : List Blk} {O : Nat → Prop} {w : World} (v : Value) : VRel J O w (ofV v) v := by
  unfold ofV
  split
  · rename_i cs
    split
    · rename_i hall
      rw [List.all_eq_true] at hall
      have := vrels_ofV1 (J := J) (O := O) (w := w) hall
      have e : cs = cs.toList.toArray := by simp
      conv => rhs; rw [e]
      exact .agg _ _ this.1 hall this.2
    · exact .junk _
  · exact .junk _
  · rename_i h1 h2
    refine vrel_ofV1 ?_
    cases v <;> first | rfl | (exfalso; first | exact h1 _ rfl | exact h2 _ rfl)

/-- What an operand is in the abstract frame. -/
def ev (gl : Globs) (fr : AFrame) : Operand → AV
  | .tmp t => fr t
  | .const v => ofV v
  | .global g => match gl g with
    | some cs => .rop [cs] 0 0
    | none => .lit (.pointer (some ⟨g, 0, none⟩))
  | .func f => .fn (.func f) [] []

section
variable {gl : Globs} {N : Nat} {J : List Blk} {fr : AFrame} {h : AHeap} {a : Act} {w : World}

theorem ev_sound (hh : HRel gl h J w) {x : Operand} (ht : ∀ t, x = .tmp t → VRel J (Own h J) w (fr t) (a.tmps.getD t undef)) : VRel J (Own h J) w (ev gl fr x) (a.eval x) := by
  cases x with
  | tmp t => exact ht t rfl
  | const v => exact vrel_ofV v
  | global g =>
    simp only [ev, Act.eval]
    split
    · rename_i cs hg; exact hh.glob g cs hg
    · exact .lit _ rfl
  | func f => exact .fn _ [] [] [] [] rfl rfl (by simp) (by simp)

def setd (fr : AFrame) : Option Tmp → AV → AFrame
  | none, _ => fr
  | some d, x => fun t => if t = d then x else fr t

theorem ARel.put (r : ARel gl N J fr h a w) {dst : Option Tmp} {x : AV} {v : Value} (hd : ∀ d, dst = some d → d < N) (hv : VRel J (Own h J) w x v) :
    ARel gl N J (setd fr dst x) h (a.put dst v) w := by
  cases dst with
  | none => exact r
  | some d =>
    refine ⟨by simp [Act.put, r.size], r.defers, fun t => ?_, r.heap⟩
    have hd' := hd d rfl
    by_cases htd : t = d
    · subst htd
      have hs : t < a.tmps.size := by rw [r.size]; exact hd'
      simp only [setd, if_true, Act.put]
      rw [Array.getD_eq_getD_getElem?, Array.getElem?_setIfInBounds_self_of_lt hs]
      exact hv
    · have := r.tmps t
      simp only [setd, htd, if_false, Act.put]
      rw [Array.getD_eq_getD_getElem?, Array.getElem?_setIfInBounds_ne (Ne.symm htd), ← Array.getD_eq_getD_getElem?]
      exact this
end

/-! ### Types, in short -/

inductive TK where
  | bool | int (k : IntKind) | string | slice (e : TypeId) | array (n : Nat) (e : TypeId) | map (k e : TypeId) | struct (fs : List (Nat × Nat × TypeId)) | pointer (e : TypeId) | func | iface | other
structure TI where
  ok : Bool
  agg : Bool
  cells : Nat
  bytes : Nat
  kind : TK
  zok : Bool
  zero : List AV

def tkOf (P : Program) : TypeDesc → TK
  | .bool => .bool
  | .int k => .int k
  | .string => .string
  | .slice e => .slice e
  | .array n e => .array n e
  | .map k e => .map k e
  | .struct fs => .struct (fs.toList.map fun f => (f.offset, P.cellsOf f.type, f.type))
  | .pointer e => .pointer e
  | .func _ _ _ => .func
  | .interface _ => .iface
  | _ => .other
def aggOf : TypeDesc → Bool
  | .struct _ | .array _ _ => true
  | _ => false
def isAggV : Value → Bool
  | .agg _ => true
  | _ => false
def zokOf (d : TypeDesc) : Option Value → Bool
  | some z => z.cells.toList.all (·.oneCell') && (isAggV z == aggOf d)
  | none => false
def tinfo (P : Program) (t : TypeId) : TI := match P.underlying t, P.info? t with
  | some d, some i => { ok := true, agg := aggOf d, cells := i.size, bytes := i.bytes, kind := tkOf P d, zok := zokOf d i.zero,
                        zero := (match i.zero with | some z => z.cells.toList.map ofV1 | none => []) }
  | _, _ => { ok := false, agg := false, cells := 0, bytes := 0, kind := .other, zok := false, zero := [] }

theorem tinfo_ok {P : Program} {t : TypeId} (h : (tinfo P t).ok = true) : ∃ d i, P.underlying t = some d ∧ P.info? t = some i ∧
    tinfo P t = { ok := true, agg := aggOf d, cells := i.size, bytes := i.bytes, kind := tkOf P d, zok := zokOf d i.zero,
                  zero := (match i.zero with | some z => z.cells.toList.map ofV1 | none => []) } := by
  unfold tinfo at h ⊢
  split at h
  · rename_i d i hd hi; exact ⟨d, i, hd, hi, by simp [hd, hi]⟩
  · simp at h

theorem run_isAgg' {P : Program} {t : TypeId} (h : (tinfo P t).ok = true) (w : World) : (isAgg t).run P w = .ok (tinfo P t).agg w := by
  obtain ⟨d, i, hd, hi, e⟩ := tinfo_ok h
  rw [e]
  simp only [isAgg, Sem.run_bind, run_underlying hd, Result.andThen_ok]
  cases d <;> rfl
theorem run_sizeOf' {P : Program} {t : TypeId} (h : (tinfo P t).ok = true) (w : World) : (sizeOf t).run P w = .ok (tinfo P t).cells w := by
  obtain ⟨d, i, hd, hi, e⟩ := tinfo_ok h
  rw [e]
  simp [sizeOf, typeInfo, hi]
theorem run_typeInfo' {P : Program} {t : TypeId} (h : (tinfo P t).ok = true) (w : World) : ∃ i, (typeInfo t).run P w = .ok i w ∧ P.info? t = some i ∧ i.size = (tinfo P t).cells ∧ i.bytes = (tinfo P t).bytes := by
  obtain ⟨d, i, hd, hi, e⟩ := tinfo_ok h
  rw [e]
  exact ⟨i, by simp [typeInfo, hi], hi, rfl, rfl⟩
theorem run_zeroValue' {P : Program} {t : TypeId} (h : (tinfo P t).ok = true) (hz : (tinfo P t).zok = true) (w : World) :
    ∃ z : Value, (zeroValue t).run P w = .ok z w ∧ (∀ v ∈ z.cells.toList, v.oneCell' = true) ∧ (tinfo P t).zero = z.cells.toList.map ofV1 ∧ isAggV z = (tinfo P t).agg := by
  obtain ⟨d, i, hd, hi, e⟩ := tinfo_ok h
  rw [e] at hz ⊢
  simp only at hz ⊢
  cases hzz : i.zero with
  | none => simp [hzz, zokOf] at hz
  | some z =>
    simp only [hzz, zokOf, Bool.and_eq_true, List.all_eq_true, beq_iff_eq] at hz
    exact ⟨z, by simp [zeroValue, typeInfo, hi, hzz], hz.1, rfl, hz.2⟩
theorem kind_slice {P : Program} {t e : TypeId} (h : (tinfo P t).kind = .slice e) : P.underlying t = some (.slice e) ∧ (tinfo P t).ok = true := by
  by_cases hok : (tinfo P t).ok = true
  · obtain ⟨d, i, hd, hi, e'⟩ := tinfo_ok hok
    rw [e'] at h
    simp only at h
    cases d <;> simp [tkOf] at h
    subst h
    exact ⟨hd, hok⟩
  · unfold tinfo at h hok
    split at h
    · rename_i hd hi; simp [hd, hi] at hok
    · simp at h
theorem kind_ok {P : Program} {t : TypeId} (h : (tinfo P t).kind ≠ .other) : (tinfo P t).ok = true := by
  unfold tinfo at h ⊢
  split
  · rfl
  · rename_i hx; split at h
    · rename_i h1 h2; exact absurd h2 (hx _ _ h1)
    · simp at h
theorem kind_und {P : Program} {t : TypeId} {k : TK} (h : (tinfo P t).kind = k) (hk : k ≠ .other) : ∃ d, P.underlying t = some d ∧ tkOf P d = k ∧ (tinfo P t).ok = true ∧ (tinfo P t).agg = aggOf d := by
  have hok : (tinfo P t).ok = true := kind_ok (by rw [h]; exact hk)
  obtain ⟨d, i, hd, hi, e⟩ := tinfo_ok hok
  refine ⟨d, hd, ?_, hok, ?_⟩
  · rw [e] at h; exact h
  · rw [e]

/-! ### Memory that is read -/

theorem add_add' (a : Addr) (m n : Nat) : (a.add m).add n = a.add (m + n) := by
  unfold Addr.add
  by_cases hm : m = 0
  · subst hm; simp
  · by_cases hn : n = 0
    · subst hn; simp [hm]
    · have : ¬ (m + n = 0) := by omega
      simp [hm, hn, Nat.add_assoc]
theorem add_mk (b o n : Nat) : Addr.add ⟨b, o, none⟩ n = ⟨b, o + n, none⟩ := by
  unfold Addr.add; split
  · rename_i h; subst h; rfl
  · rfl

def hcells (h : AHeap) (b : Nat) : List (List AV) := match h[b]? with
  | some (.cells _ es) => es
  | _ => []
def hsz (h : AHeap) (b : Nat) : Nat := match h[b]? with
  | some (.cells n _) => n
  | _ => 0
def hmap (h : AHeap) (b : Nat) : List (AV × AV) := match h[b]? with
  | some (.map kvs) => kvs
  | _ => []
def isMap (h : AHeap) (b : Nat) : Bool := match h[b]? with
  | some (.map _) => true
  | _ => false

/-- The cells of one element lie at an address. -/
def ERow (J : List Blk) (O : Nat → Prop) (w : World) (a : Addr) (e : List AV) : Prop :=
  ∀ (c : Nat) (x : AV), e[c]? = some x → ∃ v, w.cell? (a.add c) = some v ∧ v.oneCell' = true ∧ VRel J O w x v

section
variable {P : Program} {gl : Globs} {J : List Blk} {h : AHeap} {w : World} {O : Nat → Prop}

theorem cell_of_heap {w : World} {r off : Nat} {vs : Array Value} {T : TypeId} {fz : Nat × Nat} (hh : w.heap[r]? = some (.cells vs T fz)) : w.cell? ⟨r, off, none⟩ = vs[off]? := by
  simp [World.cell?, hh]

theorem erow_ptr (hh : HRel gl h J w) {b i c : Nat} {e : List AV} {v : Value} (hv : VRel J (Own h J) w (.ptr b i c) v) (hi : (hcells h b)[i]? = some e) :
    ∃ (k : Blk), J[b]? = some k ∧ v = .pointer (some ((⟨k.r, k.base + i * k.n, none⟩ : Addr).add c)) ∧ e.length = k.n ∧ ERow J (Own h J) w ⟨k.r, k.base + i * k.n, none⟩ e := by
  cases hv with
  | ptr _ _ _ k hb =>
    have ho : ∃ n es, h[b]? = some (.cells n es) ∧ es[i]? = some e := by
      unfold hcells at hi
      split at hi
      · rename_i n es he; exact ⟨n, es, he, hi⟩
      · simp at hi
    obtain ⟨n, es, he, hei⟩ := ho
    obtain ⟨hkn, hn, hcap, hlen, vs, T, hheap, hsz, hcell⟩ := hh.obj b k _ hb he
    refine ⟨k, hb, by rw [add_mk, Nat.add_assoc], hlen i e hei, fun c' x hx => ?_⟩
    obtain ⟨v, hv1, hv2, hv3⟩ := hcell i e c' x hei hx
    exact ⟨v, by rw [add_mk, cell_of_heap hheap, Nat.add_assoc]; exact hv1, hv2, hv3⟩

theorem erow_rop {es : List (List AV)} {i c : Nat} {e : List AV} {v : Value} (hv : VRel J O w (.rop es i c) v) (hi : es[i]? = some e) :
    ∃ (a : Addr), v = .pointer (some (a.add c)) ∧ ERow J O w a e := by
  cases hv with
  | rop _ _ _ a n f hn hO hl hc h1 h2 =>
    refine ⟨a.add (i * n), by rw [add_add'], fun c' x hx => ?_⟩
    exact ⟨f i c', by rw [add_add']; exact hc i e c' x hi hx, h1 i e c' x hi hx, h2 i e c' x hi hx⟩

/-- A piece of a row of cells. -/
def acut (T : TI) (e : List AV) (c : Nat) : AV := match T.agg with
  | true => .agg ((e.drop c).take T.cells)
  | false => e.getD c .junk
def cutOk (T : TI) (e : List AV) (c : Nat) : Prop := match T.agg with
  | true => c + T.cells ≤ e.length
  | false => c < e.length

theorem load_sound {t : TypeId} {a : Addr} {e : List AV} {c : Nat} (ht : (tinfo P t).ok = true) (hr : ERow J O w a e) (hc : cutOk (tinfo P t) e c) :
    ∃ v, (loadVar t (a.add c)).run P w = .ok v w ∧ VRel J O w (acut (tinfo P t) e c) v := by
  simp only [loadVar, Sem.run_bind, run_isAgg' ht, Result.andThen_ok]
  unfold cutOk at hc
  unfold acut
  cases hag : (tinfo P t).agg with
  | true =>
    simp only [hag] at hc ⊢
    simp only [if_true, Sem.run_bind, run_sizeOf' ht, Result.andThen_ok]
    let f : Nat → Value := fun j => (w.cell? ((a.add c).add j)).getD undef
    have hf : ∀ j, j < (tinfo P t).cells → w.cell? ((a.add c).add j) = some (f j) ∧ (f j).oneCell' = true ∧ ∀ x, e[c + j]? = some x → VRel J O w x (f j) := by
      intro j hj
      have hx : e[c + j]? = some (e[c + j]'(by omega)) := List.getElem?_eq_getElem (by omega)
      obtain ⟨v, h1, h2, h3⟩ := hr (c + j) _ hx
      have e1 : w.cell? ((a.add c).add j) = some v := by rw [add_add']; exact h1
      have e2 : f j = v := by simp [f, e1]
      refine ⟨by rw [e2]; exact e1, by rw [e2]; exact h2, fun x hx' => ?_⟩
      rw [hx] at hx'
      injection hx' with hx'
      rw [e2, ← hx']; exact h3
    rw [run_loadCells w (a.add c) (tinfo P t).cells f (fun j hj => (hf j hj).1)]
    simp only [Result.andThen_ok, Sem.run_pure]
    refine ⟨_, rfl, .agg _ _ (by simp; omega) ?_ ?_⟩
    · intro v hv
      obtain ⟨j, hj, rfl⟩ := List.mem_map.1 hv
      exact (hf j (List.mem_range.1 hj)).2.1
    · intro i x v hx hv
      have hi : i < (tinfo P t).cells := by
        rcases Nat.lt_or_ge i (tinfo P t).cells with h' | h'
        · exact h'
        · rw [List.getElem?_eq_none (by simp; omega)] at hv; cases hv
      simp only [List.getElem?_map, List.getElem?_range hi, Option.map_some, Option.some.injEq] at hv
      subst hv
      rw [List.getElem?_take_of_lt hi, List.getElem?_drop] at hx
      exact (hf i hi).2.2 x hx
  | false =>
    simp only [hag] at hc ⊢
    simp only [Bool.false_eq_true, if_false, run_load]
    have hx : e[c]? = some e[c] := List.getElem?_eq_getElem hc
    obtain ⟨v, h1, h2, h3⟩ := hr c _ hx
    refine ⟨v, by rw [h1], ?_⟩
    simpa [List.getD, hx] using h3

theorem part_sound {t : TypeId} {cs : List AV} {off : Nat} {v : Value} (ht : (tinfo P t).ok = true) (hv : VRel J O w (.agg cs) v) (hc : cutOk (tinfo P t) cs off) :
    ∃ vs : List Value, v = .agg vs.toArray ∧ ∃ u, (part t vs.toArray off).run P w = .ok u w ∧ VRel J O w (acut (tinfo P t) cs off) u := by
  cases hv with
  | agg _ vs hl h1 hh =>
    refine ⟨vs, rfl, ?_⟩
    simp only [part, Sem.run_bind, run_isAgg' ht, Result.andThen_ok]
    unfold cutOk at hc
    unfold acut
    cases hag : (tinfo P t).agg with
    | true =>
      simp only [hag] at hc ⊢
      simp only [if_true, Sem.run_bind, run_sizeOf' ht, Result.andThen_ok, Sem.run_pure]
      have e1 : vs.toArray.extract off (off + (tinfo P t).cells) = ((vs.drop off).take (tinfo P t).cells).toArray := by
        simp [List.extract_toArray, List.extract_eq_take_drop]
      rw [e1]
      refine ⟨_, rfl, .agg _ _ (by simp [hl]) ?_ ?_⟩
      · intro u hu
        exact h1 u (List.mem_of_mem_drop (List.mem_of_mem_take hu))
      · intro i x u hx hu
        have hi : i < (tinfo P t).cells := by
          rcases Nat.lt_or_ge i (tinfo P t).cells with h' | h'
          · exact h'
          · rw [List.getElem?_eq_none (by simp; omega)] at hu; cases hu
        rw [List.getElem?_take_of_lt hi, List.getElem?_drop] at hx hu
        exact hh _ x u hx hu
    | false =>
      simp only [hag] at hc ⊢
      simp only [Bool.false_eq_true, if_false]
      have hx : cs[off]? = some cs[off] := List.getElem?_eq_getElem hc
      have hu : vs[off]? = some (vs[off]'(by omega)) := List.getElem?_eq_getElem (by omega)
      have hua : vs.toArray[off]? = some (vs[off]'(by omega)) := by simp
      refine ⟨vs[off]'(by omega), by rw [hua]; rfl, ?_⟩
      simpa [List.getD, hx] using hh off _ _ hx hu
end
end Go.Abs
end

section 

namespace Go.Abs
open Go

def ibin (op : BinOp) (k : IntKind) (a b : Int) : AV := match op with
  | .add => .int k (k.wrap (a + b))
  | .sub => .int k (k.wrap (a - b))
  | .mul => .int k (k.wrap (a * b))
  | .quo => .int k (k.wrap (a.tdiv b))
  | .rem => .int k (a.tmod b)
  | .and => .int k (bits .and k a b)
  | .or => .int k (bits .or k a b)
  | .xor => .int k (bits .xor k a b)
  | .andNot => .int k (bits .andNot k a b)
  | .shl => .int k (k.wrap (a * 2 ^ (min b.toNat k.bits)))
  | .shr => .int k (a.fdiv (2 ^ (min b.toNat k.bits)))
  | .eql => .bool (a == b)
  | .neq => .bool (a != b)
  | .lss => .bool (decide (a < b))
  | .leq => .bool (decide (a ≤ b))
  | .gtr => .bool (decide (b < a))
  | .geq => .bool (decide (b ≤ a))
def ibinOk (op : BinOp) (k k' : IntKind) (b : Int) : Prop := match op with
  | .quo | .rem => k = k' ∧ b ≠ 0
  | .shl | .shr => 0 ≤ b
  | _ => k = k'
def sbin (op : BinOp) (a b : List UInt8) : AV := match op with
  | .add => .str (a ++ b)
  | .eql => .bool (a == b)
  | .neq => .bool (!(a == b))
  | .lss => .bool (Op.bytesLess a b)
  | .leq => .bool (Op.bytesLess a b || a == b)
  | .gtr => .bool (!(Op.bytesLess a b || a == b))
  | .geq => .bool (!(Op.bytesLess a b))
  | _ => .junk
def sbinOk (op : BinOp) (a b : List UInt8) : Prop := match op with
  | .add => a.length + b.length ≤ 9223372036854775807
  | .eql | .neq | .lss | .leq | .gtr | .geq => True
  | _ => False

/-- The basic kinds that a comparable type without references is made of. -/
inductive BK where | int | str | bool deriving DecidableEq
def ceq1 : AV → AV → Bool
  | .int _ a, .int _ b => a == b
  | .str a, .str b => a == b
  | .bool a, .bool b => a == b
  | _, _ => false
def ceq : List AV → List AV → Bool
  | [], [] => true
  | x :: xs, y :: ys => ceq1 x y && ceq xs ys
  | _, _ => false
def cok1 : BK → AV → AV → Prop
  | .int, .int k _, .int k' _ => k = k'
  | .str, .str _, .str _ => True
  | .bool, .bool _, .bool _ => True
  | _, _, _ => False
def cok : List BK → List AV → List AV → Prop
  | [], [], [] => True
  | b :: bs, x :: xs, y :: ys => cok1 b x y ∧ cok bs xs ys
  | _, _, _ => False

/-- The basic kinds of a type, cell by cell. -/
def flatFields (flat : TypeId → Option (List BK)) : Nat → List Field → Option (List BK)
  | _, [] => some []
  | off, f :: fs => if f.name ≠ "_" ∧ f.offset = off then
      match flat f.type with
      | some b => match flatFields flat (off + b.length) fs with
        | some r => some (b ++ r)
        | none => none
      | none => none
    else none
def flat (P : Program) : Nat → TypeId → Option (List BK)
  | 0, _ => none
  | d + 1, t => match P.underlying t, P.info? t with
    | some (.int _), some i => if i.size = 1 then some [.int] else none
    | some .string, some i => if i.size = 1 then some [.str] else none
    | some .bool, some i => if i.size = 1 then some [.bool] else none
    | some (.struct fs), some i => if P.stoodInHeld t then none else
      match flatFields (flat P d) 0 fs.toList with
      | some r => if r.length = i.size then some r else none
      | none => none
    | some (.array n e), some i => match flat P d e with
      | some r => if n * r.length = i.size ∧ P.cellsOf e = r.length then some ((List.range n).flatMap fun _ => r) else none
      | none => none
    | _, _ => none

def acells : AV → List AV
  | .agg cs => cs
  | x => [x]

/-- The elements that a slice shows. -/
def aelems (h : AHeap) : AV → List (List AV)
  | .ro es => es
  | .own b off len => ((hcells h b).drop off).take len
  | .str s => s.map fun c => [.int .u8 (c.toNat : Int)]
  | _ => []

def byteOf : List AV → UInt8
  | [.int _ n] => UInt8.ofNat n.toNat
  | _ => 0

/-- A struct's or an array's value is a row of cells, every other is none. -/
def aggFit (T : TI) (x : AV) : Prop := match T.agg, x with
  | true, .agg _ => True
  | true, _ => False
  | false, .agg _ => False
  | false, _ => True

def abin (op : BinOp) (x y : AV) : AV := match x, y with
  | .int k a, .int _ b => ibin op k a b
  | .str a, .str b => sbin op a b
  | .bool a, .bool b => match op with
    | .eql => .bool (a == b)
    | .neq => .bool (!(a == b))
    | _ => .junk
  | .agg xs, .agg ys => match op with
    | .eql => .bool (ceq xs ys)
    | .neq => .bool (!(ceq xs ys))
    | _ => .junk
  | .nil, .nil => match op with
    | .eql => .bool true
    | .neq => .bool false
    | _ => .junk
  | .own _ _ _, .nil => match op with
    | .eql => .bool false
    | .neq => .bool true
    | _ => .junk
  | _, _ => .junk
def abinOk (P : Program) (op : BinOp) (t : TypeId) (x y : AV) : Prop := match x, y with
  | .int k _, .int k' b => ibinOk op k k' b
  | .str a, .str b => sbinOk op a b
  | .bool _, .bool _ => (op = .eql ∨ op = .neq) ∧ (tinfo P t).kind = .bool
  | .agg xs, .agg ys => (op = .eql ∨ op = .neq) ∧ P.eqGuardType P.depth t = false ∧ (tinfo P t).agg = true ∧ ∃ bs, flat P 50 t = some bs ∧ cok bs xs ys
  | .nil, .nil | .own _ _ _, .nil => (op = .eql ∨ op = .neq) ∧ ∃ e, (tinfo P t).kind = .slice e
  | _, _ => False

def aun (op : UnOp) (x : AV) : AV := match op, x with
  | .neg, .int k n => .int k (k.wrap (0 - n))
  | .not, .bool b => .bool (!b)
  | _, _ => .junk
def aunOk (op : UnOp) (x : AV) : Prop := match op, x with
  | .neg, .int _ _ => True
  | .not, .bool _ => True
  | _, _ => False

def aconv (P : Program) (dst : TypeId) (x : AV) : AV := match (tinfo P dst).kind, x with
  | .int k, .int _ n => .int k (k.wrap n)
  | .string, .str s => .str s
  | _, _ => .junk
def aconvOk (P : Program) (src dst : TypeId) (x : AV) : Prop := (tinfo P src).ok = true ∧ match (tinfo P dst).kind, x with
  | .int _, .int _ _ => True
  | .string, .str _ => True
  | _, _ => False

/-- A map's entry. -/
def alook (kvs : List (AV × AV)) (k : AV) : Option AV := (kvs.find? fun p => ceq (acells k) (acells p.1)).map (·.2)
def azero (T : TI) : AV := match T.agg with
  | true => .agg T.zero
  | false => T.zero.getD 0 .junk
def kbasic (P : Program) (t : TypeId) (k : AV) : Prop := match (tinfo P t).kind, k with
  | .int _, .int _ _ => True
  | .string, .str _ => True
  | .bool, .bool _ => True
  | _, _ => False

def hiOf (hi : Option Int) (len : Nat) : Nat := (hi.map Int.toNat).getD len
def aslice (x : AV) (lo hi : Option Int) : AV := match x with
  | .str s => .str ((s.take (hiOf hi s.length)).drop ((lo.map Int.toNat).getD 0))
  | .ro es => .ro ((es.take (hiOf hi es.length)).drop ((lo.map Int.toNat).getD 0))
  | .own b off len => .own b (off + (lo.map Int.toNat).getD 0) (hiOf hi len - (lo.map Int.toNat).getD 0)
  | .nil => .nil
  | .e0 => .e0
  | _ => .junk
def loOk (lo : Option Int) (hi : Nat) : Prop := match lo with
  | none => True
  | some l => 0 ≤ l ∧ l ≤ hi
def sliceOk (len : Nat) (lo hi : Option Int) : Prop := loOk hi len ∧ loOk lo (hiOf hi len)
def aint : AV → Int
  | .int _ n => n
  | _ => 0
def isInt : AV → Prop
  | .int _ _ => True
  | _ => False

def alen (h : AHeap) : AV → Int
  | .str s => s.length
  | .ro es => es.length
  | .own _ _ len => len
  | .map b => (hmap h b).length
  | _ => 0

def AV.bval : AV → Bool
  | .bool b => b
  | _ => false
def isBoolV : AV → Prop
  | .bool _ => True
  | _ => False
def pickV (c a b : AV) : AV := match c with
  | .bool t => .bool (bif t then a.bval else b.bval)
  | _ => .junk

def placeIn : List (Nat × Nat × TypeId) → Nat → Nat × Nat × TypeId := fun l i => l.getD i (0, 0, 0)
def fieldsOf (T : TI) : List (Nat × Nat × TypeId) := match T.kind with
  | .struct fs => fs
  | _ => []
def foff (T : TI) (f : Nat) : Nat := ((fieldsOf T).getD f (0, 0, 0)).1
def fsz (T : TI) (f : Nat) : Nat := ((fieldsOf T).getD f (0, 0, 0)).2.1
def fty (T : TI) (f : Nat) : TypeId := ((fieldsOf T).getD f (0, 0, 0)).2.2

/-- A struct's cells, some of its fields written. -/
def splice {α : Type} (e : List α) (c : Nat) (cs : List α) : List α := e.take c ++ cs ++ e.drop (c + cs.length)
def abuildS (T : TI) : List (Nat × AV) → List AV → List AV
  | [], cs => cs
  | (i, x) :: r, cs => abuildS T r (splice cs (foff T i) (acells x))
def abuildA (n : Nat) : List (Nat × AV) → List AV → List AV
  | [], cs => cs
  | (i, x) :: r, cs => abuildA n r (splice cs (i * n) (acells x))

def AV.solid : AV → Bool
  | .junk | .tup _ | .opt _ _ => false
  | _ => true
def buildSOk (T : TI) : List (Nat × AV) → Prop
  | [] => True
  | (i, x) :: r => x.solid = true ∧ i < (fieldsOf T).length ∧ (acells x).length = fsz T i ∧ foff T i + fsz T i ≤ T.cells ∧ buildSOk T r
def buildAOk (n : Nat) (cells : Nat) : List (Nat × AV) → Prop
  | [] => True
  | (i, x) :: r => x.solid = true ∧ (acells x).length = n ∧ i * n + n ≤ cells ∧ buildAOk n cells r

/-- The cells of a slice type's element. -/
def elemCells (P : Program) (t : TypeId) : Nat := match (tinfo P t).kind with
  | .slice e => (tinfo P e).cells
  | _ => 0

def loadV (P : Program) (h : AHeap) (t : TypeId) : AV → AV
  | .ptr b i c => acut (tinfo P t) ((hcells h b).getD i []) c
  | .rop es i c => acut (tinfo P t) (es.getD i []) c
  | _ => .junk
def loadOk (P : Program) (h : AHeap) (t : TypeId) : AV → Prop
  | .ptr b i c => i < (hcells h b).length ∧ cutOk (tinfo P t) ((hcells h b).getD i []) c
  | .rop es i c => i < es.length ∧ cutOk (tinfo P t) (es.getD i []) c
  | _ => False
def faddrV (P : Program) (s : TypeId) (f : Nat) : AV → AV
  | .ptr b i c => .ptr b i (c + foff (tinfo P s) f)
  | .rop es i c => .rop es i (c + foff (tinfo P s) f)
  | _ => .junk
def faddrOk : AV → Prop
  | .ptr _ _ _ => True
  | .rop _ _ _ => True
  | _ => False
def fieldV (P : Program) (s : TypeId) (f : Nat) : AV → AV
  | .agg cs => acut (tinfo P (fty (tinfo P s) f)) cs (foff (tinfo P s) f)
  | _ => .junk
def fieldOk (P : Program) (s : TypeId) (f : Nat) : AV → Prop
  | .agg cs => cutOk (tinfo P (fty (tinfo P s) f)) cs (foff (tinfo P s) f)
  | _ => False
def iaddrV (P : Program) (k : TK) (x : AV) (n : Int) : AV := match k, x with
  | .slice _, .own b off _ => .ptr b (off + n.toNat) 0
  | .slice _, .ro es => .rop es n.toNat 0
  | .array _ e, .ptr b i c => .ptr b i (c + n.toNat * (tinfo P e).cells)
  | .array _ e, .rop es i c => .rop es i (c + n.toNat * (tinfo P e).cells)
  | _, _ => .junk
def iaddrOk (P : Program) (h : AHeap) (k : TK) (x : AV) (n : Int) : Prop := match k, x with
  | .slice e, .own b off len => (tinfo P e).ok = true ∧ n < len ∧ off + len ≤ (hcells h b).length ∧ hsz h b = (tinfo P e).cells
  | .slice e, .ro es => (tinfo P e).ok = true ∧ n < es.length ∧ (es.getD n.toNat []).length = (tinfo P e).cells
  | .array m e, .ptr _ _ _ => (tinfo P e).ok = true ∧ n < m
  | .array m e, .rop _ _ _ => (tinfo P e).ok = true ∧ n < m
  | _, _ => False
def indexV (P : Program) (k : TK) (x : AV) (n : Int) : AV := match k, x with
  | .string, .str s => .int .u8 ((s.getD n.toNat 0).toNat : Int)
  | .array _ e, .agg cs => acut (tinfo P e) cs (n.toNat * (tinfo P e).cells)
  | _, _ => .junk
def indexOk (P : Program) (k : TK) (x : AV) (n : Int) : Prop := match k, x with
  | .string, .str s => n < s.length
  | .array m e, .agg cs => (tinfo P e).ok = true ∧ n < m ∧ cutOk (tinfo P e) cs (n.toNat * (tinfo P e).cells)
  | _, _ => False
def zeroOk (T : TI) : Prop := T.ok = true ∧ T.zok = true ∧ T.zero.length = T.cells
def lookV (P : Program) (h : AHeap) (kd : TK) (x k : AV) (ok : Bool) : AV := match kd, x with
  | .map _ e, .map b => match ok with
    | true => .tup [(alook (hmap h b) k).getD (azero (tinfo P e)), .bool (alook (hmap h b) k).isSome]
    | false => (alook (hmap h b) k).getD (azero (tinfo P e))
  | .map _ e, .lit (.map none) => match ok with
    | true => .tup [azero (tinfo P e), .bool false]
    | false => azero (tinfo P e)
  | _, _ => .junk
/-- The keys of a map compare with a key. -/
def keysOk (P : Program) (t : TypeId) (k : AV) (kvs : List (AV × AV)) : Prop := aggFit (tinfo P t) k ∧ ∃ bs, flat P 50 t = some bs ∧ cok bs (acells k) (acells k) ∧ ∀ p ∈ kvs, aggFit (tinfo P t) p.1 ∧ cok bs (acells k) (acells p.1)
def lookOk (P : Program) (h : AHeap) (kd : TK) (x k : AV) : Prop := match kd, x with
  | .map t e, .map b => isMap h b = true ∧ zeroOk (tinfo P e) ∧ keysOk P t k (hmap h b)
  | .map t e, .lit (.map none) => zeroOk (tinfo P e) ∧ keysOk P t k []
  | _, _ => False
def extractV (i : Nat) : AV → AV
  | .tup l => l.getD i .junk
  | _ => .junk
def extractOk (i : Nat) : AV → Prop
  | .tup l => i < l.length
  | _ => False
def buildV (P : Program) (t : TypeId) (parts : List (Nat × AV)) : AV := match (tinfo P t).kind with
  | .struct _ => .agg (abuildS (tinfo P t) parts (tinfo P t).zero)
  | .array _ e => .agg (abuildA (tinfo P e).cells parts (tinfo P t).zero)
  | _ => .junk
def buildOk (P : Program) (t : TypeId) (parts : List (Nat × AV)) : Prop := (tinfo P t).zok = true ∧ (tinfo P t).zero.length = (tinfo P t).cells ∧ match (tinfo P t).kind with
  | .struct fs => buildSOk (tinfo P t) parts ∧ ∀ p ∈ fs, (tinfo P p.2.2).ok = true
  | .array _ e => (tinfo P e).ok = true ∧ buildAOk (tinfo P e).cells (tinfo P t).cells parts
  | _ => False
def sliceTOk (P : Program) (h : AHeap) (k : TK) (x : AV) (lo hi : Option Int) : Prop := match k, x with
  | .string, .str s => sliceOk s.length lo hi
  | .slice e, .ro es => (tinfo P e).ok = true ∧ (∀ y ∈ es, y.length = (tinfo P e).cells) ∧ sliceOk es.length lo hi
  | .slice e, .own b off len => (tinfo P e).ok = true ∧ 0 < hsz h b ∧ hsz h b = (tinfo P e).cells ∧ sliceOk len lo hi
  | .slice e, .nil => (tinfo P e).ok = true ∧ sliceOk 0 lo hi
  | .slice e, .e0 => (tinfo P e).ok = true ∧ sliceOk 0 lo hi
  | _, _ => False
def builtinV (h : AHeap) (b : Builtin) (xs : List AV) : AV := match b, xs with
  | .len, [x] => .int .i64 (alen h x)
  | .min, [.int k x, .int _ y] => .int k (min x y)
  | .max, [.int k x, .int _ y] => .int k (max x y)
  | .min, [.int k x, .int _ y, .int _ z] => .int k (min (min x y) z)
  | .max, [.int k x, .int _ y, .int _ z] => .int k (max (max x y) z)
  | _, _ => .junk
def lenOk (h : AHeap) (k : TK) (x : AV) : Prop := match k, x with
  | .string, .str _ => True
  | .slice _, .ro _ => True
  | .slice _, .own _ _ _ => True
  | .slice _, .nil => True
  | .slice _, .e0 => True
  | .map _ _, .map b => isMap h b = true
  | .map _ _, .lit (.map none) => True
  | _, _ => False
def builtinOk (P : Program) (h : AHeap) (b : Builtin) (ts : List TypeId) (xs : List AV) : Prop := match b, xs with
  | .len, [x] => match ts with
    | [t] => lenOk h (tinfo P t).kind x
    | _ => False
  | .min, [.int _ _, .int _ _] => True
  | .max, [.int _ _, .int _ _] => True
  | .min, [.int _ _, .int _ _, .int _ _] => True
  | .max, [.int _ _, .int _ _, .int _ _] => True
  | _, _ => False
def pickOk (c a b : AV) : Prop := match c.core with
  | .bool t => (t = true → a.gd = true ∧ isBoolV a.core) ∧ (t = false → b.gd = true ∧ isBoolV b.core)
  | _ => False
def nilOk : AV → Prop
  | .ptr _ _ _ => True
  | .fn (.func _) _ _ => True
  | _ => False
def ifaceOk (k : TK) : Prop := match k with
  | .iface => False
  | _ => True
def isIntO : Option AV → Prop
  | none => True
  | some x => x.gd = true ∧ isInt x.core

def vval (P : Program) (gl : Globs) (fr : AFrame) (h : AHeap) : Op → AV
  | .move x => (ev gl fr x).core
  | .assign x => (ev gl fr x).core
  | .pick c a b => pickV (ev gl fr c).core (ev gl fr a).core (ev gl fr b).core
  | .build t parts => buildV P t (parts.toList.map fun p => (p.1, (ev gl fr p.2).core))
  | .load t a => loadV P h t (ev gl fr a).core
  | .nilCheck x => (ev gl fr x).core
  | .binOp op _ x y _ => abin op (ev gl fr x).core (ev gl fr y).core
  | .unOp op _ x => aun op (ev gl fr x).core
  | .convert _ dst x => aconv P dst (ev gl fr x).core
  | .makeInterface t x => .iface t (ev gl fr x).core
  | .makeFunc f first caps => .fn f (first.toList.map fun x => (ev gl fr x).core) (caps.toList.map fun x => (ev gl fr x).core)
  | .slice _ x lo hi _ => aslice (ev gl fr x).core (lo.map fun x => aint (ev gl fr x).core) (hi.map fun x => aint (ev gl fr x).core)
  | .fieldAddr s x f => faddrV P s f (ev gl fr x).core
  | .field s x f => fieldV P s f (ev gl fr x).core
  | .indexAddr t x ix => iaddrV P (tinfo P t).kind (ev gl fr x).core (aint (ev gl fr ix).core)
  | .index t x ix => indexV P (tinfo P t).kind (ev gl fr x).core (aint (ev gl fr ix).core)
  | .lookup t x ix ok => lookV P h (tinfo P t).kind (ev gl fr x).core (ev gl fr ix).core ok
  | .extract x i => extractV i (ev gl fr x).core
  | _ => .junk

def vok (P : Program) (gl : Globs) (fr : AFrame) (h : AHeap) : Op → Prop
  | .move x => (ev gl fr x).gd = true
  | .assign x => (ev gl fr x).gd = true
  | .pick c a b => (ev gl fr c).gd = true ∧ pickOk (ev gl fr c) (ev gl fr a) (ev gl fr b)
  | .build t parts => (∀ p ∈ parts.toList, (ev gl fr p.2).gd = true) ∧ buildOk P t (parts.toList.map fun p => (p.1, (ev gl fr p.2).core))
  | .load t a => (ev gl fr a).gd = true ∧ (tinfo P t).ok = true ∧ loadOk P h t (ev gl fr a).core
  | .nilCheck x => (ev gl fr x).gd = true ∧ nilOk (ev gl fr x).core
  | .binOp op t x y _ => (ev gl fr x).gd = true ∧ (ev gl fr y).gd = true ∧ abinOk P op t (ev gl fr x).core (ev gl fr y).core
  | .unOp op _ x => (ev gl fr x).gd = true ∧ aunOk op (ev gl fr x).core
  | .convert src dst x => (ev gl fr x).gd = true ∧ aconvOk P src dst (ev gl fr x).core
  | .makeInterface t x => (ev gl fr x).gd = true ∧ (tinfo P t).ok = true ∧ ifaceOk (tinfo P t).kind
  | .makeFunc _ first caps => (∀ x ∈ first.toList, (ev gl fr x).gd = true) ∧ (∀ x ∈ caps.toList, (ev gl fr x).gd = true)
  | .slice t x lo hi mx => (ev gl fr x).gd = true ∧ mx = none ∧ isIntO (lo.map (ev gl fr)) ∧ isIntO (hi.map (ev gl fr)) ∧
    sliceTOk P h (tinfo P t).kind (ev gl fr x).core (lo.map fun x => aint (ev gl fr x).core) (hi.map fun x => aint (ev gl fr x).core)
  | .fieldAddr s x f => (ev gl fr x).gd = true ∧ f < (fieldsOf (tinfo P s)).length ∧ 0 < fsz (tinfo P s) f ∧ (tinfo P (fty (tinfo P s) f)).ok = true ∧ faddrOk (ev gl fr x).core
  | .field s x f => (ev gl fr x).gd = true ∧ f < (fieldsOf (tinfo P s)).length ∧ (tinfo P (fty (tinfo P s) f)).ok = true ∧ fieldOk P s f (ev gl fr x).core
  | .indexAddr t x ix => (ev gl fr x).gd = true ∧ (ev gl fr ix).gd = true ∧ isInt (ev gl fr ix).core ∧ 0 ≤ aint (ev gl fr ix).core ∧ iaddrOk P h (tinfo P t).kind (ev gl fr x).core (aint (ev gl fr ix).core)
  | .index t x ix => (ev gl fr x).gd = true ∧ (ev gl fr ix).gd = true ∧ isInt (ev gl fr ix).core ∧ 0 ≤ aint (ev gl fr ix).core ∧ indexOk P (tinfo P t).kind (ev gl fr x).core (aint (ev gl fr ix).core)
  | .lookup t x ix _ => (ev gl fr x).gd = true ∧ (ev gl fr ix).gd = true ∧ lookOk P h (tinfo P t).kind (ev gl fr x).core (ev gl fr ix).core
  | .extract x i => (ev gl fr x).gd = true ∧ extractOk i (ev gl fr x).core
  | _ => False
end Go.Abs
end
