/-
  An abstract state for the walks: values as trees, memory of the call's own as a list of abstract blocks; what a call does, told over that state. No program in sight.
-/
import Derived.Calls
import Derived.Laws.AppendOwn
import Derived.Orders
set_option linter.unusedVariables false
set_option linter.unusedSimpArgs false
namespace Go.Abs
open Go

/-- An abstract value. 'ro': a slice that is only read (each element: its cells); 'rop': a pointer into such memory; 'own': a slice of a block of the abstract heap; 'ptr': a pointer into such a block; 'opt g x': x if g holds. -/
inductive AV where
  | bool (b : Bool)
  | int (k : IntKind) (n : Int)
  | str (s : List UInt8)
  | lit (x : Value)
  | agg (cs : List AV)
  | tup (cs : List AV)
  | nil
  | e0
  | ro (es : List (List AV))
  | rop (es : List (List AV)) (i c : Nat)
  | own (b off len : Nat)
  | ptr (b i c : Nat)
  | fn (f : Fn) (first caps : List AV)
  | map (b : Nat)
  | obj (b : Nat)
  | iface (t : TypeId) (x : AV)
  | opt (g : Bool) (x : AV)
  | junk
  deriving Inhabited

/-- Where an abstract block lies: the real block, the first cell, the cells of an element, the capacity in elements. -/
structure Blk where
  r : Nat
  base : Nat
  n : Nat
  cap : Nat

inductive AObj where
  | dead
  | cells (n : Nat) (es : List (List AV))
  | map (kvs : List (AV × AV))
  | raw (o : Obj)

abbrev AHeap := List AObj
abbrev AFrame := Nat → AV

theorem add_block (a : Addr) (n : Nat) : (a.add n).block = a.block := by unfold Addr.add; split <;> rfl

/-- How a real value shows an abstract one. -/
inductive VRel (J : List Blk) (O : Nat → Prop) (w : World) : AV → Value → Prop
  | bool (b : Bool) : VRel J O w (.bool b) (.bool b)
  | int (k : IntKind) (n : Int) : VRel J O w (.int k n) (.int k n)
  | str (s : List UInt8) : VRel J O w (.str s) (.string ⟨s.toArray⟩)
  | lit (x : Value) (h : x.oneCell' = true) : VRel J O w (.lit x) x
  | agg (cs : List AV) (vs : List Value) (hl : cs.length = vs.length) (h1 : ∀ v ∈ vs, v.oneCell' = true)
      (h : ∀ (i : Nat) (x : AV) (v : Value), cs[i]? = some x → vs[i]? = some v → VRel J O w x v) : VRel J O w (.agg cs) (.agg vs.toArray)
  | tup (cs : List AV) (vs : List Value) (hl : cs.length = vs.length)
      (h : ∀ (i : Nat) (x : AV) (v : Value), cs[i]? = some x → vs[i]? = some v → VRel J O w x v) : VRel J O w (.tup cs) (.tuple vs.toArray)
  | nil : VRel J O w .nil (.slice none 0 0)
  | e0 (a : Option Addr) : VRel J O w .e0 (.slice a 0 0)
  | roNil : VRel J O w (.ro []) (.slice none 0 0)
  | ro (es : List (List AV)) (a : Addr) (n cap : Nat) (f : Nat → Nat → Value) (hcap : es.length ≤ cap) (hn : 0 < n)
      (hO : es = [] ∨ (a.block < w.heap.size ∧ ¬ O a.block)) (hl : ∀ (i : Nat) (e : List AV), es[i]? = some e → e.length = n)
      (hc : ∀ (i : Nat) (e : List AV) (c : Nat) (x : AV), es[i]? = some e → e[c]? = some x → w.cell? (a.add (i * n + c)) = some (f i c))
      (h1 : ∀ (i : Nat) (e : List AV) (c : Nat) (x : AV), es[i]? = some e → e[c]? = some x → (f i c).oneCell' = true)
      (h : ∀ (i : Nat) (e : List AV) (c : Nat) (x : AV), es[i]? = some e → e[c]? = some x → VRel J O w x (f i c)) : VRel J O w (.ro es) (.slice (some a) es.length cap)
  | rop (es : List (List AV)) (i₀ c₀ : Nat) (a : Addr) (n : Nat) (f : Nat → Nat → Value) (hn : 0 < n)
      (hO : es = [] ∨ (a.block < w.heap.size ∧ ¬ O a.block)) (hl : ∀ (i : Nat) (e : List AV), es[i]? = some e → e.length = n)
      (hc : ∀ (i : Nat) (e : List AV) (c : Nat) (x : AV), es[i]? = some e → e[c]? = some x → w.cell? (a.add (i * n + c)) = some (f i c))
      (h1 : ∀ (i : Nat) (e : List AV) (c : Nat) (x : AV), es[i]? = some e → e[c]? = some x → (f i c).oneCell' = true)
      (h : ∀ (i : Nat) (e : List AV) (c : Nat) (x : AV), es[i]? = some e → e[c]? = some x → VRel J O w x (f i c)) : VRel J O w (.rop es i₀ c₀) (.pointer (some (a.add (i₀ * n + c₀))))
  | own (b off len : Nat) (k : Blk) (a : Addr) (cap : Nat) (hb : J[b]? = some k) (ha : 0 < cap → a = ⟨k.r, k.base + off * k.n, none⟩)
      (hlen : len ≤ cap) (hcap : off + cap ≤ k.cap) : VRel J O w (.own b off len) (.slice (some a) len cap)
  | ptr (b i c : Nat) (k : Blk) (hb : J[b]? = some k) : VRel J O w (.ptr b i c) (.pointer (some ⟨k.r, k.base + (i * k.n + c), none⟩))
  | fn (f : Fn) (first caps : List AV) (vf vc : List Value) (hf : first.length = vf.length) (hc : caps.length = vc.length)
      (h1 : ∀ (i : Nat) (x : AV) (v : Value), first[i]? = some x → vf[i]? = some v → VRel J O w x v)
      (h2 : ∀ (i : Nat) (x : AV) (v : Value), caps[i]? = some x → vc[i]? = some v → VRel J O w x v) : VRel J O w (.fn f first caps) (.func f vf.toArray vc.toArray)
  | map (b : Nat) (k : Blk) (hb : J[b]? = some k) : VRel J O w (.map b) (.map (some k.r))
  | obj (b : Nat) (k : Blk) (hb : J[b]? = some k) : VRel J O w (.obj b) (.pointer (some ⟨k.r, 0, none⟩))
  | iface (t : TypeId) (x : AV) (v : Value) (h : VRel J O w x v) : VRel J O w (.iface t x) (.iface t v)
  | opt (g : Bool) (x : AV) (v : Value) (h : g = true → VRel J O w x v) (h0 : g = false → v = undef) : VRel J O w (.opt g x) v
  | junk (v : Value) : VRel J O w .junk v

theorem prefix_get {α : Type} {J J' : List α} {t : List α} (h : J' = J ++ t) {b : Nat} {k : α} (hb : J[b]? = some k) : J'[b]? = some k := by
  subst h
  have hlt : b < J.length := by
    rcases Nat.lt_or_ge b J.length with h | h
    · exact h
    · simp [List.getElem?_eq_none h] at hb
  rw [List.getElem?_append_left hlt]; exact hb

theorem VRel.mono {J J' : List Blk} {O O' : Nat → Prop} {w w' : World} (hJ : ∃ t, J' = J ++ t) (hs : w.heap.size ≤ w'.heap.size)
    (hk : ∀ r, r < w.heap.size → ¬ O r → w'.heap[r]? = w.heap[r]? ∧ ¬ O' r) {x : AV} {v : Value} (h : VRel J O w x v) : VRel J' O' w' x v := by
  obtain ⟨t, hJ⟩ := hJ
  induction h with
  | bool b => exact .bool b
  | int k n => exact .int k n
  | str s => exact .str s
  | lit x h => exact .lit x h
  | agg cs vs hl h1 _ ih => exact .agg cs vs hl h1 ih
  | tup cs vs hl _ ih => exact .tup cs vs hl ih
  | nil => exact .nil
  | e0 a => exact .e0 a
  | roNil => exact .roNil
  | ro es a n cap f hcap hn hO hl hc h1 _ ih =>
    refine .ro es a n cap f hcap hn ?_ hl ?_ h1 ih
    · exact hO.imp id fun ⟨p, q⟩ => ⟨Nat.lt_of_lt_of_le p hs, (hk _ p q).2⟩
    · intro i e c x hi hx
      have := hc i e c x hi hx
      rcases hO with rfl | ⟨p, q⟩
      · simp at hi
      · rw [← this]; exact World.cell?_of_block (by rw [add_block]; exact (hk _ p q).1)
  | rop es i₀ c₀ a n f hn hO hl hc h1 _ ih =>
    refine .rop es i₀ c₀ a n f hn ?_ hl ?_ h1 ih
    · exact hO.imp id fun ⟨p, q⟩ => ⟨Nat.lt_of_lt_of_le p hs, (hk _ p q).2⟩
    · intro i e c x hi hx
      have := hc i e c x hi hx
      rcases hO with rfl | ⟨p, q⟩
      · simp at hi
      · rw [← this]; exact World.cell?_of_block (by rw [add_block]; exact (hk _ p q).1)
  | own b off len k a cap hb ha hlen hcap => exact .own b off len k a cap (prefix_get hJ hb) ha hlen hcap
  | ptr b i c k hb => exact .ptr b i c k (prefix_get hJ hb)
  | fn f first caps vf vc hf hc _ _ ih1 ih2 => exact .fn f first caps vf vc hf hc ih1 ih2
  | map b k hb => exact .map b k (prefix_get hJ hb)
  | obj b k hb => exact .obj b k (prefix_get hJ hb)
  | iface t x v _ ih => exact .iface t x v ih
  | opt g x v _ h0 ih => exact .opt g x v ih h0
  | junk v => exact .junk v

/-- The real blocks that the abstract heap holds. -/
def Own (h : AHeap) (J : List Blk) (r : Nat) : Prop := ∃ (b : Nat) (k : Blk) (o : AObj), J[b]? = some k ∧ h[b]? = some o ∧ o ≠ .dead ∧ k.r = r

/-- How a real block shows an abstract one. -/
def ORel (J : List Blk) (O : Nat → Prop) (w : World) (k : Blk) : AObj → Prop
  | .dead => True
  | .cells n es => k.n = n ∧ 0 < k.n ∧ es.length ≤ k.cap ∧ (∀ (i : Nat) (e : List AV), es[i]? = some e → e.length = k.n) ∧ ∃ (vs : Array Value) (T : TypeId), w.heap[k.r]? = some (.cells vs T (0, 0)) ∧
      k.base + k.cap * k.n ≤ vs.size ∧ ∀ (i : Nat) (e : List AV) (c : Nat) (x : AV), es[i]? = some e → e[c]? = some x → ∃ v : Value, vs[k.base + (i * k.n + c)]? = some v ∧ v.oneCell' = true ∧ VRel J O w x v
  | .map kvs => ∃ (es : Array MapEntry) (clock : Nat), w.heap[k.r]? = some (.map es clock) ∧ es.size = kvs.length ∧
      (∀ (i : Nat) (e : MapEntry) (p : AV × AV), es[i]? = some e → kvs[i]? = some p → VRel J O w p.1 e.key ∧ VRel J O w p.2 e.val) ∧ clock = es.size ∧ ∀ (i : Nat) (e : MapEntry), es[i]? = some e → e.born = i
  | .raw o => w.heap[k.r]? = some o

abbrev Globs := Nat → Option (List AV)

structure HRel (gl : Globs) (h : AHeap) (J : List Blk) (w : World) : Prop where
  len : J.length = h.length
  inj : ∀ (b b' : Nat) (k k' : Blk) (o o' : AObj), J[b]? = some k → J[b']? = some k' → h[b]? = some o → h[b']? = some o' → o ≠ .dead → o' ≠ .dead → k.r = k'.r → b = b'
  lt : ∀ (b : Nat) (k : Blk), J[b]? = some k → k.r < w.heap.size
  obj : ∀ (b : Nat) (k : Blk) (o : AObj), J[b]? = some k → h[b]? = some o → ORel J (Own h J) w k o
  glob : ∀ (g : Nat) (cs : List AV), gl g = some cs → VRel J (Own h J) w (.rop [cs] 0 0) (.pointer (some ⟨g, 0, none⟩))

/-- What a run may have done to the world: only blocks of the abstract heap, and new ones, have turned. -/
structure Evo (h : AHeap) (J : List Blk) (w : World) (h' : AHeap) (J' : List Blk) (w' : World) : Prop where
  pre : ∃ t, J' = J ++ t
  size : w.heap.size ≤ w'.heap.size
  keep : ∀ r, r < w.heap.size → ¬ Own h J r → w'.heap[r]? = w.heap[r]? ∧ ¬ Own h' J' r
  os : w'.os = w.os
  tape : w'.tape = w.tape
  output : w'.output = w.output

theorem Evo.refl (h : AHeap) (J : List Blk) (w : World) : Evo h J w h J w := ⟨⟨[], by simp⟩, Nat.le_refl _, fun _ _ n => ⟨rfl, n⟩, rfl, rfl, rfl⟩

theorem Evo.trans {h h' h'' : AHeap} {J J' J'' : List Blk} {w w' w'' : World} (a : Evo h J w h' J' w') (b : Evo h' J' w' h'' J'' w'') : Evo h J w h'' J'' w'' := by
  obtain ⟨t, ht⟩ := a.pre
  obtain ⟨t', ht'⟩ := b.pre
  refine ⟨⟨t ++ t', by rw [ht', ht, List.append_assoc]⟩, Nat.le_trans a.size b.size, fun r hr hn => ?_, b.os.trans a.os, b.tape.trans a.tape, b.output.trans a.output⟩
  obtain ⟨h1, h2⟩ := a.keep r hr hn
  obtain ⟨h3, h4⟩ := b.keep r (Nat.lt_of_lt_of_le hr a.size) h2
  exact ⟨h3.trans h1, h4⟩

theorem VRel.evo {h h' : AHeap} {J J' : List Blk} {w w' : World} (e : Evo h J w h' J' w') {x : AV} {v : Value} (hv : VRel J (Own h J) w x v) : VRel J' (Own h' J') w' x v :=
  hv.mono e.pre e.size e.keep

/-- Lists of values. -/
def VRels (J : List Blk) (O : Nat → Prop) (w : World) (xs : List AV) (vs : List Value) : Prop :=
  xs.length = vs.length ∧ ∀ (i : Nat) (x : AV) (v : Value), xs[i]? = some x → vs[i]? = some v → VRel J O w x v

theorem VRels.evo {h h' : AHeap} {J J' : List Blk} {w w' : World} (e : Evo h J w h' J' w') {x : List AV} {v : List Value} (hv : VRels J (Own h J) w x v) : VRels J' (Own h' J') w' x v :=
  ⟨hv.1, fun i x v hx hv' => (hv.2 i x v hx hv').evo e⟩

theorem VRels.nil {J : List Blk} {O : Nat → Prop} {w : World} : VRels J O w [] [] := ⟨rfl, by simp⟩
theorem VRels.cons {J : List Blk} {O : Nat → Prop} {w : World} {x : AV} {v : Value} {xs : List AV} {vs : List Value} (h : VRel J O w x v) (hs : VRels J O w xs vs) : VRels J O w (x :: xs) (v :: vs) := by
  refine ⟨by simp [hs.1], fun i y u hy hu => ?_⟩
  cases i with
  | zero => simp at hy hu; subst hy; subst hu; exact h
  | succ i => simp at hy hu; exact hs.2 i y u hy hu
theorem VRels.append {J : List Blk} {O : Nat → Prop} {w : World} {xs ys : List AV} {vs us : List Value} (h : VRels J O w xs vs) (hs : VRels J O w ys us) : VRels J O w (xs ++ ys) (vs ++ us) := by
  refine ⟨by simp [h.1, hs.1], fun i y u hy hu => ?_⟩
  rcases Nat.lt_or_ge i xs.length with hi | hi
  · rw [List.getElem?_append_left hi] at hy
    rw [List.getElem?_append_left (by rw [← h.1]; exact hi)] at hu
    exact h.2 i y u hy hu
  · rw [List.getElem?_append_right hi] at hy
    rw [List.getElem?_append_right (by rw [← h.1]; exact hi), ← h.1] at hu
    exact hs.2 _ y u hy hu

/-- WHAT A CALL DOES, told over the abstract state. -/
def ACalls (P : Program) (gl : Globs) (f : FuncId) (args : List AV) (h : AHeap) (R : AV → AHeap → Prop) : Prop :=
  (∃ fn, P.funcs[f]? = some fn ∧ fn.body.isSome = true ∧ (fn.name == "runtime.NumGoroutine") = false) ∧
  ∀ (J : List Blk) (w : World) (vs : List Value), HRel gl h J w → VRels J (Own h J) w args vs →
    Calls P f vs.toArray w fun e w' => ∃ x v J' h', e = .returned v ∧ HRel gl h' J' w' ∧ VRel J' (Own h' J') w' x v ∧ Evo h J w h' J' w' ∧ R x h'

theorem Calls.mono' {P : Program} {f : FuncId} {args : Array Value} {w : World} {R R' : Ending → World → Prop} (h : Calls P f args w R) (hr : ∀ e w', R e w' → R' e w') : Calls P f args w R' :=
  fun cs => let ⟨e, w', fr, r, s⟩ := h cs; ⟨e, w', fr, hr _ _ r, s⟩

theorem ACalls.mono {P : Program} {gl : Globs} {f : FuncId} {args : List AV} {h : AHeap} {R R' : AV → AHeap → Prop} (c : ACalls P gl f args h R) (hr : ∀ x h', R x h' → R' x h') : ACalls P gl f args h R' :=
  ⟨c.1, fun J w vs hh hv => Calls.mono' (c.2 J w vs hh hv) fun _ _ ⟨x, v, J', h', p1, p2, p3, p4, p5⟩ => ⟨x, v, J', h', p1, p2, p3, p4, hr _ _ p5⟩⟩

/-- The frame and the heap show the abstract state. -/
structure ARel (gl : Globs) (N : Nat) (J : List Blk) (fr : AFrame) (h : AHeap) (a : Act) (w : World) : Prop where
  size : a.tmps.size = N
  defers : a.defers = []
  tmps : ∀ t, VRel J (Own h J) w (fr t) (a.tmps.getD t undef)
  heap : HRel gl h J w

abbrev APost := Exit → AFrame → AHeap → Prop

def lift (gl : Globs) (N : Nat) (h : AHeap) (J : List Blk) (w : World) (Q : APost) : Exit → Act → World → Prop :=
  fun e a' w' => ∃ J' fr' h', ARel gl N J' fr' h' a' w' ∧ Evo h J w h' J' w' ∧ Q e fr' h'

/-- A piece of code, told over the abstract state. -/
def AWP (P : Program) (gl : Globs) (N : Nat) (c : Code) (Q : APost) (fr : AFrame) (h : AHeap) : Prop :=
  ∀ J a w, ARel gl N J fr h a w → c.wp P (lift gl N h J w Q) a w

def AThen (K : AFrame → AHeap → Prop) (Q : APost) : APost
  | .normal, fr, h => K fr h
  | e, fr, h => Q e fr h
def ABlock (id : Nat) (Q : APost) : APost
  | .exit id', fr, h => if id' = id then Q .normal fr h else Q (.exit id') fr h
  | e, fr, h => Q e fr h

section
variable {P : Program} {gl : Globs} {N : Nat} {Q Q' : APost} {fr : AFrame} {h : AHeap}

theorem lift_mono {J : List Blk} {w : World} (hq : ∀ e fr h, Q e fr h → Q' e fr h) {e : Exit} {a' : Act} {w' : World} (hl : lift gl N h J w Q e a' w') : lift gl N h J w Q' e a' w' :=
  let ⟨J', fr', h', r, ev, q⟩ := hl
  ⟨J', fr', h', r, ev, hq _ _ _ q⟩

theorem AWP.mono {c : Code} (hc : AWP P gl N c Q fr h) (hq : ∀ e fr h, Q e fr h → Q' e fr h) : AWP P gl N c Q' fr h :=
  fun J a w r => wp_mono (hc J a w r) fun _ _ _ hl => lift_mono hq hl

theorem lift_evo {J J' : List Blk} {w w' : World} {h' : AHeap} (ev : Evo h J w h' J' w') {e : Exit} {a'' : Act} {w'' : World} (hl : lift gl N h' J' w' Q e a'' w'') : lift gl N h J w Q e a'' w'' :=
  let ⟨J'', fr'', h'', r, ev', q⟩ := hl
  ⟨J'', fr'', h'', r, ev.trans ev', q⟩

theorem AWP.skip (hq : Q .normal fr h) : AWP P gl N .skip Q fr h := fun J _ w r => wp_skip ⟨J, fr, h, r, Evo.refl _ _ _, hq⟩
theorem AWP.exit {id : Nat} (hq : Q (.exit id) fr h) : AWP P gl N (.exit id) Q fr h := fun J _ w r => wp_exit ⟨J, fr, h, r, Evo.refl _ _ _, hq⟩
theorem AWP.ret (hq : Q .ret fr h) : AWP P gl N .ret Q fr h := fun J _ w r => wp_ret ⟨J, fr, h, r, Evo.refl _ _ _, hq⟩
theorem AWP.label {l : Nat} (hq : Q .normal fr h) : AWP P gl N (.label l) Q fr h := fun J _ w r => wp_label ⟨J, fr, h, r, Evo.refl _ _ _, hq⟩

theorem AWP.seq {x y : Code} (hx : AWP P gl N x (AThen (AWP P gl N y Q) Q) fr h) : AWP P gl N (.seq x y) Q fr h := by
  intro J a w r
  refine wp_seq (wp_mono (hx J a w r) ?_)
  rintro e a' w' ⟨J', fr', h', r', ev, q⟩
  cases e with
  | normal => exact wp_mono (q J' a' w' r') fun _ _ _ hl => lift_evo ev hl
  | _ => exact ⟨J', fr', h', r', ev, q⟩

theorem AWP.block {id : Nat} {c : Code} (hc : AWP P gl N c (ABlock id Q) fr h) : AWP P gl N (.block id c) Q fr h := by
  intro J a w r
  refine wp_block (wp_mono (hc J a w r) ?_)
  rintro e a' w' ⟨J', fr', h', r', ev, q⟩
  cases e with
  | exit id' =>
    simp only [Exit.inBlock, ABlock] at q ⊢
    split
    · rename_i hid; simp only [hid, if_true] at q; exact ⟨J', fr', h', r', ev, q⟩
    · rename_i hid; simp only [hid, if_false] at q; exact ⟨J', fr', h', r', ev, q⟩
  | _ => exact ⟨J', fr', h', r', ev, q⟩

theorem wp_loop_ghost {c : Code} {Q : Exit → Act → World → Prop} {a : Act} {w : World} (I : Nat → Act → World → Prop) (n : Nat) (h₀ : I n a w)
    (round : ∀ m a w, I m a w → c.wp P (Exit.then (fun a' w' => ∃ m', m' < m ∧ I m' a' w') Q) a w) : (Code.loop c).wp P Q a w := by
  intro b k cs
  have key : ∀ n a w, I n a w → ∃ e a' w', Q e a' w' ∧ Arrives P (lone (b.at a (.code c :: .inLoop c :: k)) cs w) b k cs e a' w' := by
    intro n
    induction n using Nat.strongRecOn with
    | _ n ih =>
      intro a w hI
      obtain ⟨e, a₁, w₁, hq, harr⟩ := round n a w hI b (.inLoop c :: k) cs
      cases e with
      | normal =>
        obtain ⟨m, hlt, hI₁⟩ := hq
        obtain ⟨e₂, a₂, w₂, hq₂, harr₂⟩ := ih m hlt a₁ w₁ hI₁
        exact ⟨e₂, a₂, w₂, hq₂, .of_steps (Steps.trans harr (.one step_inLoop)) harr₂⟩
      | exit id => exact ⟨_, a₁, w₁, hq, .pass (x := .inLoop c) rfl (fun _ _ => .inl (by simp)) harr⟩
      | goto l => exact ⟨_, a₁, w₁, hq, .pass (x := .inLoop c) rfl (fun _ _ => .inl (by simp)) harr⟩
      | ret => exact ⟨_, a₁, w₁, hq, .pass (x := .inLoop c) rfl (fun _ _ => .inl (by simp)) harr⟩
      | panic ch => exact ⟨_, a₁, w₁, hq, .pass (x := .inLoop c) rfl (fun _ _ => .inl (by simp)) harr⟩
      | outgrown => exact ⟨_, a₁, w₁, hq, .pass (x := .inLoop c) rfl (fun _ _ => .inl (by simp)) harr⟩
  obtain ⟨e, a', w', hq, harr⟩ := key n a w h₀
  exact ⟨e, a', w', hq, .of_steps (.one step_loop) harr⟩

/-- A loop: what holds at each round's head, with a number that every round lowers. -/
theorem AWP.loop {c : Code} (I : Nat → AFrame → AHeap → Prop) (n : Nat) (h0 : I n fr h)
    (round : ∀ m fr h, I m fr h → AWP P gl N c (AThen (fun fr' h' => ∃ m', m' < m ∧ I m' fr' h') Q) fr h) : AWP P gl N (.loop c) Q fr h := by
  intro J a w r
  refine wp_loop_ghost (P := P) (fun m a' w' => ∃ J' fr' h', ARel gl N J' fr' h' a' w' ∧ Evo h J w h' J' w' ∧ I m fr' h') n ⟨J, fr, h, r, Evo.refl _ _ _, h0⟩ ?_
  rintro m a' w' ⟨J', fr', h', r', ev, hI⟩
  refine wp_mono (round m fr' h' hI J' a' w' r') ?_
  rintro e a'' w'' ⟨J'', fr'', h'', r'', ev', q⟩
  cases e with
  | normal =>
    obtain ⟨m', hlt, hI'⟩ := q
    exact ⟨m', hlt, J'', fr'', h'', r'', ev.trans ev', hI'⟩
  | _ => exact ⟨J'', fr'', h'', r'', ev.trans ev', q⟩

/-- A counter that goes up to 'n'. -/
theorem AWP.loop_up {c : Code} (n : Nat) (I : Nat → AFrame → AHeap → Prop) (k : Nat) (hk : k ≤ n) (h0 : I k fr h)
    (round : ∀ k fr h, k ≤ n → I k fr h → AWP P gl N c (AThen (fun fr' h' => ∃ k', k < k' ∧ k' ≤ n ∧ I k' fr' h') Q) fr h) : AWP P gl N (.loop c) Q fr h := by
  refine AWP.loop (fun m fr h => ∃ k, k ≤ n ∧ m = n - k ∧ I k fr h) (n - k) ⟨k, hk, rfl, h0⟩ ?_
  rintro m fr h ⟨k, hk, rfl, hI⟩
  refine (round k fr h hk hI).mono ?_
  intro e fr' h' q
  cases e with
  | normal =>
    obtain ⟨k', h1, h2, h3⟩ := q
    exact ⟨n - k', by omega, k', h2, rfl, h3⟩
  | _ => exact q

/-- The abstract frame in which a call begins. -/
def ainit (args : List AV) : AFrame := fun t => args.getD t .junk

/-- What a call hands back. -/
def ares (fr : AFrame) : List ResultVar → Option AV
  | [.tmp t] => some (fr t)
  | [.tmp t, .tmp u] => some (.tup [fr t, fr u])
  | [.tmp t, .tmp u, .tmp x] => some (.tup [fr t, fr u, fr x])
  | [.tmp t, .tmp u, .tmp x, .tmp y] => some (.tup [fr t, fr u, fr x, fr y])
  | [] => some (.tup [])
  | _ => none

def aleaves (fn : Func) (R : AV → AHeap → Prop) : APost
  | .normal, fr, h | .ret, fr, h => ∃ x, ares fr fn.results.toList = some x ∧ R x h
  | _, _, _ => False

theorem ares_sound {J : List Blk} {a : Act} {w : World} {fn : Func} {x : AV} (r : ARel gl N J fr h a w) (hx : ares fr fn.results.toList = some x) :
    ∃ v, (results fn a.tmps).run P w = .ok v w ∧ VRel J (Own h J) w x v := by
  obtain ⟨l, hl⟩ : ∃ l, l = fn.results.toList := ⟨_, rfl⟩
  have hr : fn.results = l.toArray := by simp [hl]
  rw [← hl] at hx
  unfold ares at hx
  split at hx <;> first
    | (injection hx with hx; subst hx)
    | (simp at hx; done)
  · rename_i t
    exact ⟨_, by simp [results, hr], r.tmps t⟩
  · rename_i t u
    refine ⟨.tuple [a.tmps.getD t undef, a.tmps.getD u undef].toArray, by simp [results, hr], ?_⟩
    exact .tup _ _ rfl (VRels.cons (r.tmps t) (VRels.cons (r.tmps u) .nil)).2
  · rename_i t u x
    refine ⟨.tuple [a.tmps.getD t undef, a.tmps.getD u undef, a.tmps.getD x undef].toArray, by simp [results, hr], ?_⟩
    exact .tup _ _ rfl (VRels.cons (r.tmps t) (VRels.cons (r.tmps u) (VRels.cons (r.tmps x) .nil))).2
  · rename_i t u x y
    refine ⟨.tuple [a.tmps.getD t undef, a.tmps.getD u undef, a.tmps.getD x undef, a.tmps.getD y undef].toArray, by simp [results, hr], ?_⟩
    exact .tup _ _ rfl (VRels.cons (r.tmps t) (VRels.cons (r.tmps u) (VRels.cons (r.tmps x) (VRels.cons (r.tmps y) .nil)))).2
  · refine ⟨.tuple [].toArray, by simp [results, hr], .tup _ _ rfl VRels.nil.2⟩

/-- A function's contract from its body. -/
theorem ACalls.of_body {f : FuncId} {fn : Func} {c : Code} {args : List AV} {R : AV → AHeap → Prop} (hf : P.funcs[f]? = some fn) (hb : fn.body = some c) (hname : (fn.name == "runtime.NumGoroutine") = false)
    (hn : args.length ≤ fn.ntmps) (hc : AWP P gl fn.ntmps c (aleaves fn R) (ainit args) h) : ACalls P gl f args h R := by
  refine ⟨⟨fn, hf, by simp [hb], hname⟩, fun J w vs hh hv => ?_⟩
  refine calls_of_wp hf hb ?_
  have hr : ARel gl fn.ntmps J (ainit args) h { tmps := vs.toArray ++ Array.replicate (fn.ntmps - vs.toArray.size) undef, defers := [] } w := by
    refine ⟨?_, rfl, fun t => ?_, hh⟩
    · have := hv.1
      simp; omega
    · unfold ainit
      rcases Nat.lt_or_ge t args.length with h1 | h1
      · have h2 : t < vs.length := by rw [← hv.1]; exact h1
        have e1 : args.getD t .junk = args[t] := by simp [List.getD, h1]
        have e2 : (vs.toArray ++ Array.replicate (fn.ntmps - vs.toArray.size) undef).getD t undef = vs[t] := by
          simp [Array.getD_eq_getD_getElem?, Array.getElem?_append, h2]
        rw [e1, e2]
        exact hv.2 t _ _ (List.getElem?_eq_getElem h1) (List.getElem?_eq_getElem h2)
      · have e1 : args.getD t .junk = .junk := by simp [List.getD, h1]
        rw [e1]
        exact .junk _
  refine wp_mono (hc J _ w hr) ?_
  rintro e a' w' ⟨J', fr', h', r', ev, q⟩
  cases e with
  | normal =>
    obtain ⟨x, hx, hR⟩ := q
    obtain ⟨v, hv1, hv2⟩ := ares_sound (P := P) r' hx
    exact ⟨r'.defers, v, hv1, x, v, J', h', rfl, r'.heap, hv2, ev, hR⟩
  | ret =>
    obtain ⟨x, hx, hR⟩ := q
    obtain ⟨v, hv1, hv2⟩ := ares_sound (P := P) r' hx
    exact ⟨r'.defers, v, hv1, x, v, J', h', rfl, r'.heap, hv2, ev, hR⟩
  | _ => exact q.elim

end
end Go.Abs
