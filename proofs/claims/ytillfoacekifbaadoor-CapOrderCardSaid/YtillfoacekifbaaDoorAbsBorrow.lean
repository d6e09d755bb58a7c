/-
  Memory of the caller's own, lent for reading: a callee that is told over shared slices alone serves slices of the caller's own blocks too.
-/
import Derived.Test.YtillfoacekifbaaDoorAbsRd
set_option linter.unusedVariables false
set_option linter.unusedSimpArgs false
namespace Go.Abs
open Go

/-- Values that lead to no memory at all. -/
inductive AV.Pure : AV → Prop
  | bool (b : Bool) : Pure (.bool b)
  | int (k : IntKind) (n : Int) : Pure (.int k n)
  | str (s : List UInt8) : Pure (.str s)
  | lit (x : Value) : Pure (.lit x)
  | agg (cs : List AV) (h : ∀ x ∈ cs, Pure x) : Pure (.agg cs)
  | tup (cs : List AV) (h : ∀ x ∈ cs, Pure x) : Pure (.tup cs)

theorem VRel.pure {J J' : List Blk} {O O' : Nat → Prop} {w w' : World} {x : AV} {v : Value} (h : VRel J O w x v) : x.Pure → VRel J' O' w' x v := by
  induction h with
  | bool b => exact fun _ => .bool b
  | int k n => exact fun _ => .int k n
  | str s => exact fun _ => .str s
  | lit x h => exact fun _ => .lit x h
  | agg cs vs hl h1 _ ih => intro hp; cases hp with | agg _ hp => exact .agg cs vs hl h1 fun i x v hx hv => ih i x v hx hv (hp x (List.mem_of_getElem? hx))
  | tup cs vs hl _ ih => intro hp; cases hp with | tup _ hp => exact .tup cs vs hl fun i x v hx hv => ih i x v hx hv (hp x (List.mem_of_getElem? hx))
  | nil => intro hp; cases hp
  | e0 a => intro hp; cases hp
  | roNil => intro hp; cases hp
  | ro => intro hp; cases hp
  | rop => intro hp; cases hp
  | own => intro hp; cases hp
  | ptr => intro hp; cases hp
  | fn => intro hp; cases hp
  | map => intro hp; cases hp
  | obj => intro hp; cases hp
  | iface => intro hp; cases hp
  | opt => intro hp; cases hp
  | junk => intro hp; cases hp

class GOk (gl : Globs) : Prop where
  ok : ∀ g cs, gl g = some cs → ∀ x ∈ cs, x.Data
instance : GOk (fun _ => none) := ⟨fun _ _ h => by cases h⟩

theorem ACalls.borrow {P : Program} {gl : Globs} [hgl : GOk gl] {f : FuncId} {args args' : List AV} {h : AHeap} {r : AV} (hp : r.Pure) (hf : FrzL 0 h args args')
    (c : ACalls P gl f args' [] fun x h' => x = r ∧ h' = []) : ACalls P gl f args h fun x h' => x = r ∧ h' = h := by
  refine ⟨c.1, fun J w vs hh hv => ?_⟩
  have no : ∀ r, ¬ Own [] [] r := by rintro r ⟨b, k, o, h, _⟩; simp at h
  have hh0 : HRel gl [] [] w := by
    refine ⟨rfl, by intro b b' k; simp, by intro b k; simp, by intro b k; simp, fun g cs hg => ?_⟩
    have hb : (AV.rop [cs] 0 0).Bdd 0 := by
      refine .rop _ _ _ fun i e c x hi hx => ?_
      have he : e ∈ [cs] := List.mem_of_getElem? hi
      rw [List.mem_singleton] at he
      subst he
      exact (hgl.ok g e hg x (List.mem_of_getElem? hx)).bdd
    have := (hh.glob g cs hg).cut (O' := Own [] []) hb (fun r ho => (no r ho).elim)
    simpa using this
  have hv0 : VRels [] (Own [] []) w args' vs := by
    obtain ⟨hl, hg⟩ := hf.get
    refine ⟨by rw [hl]; exact hv.1, fun i x v hx hv' => ?_⟩
    obtain ⟨y, hy⟩ : ∃ y, args[i]? = some y := ⟨_, List.getElem?_eq_getElem (by have := lt_of_get hx; omega)⟩
    have := Frz.sound hh (hg i y x hy hx) (hv.2 i y v hy hv')
    simpa using this
  refine Calls.mono' (c.2 [] w vs hh0 hv0) ?_
  rintro e w' ⟨x, v, J', h', rfl, q1, q2, q3, rfl, rfl⟩
  have old : ∀ r, r < w.heap.size → w'.heap[r]? = w.heap[r]? := fun r hr => (q3.keep r hr (no r)).1
  have ev : Evo h J w h J w' := ⟨⟨[], by simp⟩, q3.size, fun r hr hn => ⟨old r hr, hn⟩, q3.os, q3.tape, q3.output⟩
  have h1 : HRel gl h J w' := hh.step ev hh.len hh.inj (fun b k hk => Nat.lt_of_lt_of_le (hh.lt b k hk) q3.size) (fun b k o hk ho _ => .inl ⟨hk, ho, old _ (hh.lt b k hk)⟩)
  exact ⟨x, v, J, h, rfl, h1, q2.pure hp, ev, rfl, rfl⟩

/-- The frame is forgotten but for what is told of it. -/
theorem AWP.cut {P : Program} {gl : Globs} {N : Nat} {c : Code} {Q : APost} {fr : AFrame} {h : AHeap} (I : AFrame → AHeap → Prop) (h0 : I fr h) (k : ∀ fr h, I fr h → AWP P gl N c Q fr h) : AWP P gl N c Q fr h := k fr h h0
/-- Two ways that lead to one place. -/
theorem AWP.join {P : Program} {gl : Globs} {N : Nat} {c : Code} {Q : APost} {p q : Prop} {fr fr' : AFrame} {h h' : AHeap} (I : AFrame → AHeap → Prop) (h1 : p → I fr h) (h2 : q → I fr' h') (k : ∀ fr h, I fr h → AWP P gl N c Q fr h) : (p → AWP P gl N c Q fr h) ∧ (q → AWP P gl N c Q fr' h') :=
  ⟨fun hp => k _ _ (h1 hp), fun hq => k _ _ (h2 hq)⟩

@[simp] theorem pure_bool (b : Bool) : (AV.bool b).Pure := .bool b
@[simp] theorem pure_int (k : IntKind) (n : Int) : (AV.int k n).Pure := .int k n
@[simp] theorem pure_str (s : List UInt8) : (AV.str s).Pure := .str s
@[simp] theorem pure_agg (cs : List AV) : (AV.agg cs).Pure ↔ ∀ x ∈ cs, x.Pure := ⟨fun h => by cases h; assumption, .agg cs⟩
@[simp] theorem pure_tup (cs : List AV) : (AV.tup cs).Pure ↔ ∀ x ∈ cs, x.Pure := ⟨fun h => by cases h; assumption, .tup cs⟩
end Go.Abs
