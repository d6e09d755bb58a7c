/-
  Memory of the caller's own, lent for reading: a callee that is told over shared slices alone serves slices of the caller's own blocks too.
  A list of the call's own that grows: nil, or the whole of one block; what 'append' makes of it. And a slice that is read, whatever it is made of.
  A list of lists: the outer one grows, each inner one is a list of the call's own, or one that is read.
  Memory of the caller's own that is handed over for good: its blocks are given up, the slices of them may be read from then on by anybody.
  Maps whose keys are texts.
-/
import Derived.Test.YtmdenljmfeejfaaAbsWp
set_option linter.unusedVariables false
set_option linter.unusedSimpArgs false

section 

namespace Go.Abs
open Go

/-- Values that lead to no memory at all. -/
inductive AV.Pure : AV → Prop
  | bool (b : Bool) : Pure (.bool b)
  | int (k : IntKind) (n : Int) : Pure (.int k n)
  | str (s : List UInt8) : Pure (.str s)
  | lit (x : Value) : Pure (.lit x)
  | agg (cs : List AV) (h : ∀ x ∈ cs, Pure x) : Pure (.agg cs)
  | tup (cs : List AV) (h : ∀ x ∈ cs, Pure x) : Pure (.tup cs)

theorem VRel.pure {J J' : List Blk} {O O' : Nat → Prop} {w w' : World} {x : AV} {v : Value} (h : VRel J O w x v) : x.Pure → VRel J' O' w' x v := by
  induction h with
  | bool b => exact fun _ => .bool b
  | int k n => exact fun _ => .int k n
  | str s => exact fun _ => .str s
  | lit x h => exact fun _ => .lit x h
  | agg cs vs hl h1 _ ih => intro hp; cases hp with | agg _ hp => exact .agg cs vs hl h1 fun i x v hx hv => ih i x v hx hv (hp x (List.mem_of_getElem? hx))
  | tup cs vs hl _ ih => intro hp; cases hp with | tup _ hp => exact .tup cs vs hl fun i x v hx hv => ih i x v hx hv (hp x (List.mem_of_getElem? hx))
  | nil => intro hp; cases hp
  | e0 a => intro hp; cases hp
  | roNil => intro hp; cases hp
  | ro => intro hp; cases hp
  | rop => intro hp; cases hp
  | own => intro hp; cases hp
  | ptr => intro hp; cases hp
  | fn => intro hp; cases hp
  | map => intro hp; cases hp
  | obj => intro hp; cases hp
  | iface => intro hp; cases hp
  | opt => intro hp; cases hp
  | junk => intro hp; cases hp

class GOk (gl : Globs) : Prop where
  ok : ∀ g cs, gl g = some cs → ∀ x ∈ cs, x.Data
instance : GOk (fun _ => none) := ⟨fun _ _ h => by cases h⟩

theorem ACalls.borrow {P : Program} {gl : Globs} [hgl : GOk gl] {f : FuncId} {args args' : List AV} {h : AHeap} {r : AV} (hp : r.Pure) (hf : FrzL 0 h args args')
    (c : ACalls P gl f args' [] fun x h' => x = r ∧ h' = []) : ACalls P gl f args h fun x h' => x = r ∧ h' = h := by
  refine ⟨c.1, fun J w vs hh hv => ?_⟩
  have no : ∀ r, ¬ Own [] [] r := by rintro r ⟨b, k, o, h, _⟩; simp at h
  have hh0 : HRel gl [] [] w := by
    refine ⟨rfl, by intro b b' k; simp, by intro b k; simp, by intro b k; simp, fun g cs hg => ?_⟩
    have hb : (AV.rop [cs] 0 0).Bdd 0 := by
      refine .rop _ _ _ fun i e c x hi hx => ?_
      have he : e ∈ [cs] := List.mem_of_getElem? hi
      rw [List.mem_singleton] at he
      subst he
      exact (hgl.ok g e hg x (List.mem_of_getElem? hx)).bdd
    have := (hh.glob g cs hg).cut (O' := Own [] []) hb (fun r ho => (no r ho).elim)
    simpa using this
  have hv0 : VRels [] (Own [] []) w args' vs := by
    obtain ⟨hl, hg⟩ := hf.get
    refine ⟨by rw [hl]; exact hv.1, fun i x v hx hv' => ?_⟩
    obtain ⟨y, hy⟩ : ∃ y, args[i]? = some y := ⟨_, List.getElem?_eq_getElem (by have := lt_of_get hx; omega)⟩
    have := Frz.sound hh (hg i y x hy hx) (hv.2 i y v hy hv')
    simpa using this
  refine Calls.mono' (c.2 [] w vs hh0 hv0) ?_
  rintro e w' ⟨x, v, J', h', rfl, q1, q2, q3, rfl, rfl⟩
  have old : ∀ r, r < w.heap.size → w'.heap[r]? = w.heap[r]? := fun r hr => (q3.keep r hr (no r)).1
  have ev : Evo h J w h J w' := ⟨⟨[], by simp⟩, q3.size, fun r hr hn => ⟨old r hr, hn⟩, q3.os, q3.tape, q3.output⟩
  have h1 : HRel gl h J w' := hh.step ev hh.len hh.inj (fun b k hk => Nat.lt_of_lt_of_le (hh.lt b k hk) q3.size) (fun b k o hk ho _ => .inl ⟨hk, ho, old _ (hh.lt b k hk)⟩)
  exact ⟨x, v, J, h, rfl, h1, q2.pure hp, ev, rfl, rfl⟩

/-- The frame is forgotten but for what is told of it. -/
theorem AWP.cut {P : Program} {gl : Globs} {N : Nat} {c : Code} {Q : APost} {fr : AFrame} {h : AHeap} (I : AFrame → AHeap → Prop) (h0 : I fr h) (k : ∀ fr h, I fr h → AWP P gl N c Q fr h) : AWP P gl N c Q fr h := k fr h h0
/-- Two ways that lead to one place. -/
theorem AWP.join {P : Program} {gl : Globs} {N : Nat} {c : Code} {Q : APost} {p q : Prop} {fr fr' : AFrame} {h h' : AHeap} (I : AFrame → AHeap → Prop) (h1 : p → I fr h) (h2 : q → I fr' h') (k : ∀ fr h, I fr h → AWP P gl N c Q fr h) : (p → AWP P gl N c Q fr h) ∧ (q → AWP P gl N c Q fr' h') :=
  ⟨fun hp => k _ _ (h1 hp), fun hq => k _ _ (h2 hq)⟩

@[simp] theorem pure_bool (b : Bool) : (AV.bool b).Pure := .bool b
@[simp] theorem pure_int (k : IntKind) (n : Int) : (AV.int k n).Pure := .int k n
@[simp] theorem pure_str (s : List UInt8) : (AV.str s).Pure := .str s
@[simp] theorem pure_agg (cs : List AV) : (AV.agg cs).Pure ↔ ∀ x ∈ cs, x.Pure := ⟨fun h => by cases h; assumption, .agg cs⟩
@[simp] theorem pure_tup (cs : List AV) : (AV.tup cs).Pure ↔ ∀ x ∈ cs, x.Pure := ⟨fun h => by cases h; assumption, .tup cs⟩
end Go.Abs
end

section 

namespace Go.Abs
open Go

@[simp] theorem nlt_add (a b : Nat) : a + b < a ↔ False := ⟨fun h => by omega, False.elim⟩

/-- Nil, or the whole of a block that lies from 'lo' on. -/
def Ls (n lo : Nat) (h : AHeap) (x : AV) (es : List (List AV)) : Prop :=
  ((x = .nil ∧ es = []) ∨ ∃ b, x = .own b 0 es.length ∧ lo ≤ b ∧ h[b]? = some (.cells n es)) ∧ ∀ e ∈ es, e.length = n

/-- What is asked of the type and of what is appended. -/
def appOk (P : Program) (h : AHeap) (ts : List TypeId) (n : Nat) (x : AV) (ys : List (List AV)) : Prop := match ts with
  | [t, u] => (match (tinfo P u).kind with | .int _ => False | _ => True) ∧ (tinfo P u).ok = true ∧
    (match (tinfo P t).kind with | .slice e => zeroOk (tinfo P e) ∧ (tinfo P e).cells = n ∧ 0 < n ∧ (tinfo P e).bytes ≤ 1000 | _ => False) ∧ slOk h x ∧ aelems h x = ys ∧ ∀ y ∈ ys, y.length = n
  | _ => False

/-- All but one list's block stands. -/
structure Grow (lo : Nat) (h : AHeap) (s : AV) (h' : AHeap) : Prop where
  keep : ∀ (b : Nat) (o : AObj), h[b]? = some o → (∀ off len, s ≠ .own b off len) → h'[b]? = some o
  base : ∀ h₀ : AHeap, h₀.length ≤ lo → (∃ g, h = h₀ ++ g) → ∃ g, h' = h₀ ++ g
  len : h.length ≤ h'.length

section
variable {P : Program} {n lo : Nat} {h h' : AHeap} {x s : AV} {es ys : List (List AV)} {k : AV → AHeap → Prop} {ts : List TypeId}

theorem Ls.core (r : Ls n lo h x es) : x.core = x := by rcases r.1 with ⟨rfl, _⟩ | ⟨b, rfl, _⟩ <;> rfl
theorem Ls.gd (r : Ls n lo h x es) : x.gd = true := by rcases r.1 with ⟨rfl, _⟩ | ⟨b, rfl, _⟩ <;> rfl
theorem Ls.alen (r : Ls n lo h x es) : alen h x = es.length := by rcases r.1 with ⟨rfl, rfl⟩ | ⟨b, rfl, _⟩ <;> rfl
theorem Ls.solid (r : Ls n lo h x es) : x.solid = true := by rcases r.1 with ⟨rfl, _⟩ | ⟨b, rfl, _⟩ <;> rfl
theorem Ls.acells (r : Ls n lo h x es) : acells x = [x] := by rcases r.1 with ⟨rfl, _⟩ | ⟨b, rfl, _⟩ <;> rfl
theorem Ls.nil : Ls n lo h .nil [] := ⟨.inl ⟨rfl, rfl⟩, by simp⟩
theorem Ls.own {b len : Nat} (hb : h[b]? = some (.cells n es)) (hl : lo ≤ b) (he : len = es.length) (hn : ∀ e ∈ es, e.length = n) : Ls n lo h (.own b 0 len) es := ⟨.inr ⟨b, by rw [he], hl, hb⟩, hn⟩
theorem Ls.grow {lo' : Nat} {t : AV} (r : Ls n lo h x es) (g : Grow lo' h t h') (hne : ∀ b, x = .own b 0 es.length → lo ≤ b → ∀ off len, t ≠ .own b off len) : Ls n lo h' x es := by
  obtain ⟨r, hn⟩ := r
  refine ⟨?_, hn⟩
  rcases r with h1 | ⟨b, rfl, hl, hb⟩
  · exact .inl h1
  · exact .inr ⟨b, rfl, hl, g.keep b _ hb (hne b rfl hl)⟩
theorem Ls.more (r : Ls n lo h x es) (g : AHeap) : Ls n lo (h ++ g) x es := by
  obtain ⟨r, hn⟩ := r
  refine ⟨?_, hn⟩
  rcases r with h1 | ⟨b, rfl, hl, hb⟩
  · exact .inl h1
  · refine .inr ⟨b, rfl, hl, ?_⟩
    rw [List.getElem?_append_left (List.getElem?_eq_some_iff.1 hb).1]; exact hb
theorem Ls.put {b : Nat} {o : AObj} (r : Ls n lo h x es) (hb : b < lo) : Ls n lo (h.set b o) x es := by
  obtain ⟨r, hn⟩ := r
  refine ⟨?_, hn⟩
  rcases r with h1 | ⟨b', rfl, hl, hb'⟩
  · exact .inl h1
  · exact .inr ⟨b', rfl, hl, by rw [List.getElem?_set_ne (by omega)]; exact hb'⟩

theorem Ls.base {h₀ h₁ g : AHeap} (r : Ls n lo (h₀ ++ g) x es) (hl : h₀.length ≤ lo) (hl' : h₁.length = h₀.length) (g' : AHeap) : Ls n lo (h₁ ++ (g ++ g')) x es := by
  obtain ⟨r, hn⟩ := r
  refine ⟨?_, hn⟩
  rcases r with h1 | ⟨b, rfl, hlb, hb⟩
  · exact .inl h1
  · refine .inr ⟨b, rfl, hlb, ?_⟩
    rw [List.getElem?_append_right (by omega)] at hb ⊢
    rw [hl', List.getElem?_append_left (List.getElem?_eq_some_iff.1 hb).1]; exact hb

theorem aelems_ls (r : Ls n lo h x es) : aelems h x = es := by
  rcases r.1 with ⟨rfl, rfl⟩ | ⟨b, rfl, _, hb⟩
  · rfl
  · simp [hb]

/-- 'append' to a list of the call's own. -/
theorem append_ls (r : Ls n lo h s es) (hlo : lo ≤ h.length) (hok : appOk P h ts n x ys) (hl : es.length + ys.length ≤ 100000000)
    (hc : ∀ s' h', Ls n lo h' s' (es ++ ys) → Grow lo h s h' → k s' h') : appendOk P h ts s x ∧ appendK n h s x k := by
  unfold appOk at hok
  split at hok
  · rename_i t u
    obtain ⟨hu, huo, ht, hx, hy, hyn⟩ := hok
    split at ht
    · rename_i e he
      obtain ⟨hz, hcn, hn0, hbt⟩ := ht
      have hes := aelems_ls r
      have hlen : (es.length + ys.length) * (tinfo P e).bytes ≤ 140737488355328 := Nat.le_trans (Nat.mul_le_mul hl hbt) (by omega)
      refine ⟨⟨hu, huo, ?_⟩, ?_⟩
      · rw [he]
        refine ⟨hz, by omega, ?_, ?_, hx, by rw [hes, hcn]; exact r.2, by rw [hy, hcn]; exact hyn, by rw [hes, hy]; exact hlen, by rw [hes, hy]; omega⟩
        · rcases r.1 with ⟨rfl, _⟩ | ⟨b, rfl, _, hb⟩
          · trivial
          · simp [hb, hcn]
        · rcases r.1 with ⟨rfl, _⟩ | ⟨b, rfl, _, hb⟩
          · trivial
          · simp [slOk, hb]
      · have hnew : ∀ (h1 : AHeap), (h1 ++ [AObj.cells n (es ++ ys)])[h1.length]? = some (.cells n (es ++ ys)) := by simp
        have hall : ∀ e ∈ es ++ ys, e.length = n := by
          intro e he
          rcases List.mem_append.1 he with h1 | h1
          · exact r.2 e h1
          · exact hyn e h1
        rcases r.1 with ⟨rfl, rfl⟩ | ⟨b, rfl, hlb, hb⟩
        · unfold appendK
          rw [hy]
          refine ⟨fun h0 => hc _ _ ⟨.inl ⟨rfl, by simp [h0]⟩, hall⟩ ⟨fun b o hb _ => hb, fun h₀ _ hg => hg, Nat.le_refl _⟩, fun h0 => hc _ _ ⟨.inr ⟨h.length, by simp, hlo, by simp⟩, hall⟩ ⟨fun b o hb _ => ?_, ?_, by simp⟩⟩
          · rw [List.getElem?_append_left (List.getElem?_eq_some_iff.1 hb).1]; exact hb
          · rintro h₀ _ ⟨g, rfl⟩; exact ⟨g ++ _, by rw [List.append_assoc]⟩
        · unfold appendK
          rw [hes, hy]
          refine hc _ _ ⟨.inr ⟨h.length, by simp, hlo, by simp⟩, hall⟩ ⟨fun b' o hb' hne => ?_, ?_, by simp⟩
          · have hbb : b' ≠ b := by rintro rfl; exact hne 0 es.length rfl
            rw [List.getElem?_append_left (by simp; exact (List.getElem?_eq_some_iff.1 hb').1), List.getElem?_set_ne (Ne.symm hbb)]; exact hb'
          · rintro h₀ hl₀ ⟨g, rfl⟩
            refine ⟨g.set (b - h₀.length) .dead ++ [.cells n (es ++ ys)], ?_⟩
            rw [List.set_append, if_neg (by omega), List.append_assoc]
    · exact ht.elim
  · exact hok.elim

/-- Data of the call's own, handed out. -/
theorem Ls.frz (r : Ls n lo h x es) {m : Nat} (hm : m ≤ lo) (hd : ∀ e ∈ es, ∀ y ∈ e, y.Data) : Frz m h x (.ro es) := by
  rcases r.1 with ⟨rfl, rfl⟩ | ⟨b, rfl, hl, hb⟩
  · exact .nil
  · obtain ⟨hlt, hge⟩ := List.getElem?_eq_some_iff.1 hb
    exact Frz.ownD hb (by omega) (by omega) (by simp) hd
end

/-- The one cell of an element that is a plain value. -/
structure Elt1 (e : List AV) : Prop where
  len : e.length = 1
  core : ∀ h : 0 < e.length, e[0].core = e[0]
  gd : ∀ h : 0 < e.length, e[0].gd = true
  solid : ∀ h : 0 < e.length, e[0].solid = true
  cells : ∀ h : 0 < e.length, acells e[0] = e
theorem Elt1.at {e : List AV} (r : Elt1 e) (h : 0 < e.length) : e[0] = e.getD 0 .junk := by simp [h]
theorem Elt1.int (k : IntKind) (n : Int) : Elt1 [.int k n] := ⟨rfl, fun _ => rfl, fun _ => rfl, fun _ => rfl, fun _ => rfl⟩
theorem Elt1.str (s : List UInt8) : Elt1 [.str s] := ⟨rfl, fun _ => rfl, fun _ => rfl, fun _ => rfl, fun _ => rfl⟩
theorem Elt1.bool (b : Bool) : Elt1 [.bool b] := ⟨rfl, fun _ => rfl, fun _ => rfl, fun _ => rfl, fun _ => rfl⟩
theorem Elt1.ro (l : List (List AV)) : Elt1 [.ro l] := ⟨rfl, fun _ => rfl, fun _ => rfl, fun _ => rfl, fun _ => rfl⟩

theorem aidx_cons (p : AV × AV) (kvs : List (AV × AV)) (k : AV) : aidx (p :: kvs) k = if ceq (acells k) (acells p.1) = true then some 0 else (aidx kvs k).map (· + 1) := by
  rw [aidx, List.findIdx?_cons]
  rfl
theorem aset_nil (k v : AV) : aset [] k v = [(k, v)] := rfl
theorem aset_cons (p : AV × AV) (kvs : List (AV × AV)) (k v : AV) : aset (p :: kvs) k v = if ceq (acells k) (acells p.1) = true then (k, v) :: kvs else p :: aset kvs k v := by
  unfold aset
  rw [aidx_cons]
  by_cases h : ceq (acells k) (acells p.1) = true
  · rw [if_pos h, if_pos h]; rfl
  · rw [if_neg h, if_neg h]
    cases aidx kvs k <;> rfl
theorem alook_nil (k : AV) : alook [] k = none := rfl
theorem alook_cons (p : AV × AV) (kvs : List (AV × AV)) (k : AV) : alook (p :: kvs) k = if ceq (acells k) (acells p.1) = true then some p.2 else alook kvs k := by
  unfold alook
  rw [List.find?_cons]
  split
  · rename_i h; rw [if_pos h]; rfl
  · rename_i h; rw [if_neg (by rw [h]; exact Bool.false_ne_true)]

/-- A slice of n elements, the first i of them filled in. -/
def fillC (f : Nat → List AV) (z : List AV) (n i : Nat) : List (List AV) := (List.range i).map f ++ List.replicate (n - i) z
theorem fillC_len (f : Nat → List AV) (z : List AV) {n i : Nat} (h : i ≤ n) : (fillC f z n i).length = n := by simp [fillC]; omega
theorem fillC_at (f : Nat → List AV) (z : List AV) {n i : Nat} (h : i < n) : (fillC f z n i)[i]? = some z := by
  unfold fillC
  rw [List.getElem?_append_right (by simp), List.length_map, List.length_range, Nat.sub_self, show n - i = (n - (i + 1)) + 1 by omega, List.replicate_succ]
  rfl
theorem fillC_zero (f : Nat → List AV) (z : List AV) (n : Nat) : List.replicate n z = fillC f z n 0 := by simp [fillC]
theorem fillC_all (f : Nat → List AV) (z : List AV) (n : Nat) : fillC f z n n = (List.range n).map f := by simp [fillC]
theorem fillC_set (f : Nat → List AV) (z : List AV) {n i : Nat} (h : i < n) : (fillC f z n i).set i (f i) = fillC f z n (i + 1) := by
  unfold fillC
  rw [List.set_append, if_neg (by simp), List.length_map, List.length_range, Nat.sub_self, show n - i = (n - (i + 1)) + 1 by omega, List.replicate_succ, List.set_cons_zero, List.range_succ, List.map_append, List.append_assoc]
  rfl

/-- A slice that is read: shared, of a block of the call's own, or none. -/
def Rs (n : Nat) (h : AHeap) (x : AV) (es : List (List AV)) : Prop := Rd n h x es ∨ (es = [] ∧ (x = .nil ∨ x = .e0))
section
variable {P : Program} {n lo : Nat} {h : AHeap} {x : AV} {es : List (List AV)}
theorem Ls.rs (r : Ls n lo h x es) : Rs n h x es := by
  obtain ⟨r, hn⟩ := r
  rcases r with ⟨rfl, rfl⟩ | ⟨b, rfl, _, hb⟩
  · exact .inr ⟨rfl, .inl rfl⟩
  · exact .inl (Rd.own hb hn)
theorem Rd.rs (r : Rd n h x es) : Rs n h x es := .inl r
theorem Rs.ro (hn : ∀ e ∈ es, e.length = n) : Rs n h (.ro es) es := .inl (.ro hn)
theorem Rs.nil : Rs n h .nil [] := .inr ⟨rfl, .inl rfl⟩
theorem Rs.own {b : Nat} (hb : h[b]? = some (.cells n es)) (hn : ∀ e ∈ es, e.length = n) : Rs n h (.own b 0 es.length) es := .inl (.own hb hn)
theorem Rs.sub {b off len : Nat} {all : List (List AV)} (hb : h[b]? = some (.cells n all)) (hl : off + len ≤ all.length) (he : es = (all.drop off).take len) (hn : ∀ e ∈ es, e.length = n) : Rs n h (.own b off len) es := by
  have hle : es.length = len := by rw [he]; simp; omega
  refine .inl ⟨.inr ⟨b, off, all, by rw [hle], hb, by omega, fun i hi => ?_⟩, hn⟩
  rw [he, List.getElem?_take_of_lt (by omega), List.getElem?_drop]
theorem Rs.append (r : Rs n h x es) (g : AHeap) : Rs n (h ++ g) x es := r.imp (fun r => r.append g) id
theorem Rs.core (r : Rs n h x es) : x.core = x := by rcases r with r | ⟨_, rfl | rfl⟩ <;> first | exact r.core | rfl
theorem Rs.gd (r : Rs n h x es) : x.gd = true := by rcases r with r | ⟨_, rfl | rfl⟩ <;> first | exact r.gd | rfl
theorem Rs.alen (r : Rs n h x es) : alen h x = es.length := by rcases r with r | ⟨rfl, rfl | rfl⟩ <;> first | exact r.alen | rfl
theorem Rs.lenOk (r : Rs n h x es) {e : TypeId} : lenOk h (.slice e) x ↔ True := by rcases r with r | ⟨rfl, rfl | rfl⟩ <;> first | exact r.lenOk | simp [Go.Abs.lenOk]
theorem Rs.rd (r : Rs n h x es) {i : Nat} (hi : i < es.length) : Rd n h x es := by rcases r with r | ⟨rfl, _⟩; exact r; simp at hi
theorem Rs.len (r : Rs n h x es) : ∀ e ∈ es, e.length = n := by rcases r with r | ⟨rfl, _⟩; exact r.2; simp
theorem Rs.slOk (r : Rs n h x es) : slOk h x := by
  rcases r with ⟨rfl | ⟨b, off, all, rfl, hb, hl, _⟩, _⟩ | ⟨_, rfl | rfl⟩ <;> try trivial
  simp [Go.Abs.slOk, hb, hl]
theorem Rs.aelems (r : Rs n h x es) : aelems h x = es := by
  rcases r with ⟨rfl | ⟨b, off, all, rfl, hb, hl, hg⟩, _⟩ | ⟨rfl, rfl | rfl⟩ <;> try rfl
  simp only [Go.Abs.aelems, hcells, hb]
  refine List.ext_getElem? fun i => ?_
  rcases Nat.lt_or_ge i es.length with hi | hi
  · rw [List.getElem?_take_of_lt hi, List.getElem?_drop, hg i hi]
  · rw [List.getElem?_eq_none (by simp; omega), List.getElem?_eq_none hi]
theorem Rs.frz (r : Rs n h x es) (hd : ∀ e ∈ es, ∀ y ∈ e, y.Data) : Frz 0 h x (.ro es) := by
  have hx := r.aelems
  rcases r with ⟨rfl | ⟨b, off, all, rfl, hb, hl, hg⟩, _⟩ | ⟨rfl, rfl | rfl⟩
  · exact .data _ (.ro _ hd)
  · simp only [Go.Abs.aelems, hcells, hb] at hx
    exact Frz.ownD hb (by omega) hl hx.symm hd
  · exact .nil
  · exact .e0
/-- An element of it: its place, what is loaded from it, and from its fields. -/
theorem Rs.ix (P : Program) (r : Rs n h x es) (i : Int) (h0 : 0 ≤ i) {y : List AV} (hy : es[i.toNat]? = some y) :
    (∀ e, (tinfo P e).ok = true → (tinfo P e).cells = n → (iaddrOk P h (.slice e) x i ↔ True)) ∧ (∀ e, (iaddrV P (.slice e) x i).core = iaddrV P (.slice e) x i) ∧ (∀ e, (iaddrV P (.slice e) x i).gd = true) ∧
    (∀ e t, loadV P h t (iaddrV P (.slice e) x i) = acut (tinfo P t) y 0) ∧ (∀ e t, loadOk P h t (iaddrV P (.slice e) x i) ↔ cutOk (tinfo P t) y 0) ∧ (∀ e, faddrOk (iaddrV P (.slice e) x i) ↔ True) ∧
    (∀ e s f, (faddrV P s f (iaddrV P (.slice e) x i)).core = faddrV P s f (iaddrV P (.slice e) x i)) ∧ (∀ e s f, (faddrV P s f (iaddrV P (.slice e) x i)).gd = true) ∧
    (∀ e s f t, loadV P h t (faddrV P s f (iaddrV P (.slice e) x i)) = acut (tinfo P t) y (foff (tinfo P s) f)) ∧ (∀ e s f t, loadOk P h t (faddrV P s f (iaddrV P (.slice e) x i)) ↔ cutOk (tinfo P t) y (foff (tinfo P s) f)) := by
  have hlt : i < es.length := by have := (List.getElem?_eq_some_iff.1 hy).1; omega
  have r := r.rd (i := i.toNat) (by omega)
  exact ⟨fun e a b => r.iaddrOk a b h0 hlt, fun e => r.icore h0 hlt, fun e => r.igd h0 hlt, fun e t => r.loadV h0 hlt hy, fun e t => r.loadOk h0 hlt hy, fun e => r.faddrOk h0 hlt, fun e s f => r.fcore h0 hlt, fun e s f => r.fgd h0 hlt,
    fun e s f t => r.floadV h0 hlt hy, fun e s f t => r.floadOk h0 hlt hy⟩
theorem Rs.fix (r : Rs n h x es) : x.core = x ∧ x.gd = true ∧ x.solid = true ∧ acells x = [x] := by
  rcases r with ⟨rfl | ⟨_, _, _, rfl, _⟩, _⟩ | ⟨_, rfl | rfl⟩ <;> exact ⟨rfl, rfl, rfl, rfl⟩
theorem Rs.len2 (r : Rs n h x es) : Go.Abs.alen h x = es.length ∧ ∀ e, Go.Abs.lenOk h (.slice e) x ↔ True := ⟨r.alen, fun e => r.lenOk⟩
end
end Go.Abs
end

section 

namespace Go.Abs
open Go

section
variable {P : Program} {n lo : Nat} {h h' : AHeap} {x s : AV} {es ys : List (List AV)} {k : AV → AHeap → Prop} {ts : List TypeId}
/-- 'append' to a list of the call's own: what it makes is new. -/
theorem append_new (r : Ls n lo h s es) (hlo : lo ≤ h.length) (hok : appOk P h ts n x ys) (hl : es.length + ys.length ≤ 100000000)
    (hc : ∀ s' h', Ls n lo h' s' (es ++ ys) → Grow lo h s h' → (∀ b off len, s' = .own b off len → h.length ≤ b) → k s' h') : appendOk P h ts s x ∧ appendK n h s x k := by
  unfold appOk at hok
  split at hok
  · rename_i t u
    obtain ⟨hu, huo, ht, hx, hy, hyn⟩ := hok
    split at ht
    · rename_i e he
      obtain ⟨hz, hcn, hn0, hbt⟩ := ht
      have hes := aelems_ls r
      have hlen : (es.length + ys.length) * (tinfo P e).bytes ≤ 140737488355328 := Nat.le_trans (Nat.mul_le_mul hl hbt) (by omega)
      refine ⟨⟨hu, huo, ?_⟩, ?_⟩
      · rw [he]
        refine ⟨hz, by omega, ?_, ?_, hx, by rw [hes, hcn]; exact r.2, by rw [hy, hcn]; exact hyn, by rw [hes, hy]; exact hlen, by rw [hes, hy]; omega⟩
        · rcases r.1 with ⟨rfl, _⟩ | ⟨b, rfl, _, hb⟩
          · trivial
          · simp [hb, hcn]
        · rcases r.1 with ⟨rfl, _⟩ | ⟨b, rfl, _, hb⟩
          · trivial
          · simp [slOk, hb]
      · have hnew : ∀ (h1 : AHeap), (h1 ++ [AObj.cells n (es ++ ys)])[h1.length]? = some (.cells n (es ++ ys)) := by simp
        have hall : ∀ e ∈ es ++ ys, e.length = n := by
          intro e he
          rcases List.mem_append.1 he with h1 | h1
          · exact r.2 e h1
          · exact hyn e h1
        rcases r.1 with ⟨rfl, rfl⟩ | ⟨b, rfl, hlb, hb⟩
        · unfold appendK
          rw [hy]
          refine ⟨fun h0 => hc _ _ ⟨.inl ⟨rfl, by simp [h0]⟩, hall⟩ ⟨fun b o hb _ => hb, fun h₀ _ hg => hg, Nat.le_refl _⟩ (by simp), fun h0 => hc _ _ ⟨.inr ⟨h.length, by simp, hlo, by simp⟩, hall⟩ ⟨fun b o hb _ => ?_, ?_, by simp⟩ (by simp)⟩
          · rw [List.getElem?_append_left (List.getElem?_eq_some_iff.1 hb).1]; exact hb
          · rintro h₀ _ ⟨g, rfl⟩; exact ⟨g ++ _, by rw [List.append_assoc]⟩
        · unfold appendK
          rw [hes, hy]
          refine hc _ _ ⟨.inr ⟨h.length, by simp, hlo, by simp⟩, hall⟩ ⟨fun b' o hb' hne => ?_, ?_, by simp⟩ (by simp)
          · have hbb : b' ≠ b := by rintro rfl; exact hne 0 es.length rfl
            rw [List.getElem?_append_left (by simp; exact (List.getElem?_eq_some_iff.1 hb').1), List.getElem?_set_ne (Ne.symm hbb)]; exact hb'
          · rintro h₀ hl₀ ⟨g, rfl⟩
            refine ⟨g.set (b - h₀.length) .dead ++ [.cells n (es ++ ys)], ?_⟩
            rw [List.set_append, if_neg (by omega), List.append_assoc]
    · exact ht.elim
  · exact hok.elim

end

/-- A part of a slice that is read. -/
theorem Rs.cut (P : Program) {n : Nat} {h : AHeap} {x : AV} {es : List (List AV)} (r : Rs n h x es) (hn : 0 < n) (l u : Option Int) (h0 : sliceOk es.length l u) :
    Rs n h (aslice x l u) ((es.take (hiOf u es.length)).drop ((l.map Int.toNat).getD 0)) ∧ ∀ e, (tinfo P e).ok = true → (tinfo P e).cells = n → sliceTOk P h (.slice e) x l u := by
  have hlen : ∀ e ∈ (es.take (hiOf u es.length)).drop ((l.map Int.toNat).getD 0), e.length = n := fun e he => r.len e (List.mem_of_mem_take (List.mem_of_mem_drop he))
  have hb1 : hiOf u es.length ≤ es.length := by
    obtain ⟨h1, h2⟩ := h0
    cases u with
    | none => simp [hiOf]
    | some k => simp only [loOk] at h1; simp [hiOf]; omega
  have hb2 : (l.map Int.toNat).getD 0 ≤ hiOf u es.length := by
    obtain ⟨h1, h2⟩ := h0
    cases l with
    | none => simp
    | some k => simp only [loOk] at h2; show k.toNat ≤ _; omega
  rcases r with ⟨rfl | ⟨b, off, all, rfl, hb, hl, hg⟩, hn'⟩ | ⟨rfl, rfl | rfl⟩
  · exact ⟨Rs.ro hlen, fun e ho hc => ⟨ho, fun y hy => by rw [hc]; exact hn' y hy, h0⟩⟩
  · refine ⟨.inl ⟨.inr ⟨b, off + (l.map Int.toNat).getD 0, all, ?_, hb, ?_, fun i hi => ?_⟩, hlen⟩, fun e ho hc => ⟨ho, ?_, ?_, h0⟩⟩
    · rw [aslice, List.length_drop, List.length_take, Nat.min_eq_left hb1]
    · rw [List.length_drop, List.length_take, Nat.min_eq_left hb1]; omega
    · rw [List.length_drop, List.length_take, Nat.min_eq_left hb1] at hi
      rw [List.getElem?_drop, List.getElem?_take_of_lt (by omega), Nat.add_assoc]
      exact hg _ (by omega)
    · simp only [hsz, hb]; exact hn
    · simp only [hsz, hb]; exact hc.symm
  · exact ⟨.inr ⟨by simp, .inl rfl⟩, fun e ho hc => ⟨ho, h0⟩⟩
  · exact ⟨.inr ⟨by simp, .inr rfl⟩, fun e ho hc => ⟨ho, h0⟩⟩

theorem appOk_rs {P : Program} {n : Nat} {h : AHeap} {x : AV} {ys : List (List AV)} {t u : TypeId} (r : Rs n h x ys) (hu : match (tinfo P u).kind with | .int _ => False | _ => True) (ho : (tinfo P u).ok = true)
    (ht : match (tinfo P t).kind with | .slice e => zeroOk (tinfo P e) ∧ (tinfo P e).cells = n ∧ 0 < n ∧ (tinfo P e).bytes ≤ 1000 | _ => False) : appOk P h [t, u] n x ys := ⟨hu, ho, ht, r.slOk, r.aelems, r.len⟩

/-- A list of lists: the cells 'cs' of the outer list show the inner lists 'rows'. -/
structure Nest (n lo : Nat) (h : AHeap) (x : AV) (cs : List AV) (rows : List (List (List AV))) : Prop where
  len : cs.length = rows.length
  out : Ls 1 lo h x (cs.map fun c => [c])
  each : ∀ (k : Nat) (c : AV) (r : List (List AV)), cs[k]? = some c → rows[k]? = some r → Rs n h c r ∧ ∀ b off len, c = .own b off len → lo ≤ b ∧ ∀ off' len', x ≠ .own b off' len'
  apart : ∀ (i j b off len off' len' : Nat), cs[i]? = some (.own b off len) → cs[j]? = some (.own b off' len') → i = j

section
variable {P : Program} {n lo : Nat} {h h' : AHeap} {x c : AV} {cs : List AV} {rows : List (List (List AV))} {r : List (List AV)}

theorem Nest.nil : Nest n lo h .nil [] [] := ⟨rfl, Ls.nil, by simp, by simp⟩
theorem Rs.lt {b off len : Nat} (hr : Rs n h c r) (e : c = .own b off len) : b < h.length := by
  subst e
  rcases hr with ⟨e | ⟨b, off, all, e, hb, he⟩, hn⟩ | ⟨_, e | e⟩
  · cases e
  · cases e; exact (List.getElem?_eq_some_iff.1 hb).1
  · cases e
  · cases e
theorem Nest.lt (q : Nest n lo h x cs rows) {b off len : Nat} (hm : AV.own b off len ∈ cs) : b < h.length := by
  obtain ⟨k, hk⟩ := List.getElem?_of_mem hm
  have hkl := (List.getElem?_eq_some_iff.1 hk).1
  have hr : rows[k]? = some (rows[k]'(by rw [← q.len]; exact hkl)) := List.getElem?_eq_getElem _
  exact (q.each k _ _ hk hr).1.lt rfl
theorem Rs.keep {lo' : Nat} {t : AV} (hr : Rs n h c r) (g : Grow lo' h t h') (hne : ∀ b off len, c = .own b off len → ∀ off' len', t ≠ .own b off' len') : Rs n h' c r := by
  rcases hr with ⟨rfl | ⟨b, off, all, rfl, hb, he⟩, hn⟩ | hr
  · exact .inl ⟨.inl rfl, hn⟩
  · exact .inl ⟨.inr ⟨b, off, all, rfl, g.keep b _ hb (hne b _ _ rfl), he⟩, hn⟩
  · exact .inr hr
theorem Rs.keep' (hr : Rs n h c r) (hk : ∀ b off len o, c = .own b off len → h[b]? = some o → h'[b]? = some o) : Rs n h' c r := by
  rcases hr with ⟨rfl | ⟨b, off, all, rfl, hb, he⟩, hn⟩ | hr
  · exact .inl ⟨.inl rfl, hn⟩
  · exact .inl ⟨.inr ⟨b, off, all, rfl, hk b _ _ _ rfl hb, he⟩, hn⟩
  · exact .inr hr
theorem Nest.more (q : Nest n lo h x cs rows) (g : AHeap) : Nest n lo (h ++ g) x cs rows :=
  ⟨q.len, q.out.more g, fun k c r h1 h2 => ⟨(q.each k c r h1 h2).1.append g, (q.each k c r h1 h2).2⟩, q.apart⟩
/-- Another list grows. -/
theorem Nest.grow {lo' : Nat} {t : AV} (q : Nest n lo h x cs rows) (g : Grow lo' h t h') (ho : ∀ b, x = .own b 0 cs.length → ∀ off len, t ≠ .own b off len)
    (hi : ∀ c ∈ cs, ∀ b off len, c = .own b off len → ∀ off' len', t ≠ .own b off' len') : Nest n lo h' x cs rows := by
  refine ⟨q.len, q.out.grow g (fun b e _ => ho b (by rw [e]; simp)), fun k c r h1 h2 => ?_, q.apart⟩
  obtain ⟨e1, e2⟩ := q.each k c r h1 h2
  exact ⟨e1.keep g (hi c (List.mem_of_getElem? h1)), e2⟩
/-- Blocks other than its own are written. -/
theorem Nest.keep (q : Nest n lo h x cs rows) (hk : ∀ b o, (∃ off len, x = .own b off len) ∨ (∃ off len, AV.own b off len ∈ cs) → h[b]? = some o → h'[b]? = some o) : Nest n lo h' x cs rows := by
  refine ⟨q.len, ⟨?_, q.out.2⟩, fun k c r h1 h2 => ?_, q.apart⟩
  · rcases q.out.1 with h1 | ⟨b, h1, h2, h3⟩
    · exact .inl h1
    · exact .inr ⟨b, h1, h2, hk b _ (.inl ⟨_, _, h1⟩) h3⟩
  · obtain ⟨e1, e2⟩ := q.each k c r h1 h2
    exact ⟨e1.keep' fun b off len o e hb => hk b o (.inr ⟨off, len, e ▸ List.mem_of_getElem? h1⟩) hb, e2⟩
theorem Nest.put0 {b : Nat} {o : AObj} (q : Nest n lo h x cs rows) (hb : b < lo) : Nest n lo (h.set b o) x cs rows := by
  refine q.keep fun b' o' hm ho => ?_
  have hl : lo ≤ b' := by
    rcases hm with ⟨off, len, e⟩ | ⟨off, len, e⟩
    · rcases q.out.1 with ⟨e1, _⟩ | ⟨b1, e1, h1, _⟩
      · rw [e1] at e; cases e
      · rw [e1] at e; injection e with e2; omega
    · obtain ⟨k, hk⟩ := List.getElem?_of_mem e
      have hkl := (List.getElem?_eq_some_iff.1 hk).1
      have hr : rows[k]? = some (rows[k]'(by rw [← q.len]; exact hkl)) := List.getElem?_eq_getElem _
      exact ((q.each k _ _ hk hr).2 _ _ _ rfl).1
  rw [List.getElem?_set_ne (by omega)]; exact ho
theorem Nest.xlt (q : Nest n lo h x cs rows) {b off len : Nat} (e : x = .own b off len) : lo ≤ b ∧ b < h.length := by
  rcases q.out.1 with ⟨e1, _⟩ | ⟨b1, e1, h1, h2⟩
  · rw [e1] at e; cases e
  · rw [e1] at e; injection e with e2; subst e2; exact ⟨h1, (List.getElem?_eq_some_iff.1 h2).1⟩
theorem Nest.low (q : Nest n lo h x cs rows) {lo' : Nat} (hl : lo' ≤ lo) : Nest n lo' h x cs rows := by
  refine ⟨q.len, ⟨?_, q.out.2⟩, fun k c r h1 h2 => ⟨(q.each k c r h1 h2).1, fun b off len e => ⟨?_, ((q.each k c r h1 h2).2 b off len e).2⟩⟩, q.apart⟩
  · rcases q.out.1 with h1 | ⟨b, h1, h2, h3⟩
    · exact .inl h1
    · exact .inr ⟨b, h1, by omega, h3⟩
  · have := ((q.each k c r h1 h2).2 b off len e).1; omega
/-- One more list: what 'append' made is given. -/
theorem Nest.add {lo' : Nat} {x' : AV} (q : Nest n lo h x cs rows) (g : Grow lo' h x h') (ho : Ls 1 lo h' x' ((cs ++ [c]).map fun c => [c])) (hc : Rs n h c r)
    (hc' : ∀ b off len, c = .own b off len → lo ≤ b ∧ (∀ off' len', x ≠ .own b off' len') ∧ ∀ off' len', AV.own b off' len' ∉ cs) (hf : ∀ b off len, x' = .own b off len → h.length ≤ b) : Nest n lo h' x' (cs ++ [c]) (rows ++ [r]) := by
  refine ⟨by simp [q.len], ho, fun k d s h1 h2 => ?_, fun i j b off len off' len' h1 h2 => ?_⟩
  · have key : Rs n h d s ∧ ∀ b off len, d = .own b off len → lo ≤ b ∧ ∀ off' len', x ≠ .own b off' len' := by
      rcases Nat.lt_or_ge k cs.length with hlt | hge
      · rw [List.getElem?_append_left hlt] at h1
        rw [List.getElem?_append_left (by rw [← q.len]; exact hlt)] at h2
        exact q.each k d s h1 h2
      · have hk : k = cs.length := by have := (List.getElem?_eq_some_iff.1 h1).1; simp at this; omega
        subst hk
        rw [List.getElem?_append_right (by omega), Nat.sub_self] at h1
        rw [List.getElem?_append_right (by rw [q.len]; omega), q.len, Nat.sub_self] at h2
        obtain rfl : c = d := by simpa using h1
        obtain rfl : r = s := by simpa using h2
        exact ⟨hc, fun b off len e => ⟨(hc' b off len e).1, (hc' b off len e).2.1⟩⟩
    refine ⟨key.1.keep g fun b off len e => (key.2 b off len e).2, fun b off len e => ⟨(key.2 b off len e).1, fun off' len' e' => ?_⟩⟩
    have := hf b _ _ e'
    have := key.1.lt e
    omega
  · have old : ∀ i off len, i < cs.length → (cs ++ [c])[i]? = some (.own b off len) → cs[i]? = some (.own b off len) := fun i off len hl e => by rwa [List.getElem?_append_left hl] at e
    have new : ∀ i off len, cs.length ≤ i → (cs ++ [c])[i]? = some (.own b off len) → i = cs.length ∧ c = .own b off len := fun i off len hl e => by
      have hil := (List.getElem?_eq_some_iff.1 e).1
      simp at hil
      obtain rfl : i = cs.length := by omega
      rw [List.getElem?_append_right (by omega), Nat.sub_self] at e
      exact ⟨rfl, by simpa using e⟩
    rcases Nat.lt_or_ge i cs.length with h6 | h6 <;> rcases Nat.lt_or_ge j cs.length with h7 | h7
    · exact q.apart i j b _ _ _ _ (old i _ _ h6 h1) (old j _ _ h7 h2)
    · exact absurd (List.mem_of_getElem? (old i _ _ h6 h1)) ((hc' b _ _ (new j _ _ h7 h2).2).2.2 _ _)
    · exact absurd (List.mem_of_getElem? (old j _ _ h7 h2)) ((hc' b _ _ (new i _ _ h6 h1).2).2.2 _ _)
    · rw [(new i _ _ h6 h1).1, (new j _ _ h7 h2).1]
/-- One of the lists becomes another one. -/
theorem Nest.put {bx k : Nat} {d : AV} {s : List (List AV)} (q : Nest n lo h x cs rows) (hx : x = .own bx 0 cs.length) (hk : k < cs.length) (hd : Rs n h' d s)
    (hd' : ∀ b off len, d = .own b off len → lo ≤ b ∧ b ≠ bx ∧ ∀ off' len', AV.own b off' len' ∈ cs → cs[k]? = some (.own b off' len'))
    (hkeep : ∀ b o, h[b]? = some o → b ≠ bx → (∀ off len, cs[k]? ≠ some (.own b off len)) → h'[b]? = some o) (hb : h'[bx]? = some (.cells 1 ((cs.map fun c => [c]).set k [d]))) :
    Nest n lo h' x (cs.set k d) (rows.set k s) := by
  have hbx : lo ≤ bx := by
    rcases q.out.1 with ⟨e, _⟩ | ⟨b, e, hl, _⟩
    · rw [hx] at e; cases e
    · rw [hx] at e; injection e with e1; omega
  refine ⟨by simp [q.len], ⟨.inr ⟨bx, by rw [hx]; simp, hbx, by rw [List.map_set]; exact hb⟩, ?_⟩, fun j c r h1 h2 => ?_, fun i j b off len off' len' h1 h2 => ?_⟩
  · intro e he
    obtain ⟨c, _, rfl⟩ := List.mem_map.1 he
    rfl
  · by_cases e : k = j
    · subst e
      rw [List.getElem?_set, if_pos rfl, if_pos hk] at h1
      rw [List.getElem?_set, if_pos rfl, if_pos (by rw [← q.len]; exact hk)] at h2
      obtain rfl := Option.some.inj h1
      obtain rfl := Option.some.inj h2
      exact ⟨hd, fun b off len e => ⟨(hd' b off len e).1, fun off' len' e' => by rw [hx] at e'; cases e'; exact (hd' _ off len e).2.1 rfl⟩⟩
    · rw [List.getElem?_set, if_neg e] at h1 h2
      obtain ⟨e1, e2⟩ := q.each j c r h1 h2
      refine ⟨e1.keep' fun b off len o ec hbo => hkeep b o hbo ?_ ?_, e2⟩
      · rintro rfl; exact (e2 _ off len ec).2 _ _ hx
      · intro off' len' ek
        subst ec
        exact e (q.apart _ _ _ _ _ _ _ ek h1)
  · rw [List.getElem?_set] at h1 h2
    by_cases e1 : k = i <;> by_cases e2 : k = j
    · omega
    · rw [if_pos e1, if_pos hk] at h1
      rw [if_neg e2] at h2
      have := (hd' b _ _ (Option.some.inj h1)).2.2 _ _ (List.mem_of_getElem? h2)
      exact absurd (q.apart _ _ _ _ _ _ _ this h2) e2
    · rw [if_pos e2, if_pos hk] at h2
      rw [if_neg e1] at h1
      have := (hd' b _ _ (Option.some.inj h2)).2.2 _ _ (List.mem_of_getElem? h1)
      exact absurd (q.apart _ _ _ _ _ _ _ this h1) e1
    · rw [if_neg e1] at h1
      rw [if_neg e2] at h2
      exact q.apart _ _ _ _ _ _ _ h1 h2
/-- Each inner list is one of the call's own, that may grow. -/
def NL (n lo : Nat) (h : AHeap) (cs : List AV) (rows : List (List (List AV))) : Prop := ∀ (k : Nat) (c : AV) (r : List (List AV)), cs[k]? = some c → rows[k]? = some r → Ls n lo h c r
theorem NL.nil : NL n lo h [] [] := by simp [NL]
theorem NL.more (q : NL n lo h cs rows) (g : AHeap) : NL n lo (h ++ g) cs rows := fun k c r h1 h2 => (q k c r h1 h2).more g
theorem Ls.keep' {c : AV} {r : List (List AV)} (q : Ls n lo h c r) (hk : ∀ b len o, c = .own b 0 len → h[b]? = some o → h'[b]? = some o) : Ls n lo h' c r := by
  obtain ⟨q, hn⟩ := q
  refine ⟨?_, hn⟩
  rcases q with h1 | ⟨b, rfl, hl, hb⟩
  · exact .inl h1
  · exact .inr ⟨b, rfl, hl, hk b _ _ rfl hb⟩
theorem NL.addNil {lo' : Nat} (l : NL n lo h cs rows) (q : Nest n lo h x cs rows) (g : Grow lo' h x h') : NL n lo h' (cs ++ [.nil]) (rows ++ [[]]) := by
  intro k d s h1 h2
  rcases Nat.lt_or_ge k cs.length with hlt | hge
  · rw [List.getElem?_append_left hlt] at h1
    rw [List.getElem?_append_left (by rw [← q.len]; exact hlt)] at h2
    exact (l k d s h1 h2).grow g fun b e _ => ((q.each k d s h1 h2).2 b _ _ e).2
  · have hk : k = cs.length := by have := (List.getElem?_eq_some_iff.1 h1).1; simp at this; omega
    subst hk
    rw [List.getElem?_append_right (by omega), Nat.sub_self] at h1
    rw [List.getElem?_append_right (by rw [q.len]; omega), q.len, Nat.sub_self] at h2
    obtain rfl : AV.nil = d := by simpa using h1
    obtain rfl : [] = s := by simpa using h2
    exact Ls.nil
theorem NL.put {bx k : Nat} {d : AV} {s : List (List AV)} (l : NL n lo h cs rows) (q : Nest n lo h x cs rows) (hx : x = .own bx 0 cs.length) (hk : k < cs.length) (hd : Ls n lo h' d s)
    (hkeep : ∀ b o, h[b]? = some o → b ≠ bx → (∀ off len, cs[k]? ≠ some (.own b off len)) → h'[b]? = some o) : NL n lo h' (cs.set k d) (rows.set k s) := by
  intro j c r h1 h2
  by_cases e : k = j
  · subst e
    rw [List.getElem?_set, if_pos rfl, if_pos hk] at h1
    rw [List.getElem?_set, if_pos rfl, if_pos (by rw [← q.len]; exact hk)] at h2
    obtain rfl := Option.some.inj h1
    obtain rfl := Option.some.inj h2
    exact hd
  · rw [List.getElem?_set, if_neg e] at h1 h2
    obtain ⟨e1, e2⟩ := q.each j c r h1 h2
    refine (l j c r h1 h2).keep' fun b len o ec hbo => hkeep b o hbo ?_ ?_
    · rintro rfl; exact (e2 _ _ len ec).2 _ _ hx
    · intro off' len' ek
      subst ec
      exact e (q.apart _ _ _ _ _ _ _ ek h1)
theorem Rs.frzD {m : Nat} (hr : Rs n h c r) (hm : ∀ b off len, c = .own b off len → m ≤ b) (hd : ∀ e ∈ r, ∀ y ∈ e, y.Data) : Frz m h c (.ro r) := by
  have hx := hr.aelems
  rcases hr with ⟨rfl | ⟨b, off, all, rfl, hb, hl, hg⟩, _⟩ | ⟨rfl, rfl | rfl⟩
  · exact .data _ (.ro _ hd)
  · simp only [Go.Abs.aelems, hcells, hb] at hx
    exact Frz.ownD hb (hm _ _ _ rfl) hl hx.symm hd
  · exact .nil
  · exact .e0
theorem Nest.frz (q : Nest n lo h x cs rows) {m : Nat} (hm : m ≤ lo) (hd : ∀ r ∈ rows, ∀ e ∈ r, ∀ y ∈ e, y.Data) : Frz m h x (.ro (rows.map fun r => [.ro r])) := by
  rcases q.out.1 with ⟨rfl, e⟩ | ⟨b, rfl, hl, hb⟩
  · have : rows = [] := by have := q.len; simp at e; subst e; exact List.length_eq_zero_iff.1 this.symm
    subst this; exact .nil
  · have hcl : (cs.map fun c => [c]).length = rows.length := by simp [q.len]
    refine .own b 0 _ 1 _ _ (by omega) hb (by omega) (by simp [q.len]) (fun i e e' he he' => ?_) (fun i e e' k y y' he he' hy hy' => ?_)
    · rw [List.getElem?_map, Option.map_eq_some_iff] at he he'
      obtain ⟨_, _, rfl⟩ := he
      obtain ⟨_, _, rfl⟩ := he'
      rfl
    · rw [Nat.zero_add] at he
      rw [List.getElem?_map, Option.map_eq_some_iff] at he he'
      obtain ⟨c, hc, rfl⟩ := he
      obtain ⟨r, hr, rfl⟩ := he'
      cases k with
      | zero =>
        obtain rfl := Option.some.inj hy
        obtain rfl := Option.some.inj hy'
        obtain ⟨e1, e2⟩ := q.each i c r hc hr
        exact e1.frzD (fun b off len e => by have := (e2 b off len e).1; omega) (hd r (List.mem_of_getElem? hr))
      | succ k => simp at hy
theorem Nest.rs (q : Nest n lo h x cs rows) : Rs 1 h x (cs.map fun c => [c]) := q.out.rs
end
end Go.Abs
end

section 

namespace Go.Abs
open Go

def killL (h : AHeap) : List Nat → AHeap
  | [] => h
  | b :: ks => killL (h.set b .dead) ks
theorem killL_len : ∀ (ks : List Nat) (h : AHeap), (killL h ks).length = h.length
  | [], h => rfl
  | b :: ks, h => by rw [killL, killL_len ks]; simp
theorem killL_old : ∀ (ks : List Nat) (h : AHeap) (b : Nat) (o : AObj), (killL h ks)[b]? = some o → o ≠ .dead → h[b]? = some o ∧ b ∉ ks
  | [], h, b, o, h1, _ => ⟨h1, by simp⟩
  | c :: ks, h, b, o, h1, h2 => by
    obtain ⟨h3, h4⟩ := killL_old ks _ b o h1 h2
    rw [List.getElem?_set] at h3
    by_cases e : c = b
    · rw [if_pos e] at h3
      split at h3
      · exact absurd (Option.some.inj h3).symm h2
      · cases h3
    · rw [if_neg e] at h3
      exact ⟨h3, by simp [h4]; exact fun h => e h.symm⟩
theorem killL_keep : ∀ (ks : List Nat) (h : AHeap) (b : Nat), b ∉ ks → (killL h ks)[b]? = h[b]?
  | [], h, b, _ => rfl
  | c :: ks, h, b, hb => by
    rw [killL, killL_keep ks _ b (fun e => hb (List.mem_cons_of_mem _ e)), List.getElem?_set_ne (fun e => hb (by rw [e]; exact List.mem_cons_self))]

section
variable {gl : Globs} {h : AHeap} {J : List Blk} {w : World}
theorem HRel.killL (hh : HRel gl h J w) (ks : List Nat) : HRel gl (killL h ks) J w ∧ Evo h J w (Go.Abs.killL h ks) J w := by
  induction ks generalizing h with
  | nil => exact ⟨hh, Evo.refl _ _ _⟩
  | cons b ks ih =>
    obtain ⟨h1, e1⟩ := hh.kill (b := b)
    obtain ⟨h2, e2⟩ := ih h1
    exact ⟨h2, e1.trans e2⟩
end

/-- A value whose fresh slices become read-only ones, where their blocks are given up. -/
inductive FrzK (ks : List Nat) (h : AHeap) : AV → AV → Prop
  | same (x : AV) : FrzK ks h x x
  | nil : FrzK ks h .nil (.ro [])
  | e0 : FrzK ks h .e0 (.ro [])
  | own (b off len m : Nat) (es es' : List (List AV)) (hn : b ∈ ks) (hb : h[b]? = some (.cells m es)) (hl : off + len ≤ es.length) (hl' : es'.length = len)
      (hlen : ∀ (i : Nat) (e e' : List AV), es[off + i]? = some e → es'[i]? = some e' → e'.length = e.length)
      (hc : ∀ (i : Nat) (e e' : List AV) (c : Nat) (x x' : AV), es[off + i]? = some e → es'[i]? = some e' → e[c]? = some x → e'[c]? = some x' → FrzK ks h x x') : FrzK ks h (.own b off len) (.ro es')
  | agg (cs cs' : List AV) (hl : cs'.length = cs.length) (hc : ∀ (i : Nat) (x x' : AV), cs[i]? = some x → cs'[i]? = some x' → FrzK ks h x x') : FrzK ks h (.agg cs) (.agg cs')
  | tup (cs cs' : List AV) (hl : cs'.length = cs.length) (hc : ∀ (i : Nat) (x x' : AV), cs[i]? = some x → cs'[i]? = some x' → FrzK ks h x x') : FrzK ks h (.tup cs) (.tup cs')

theorem FrzK.sound {gl : Globs} {ks : List Nat} {h : AHeap} {J : List Blk} {w : World} (hh : HRel gl h J w) {x x' : AV} (hf : FrzK ks h x x') : ∀ {v : Value}, VRel J (Own h J) w x v → VRel J (Own (killL h ks) J) w x' v := by
  have ev := (hh.killL ks).2
  induction hf with
  | same x => exact fun hv => hv.evo ev
  | nil => intro v hv; cases hv; exact .roNil
  | e0 =>
    intro v hv
    cases hv with
    | e0 a =>
      cases a with
      | none => exact .roNil
      | some a => exact VRel.ro [] a 1 0 (fun _ _ => undef) (by simp) (by omega) (.inl rfl) (by simp) (by simp) (by simp) (by simp)
  | own b off len m es es' hn hb hl hl' hlen hc ih =>
    intro v hv
    cases hv with
    | own _ _ _ k a cap hk ha hle hcap =>
      obtain ⟨h0, h1, h2, h3, vs, T, h4, h5, h6⟩ := hh.obj b k _ hk hb
      rw [← hl']
      by_cases hes : es' = []
      · subst hes
        exact VRel.ro [] a 1 cap (fun _ _ => undef) (by simp) (by omega) (.inl rfl) (by simp) (by simp) (by simp) (by simp)
      · have hpos : 0 < len := by rw [← hl']; exact List.length_pos_iff.2 hes
        have ha' := ha (by omega)
        subst ha'
        have hnot : ¬ Own (killL h ks) J k.r := by
          rintro ⟨b', k', o', q1, q2, q3, q4⟩
          obtain ⟨q5, q6⟩ := killL_old ks h b' o' q2 q3
          have := hh.inj b b' k k' _ o' hk q1 hb q5 (by simp) q3 q4.symm
          exact q6 (this ▸ hn)
        have src : ∀ (i : Nat) (e' : List AV), es'[i]? = some e' → ∃ e, es[off + i]? = some e ∧ e.length = k.n ∧ e'.length = k.n := by
          intro i e' hi
          have hlt := lt_of_get hi
          have he : es[off + i]? = some (es[off + i]'(by omega)) := List.getElem?_eq_getElem (by omega)
          exact ⟨_, he, h3 _ _ he, by rw [hlen i _ e' he hi]; exact h3 _ _ he⟩
        have cell : ∀ (i : Nat) (e' : List AV) (c : Nat) (x' : AV), es'[i]? = some e' → e'[c]? = some x' → ∃ e x u, es[off + i]? = some e ∧ e[c]? = some x ∧ vs[k.base + ((off + i) * k.n + c)]? = some u ∧ u.oneCell' = true ∧ VRel J (Own h J) w x u := by
          intro i e' c x' hi hx
          obtain ⟨e, he, l1, l2⟩ := src i e' hi
          have hcl := lt_of_get hx
          have hxe : e[c]? = some (e[c]'(by omega)) := List.getElem?_eq_getElem (by omega)
          obtain ⟨u, p1, p2, p3⟩ := h6 _ _ _ _ he hxe
          exact ⟨e, _, u, he, hxe, p1, p2, p3⟩
        refine VRel.ro es' ⟨k.r, k.base + off * k.n, none⟩ k.n cap (fun i c => (vs[k.base + ((off + i) * k.n + c)]?).getD undef) (by omega) h1 (.inr ⟨hh.lt b k hk, hnot⟩) (fun i e' hi => by obtain ⟨e, _, _, l2⟩ := src i e' hi; exact l2) ?_ ?_ ?_
        · intro i e' c x' hi hx
          obtain ⟨e, x, u, q1, q2, q3, q4, q5⟩ := cell i e' c x' hi hx
          rw [add_mk, cell_of_heap h4, show k.base + off * k.n + (i * k.n + c) = k.base + ((off + i) * k.n + c) by rw [Nat.add_mul]; omega, q3]
          rfl
        · intro i e' c x' hi hx
          obtain ⟨e, x, u, q1, q2, q3, q4, q5⟩ := cell i e' c x' hi hx
          rw [q3]; exact q4
        · intro i e' c x' hi hx
          obtain ⟨e, x, u, q1, q2, q3, q4, q5⟩ := cell i e' c x' hi hx
          rw [q3]
          exact ih i e e' c x x' q1 hi q2 hx q5
  | agg cs cs' hl hc ih =>
    intro v hv
    cases hv with
    | agg _ vs hl1 h1 hr =>
      refine .agg cs' vs (by omega) h1 fun i x' v hx' hv => ?_
      have hx : cs[i]? = some (cs[i]'(by have := lt_of_get hx'; omega)) := List.getElem?_eq_getElem _
      exact ih i _ x' hx hx' (hr i _ v hx hv)
  | tup cs cs' hl hc ih =>
    intro v hv
    cases hv with
    | tup _ vs hl1 hr =>
      refine .tup cs' vs (by omega) fun i x' v hx' hv => ?_
      have hx : cs[i]? = some (cs[i]'(by have := lt_of_get hx'; omega)) := List.getElem?_eq_getElem _
      exact ih i _ x' hx hx' (hr i _ v hx hv)

inductive FrzKL (ks : List Nat) (h : AHeap) : List AV → List AV → Prop
  | nil : FrzKL ks h [] []
  | cons {x x' : AV} {xs xs' : List AV} (hx : FrzK ks h x x') (hs : FrzKL ks h xs xs') : FrzKL ks h (x :: xs) (x' :: xs')
theorem FrzKL.get {ks : List Nat} {h : AHeap} {xs xs' : List AV} (f : FrzKL ks h xs xs') : xs'.length = xs.length ∧ ∀ (i : Nat) (x x' : AV), xs[i]? = some x → xs'[i]? = some x' → FrzK ks h x x' := by
  induction f with
  | nil => exact ⟨rfl, by simp⟩
  | cons hx hs ih =>
    refine ⟨by simp [ih.1], fun i x x' h1 h2 => ?_⟩
    cases i with
    | zero => simp at h1 h2; subst h1; subst h2; exact hx
    | succ i => exact ih.2 i x x' (by simpa using h1) (by simpa using h2)
theorem FrzK.agg' {ks : List Nat} {h : AHeap} {xs xs' : List AV} (f : FrzKL ks h xs xs') : FrzK ks h (.agg xs) (.agg xs') := .agg _ _ f.get.1 f.get.2
theorem FrzK.ownD {ks : List Nat} {b m off len : Nat} {h : AHeap} {es es' : List (List AV)} (hb : h[b]? = some (.cells m es)) (hn : b ∈ ks) (hl : off + len ≤ es.length) (he : es' = (es.drop off).take len) : FrzK ks h (.own b off len) (.ro es') := by
  have hget : ∀ (i : Nat) (e e' : List AV), es[off + i]? = some e → es'[i]? = some e' → e = e' := by
    intro i e e' h1 h2
    subst he
    rw [List.getElem?_take] at h2
    split at h2
    · rw [List.getElem?_drop, h1] at h2; exact Option.some.inj h2
    · cases h2
  refine .own b off len m es es' hn hb hl (by subst he; simp; omega) (fun i e e' h1 h2 => by rw [hget i e e' h1 h2]) ?_
  intro i e e' c x x' h1 h2 h3 h4
  obtain rfl := hget i e e' h1 h2
  rw [h3] at h4
  obtain rfl := Option.some.inj h4
  exact .same x
theorem FrzK.all {ks : List Nat} {b m : Nat} {h : AHeap} {es : List (List AV)} (hb : h[b]? = some (.cells m es)) (hn : b ∈ ks) : FrzK ks h (.own b 0 es.length) (.ro es) := FrzK.ownD hb hn (by simp) (by simp)
/-- A list of lists whose blocks are given up. -/
theorem FrzK.rows {ks : List Nat} {h : AHeap} {b : Nat} {cs : List AV} {rows : List (List (List AV))} (hb : h[b]? = some (.cells 1 (cs.map fun c => [c]))) (hn : b ∈ ks) (hl : cs.length = rows.length)
    (hc : ∀ (k : Nat) (c : AV) (r : List (List AV)), cs[k]? = some c → rows[k]? = some r → FrzK ks h c (.ro r)) : FrzK ks h (.own b 0 cs.length) (.ro (rows.map fun r => [.ro r])) := by
  refine .own b 0 _ 1 _ _ hn hb (by simp) (by simp [hl]) (fun i e e' he he' => ?_) (fun i e e' k y y' he he' hy hy' => ?_)
  · rw [List.getElem?_map, Option.map_eq_some_iff] at he he'
    obtain ⟨_, _, rfl⟩ := he
    obtain ⟨_, _, rfl⟩ := he'
    rfl
  · rw [Nat.zero_add] at he
    rw [List.getElem?_map, Option.map_eq_some_iff] at he he'
    obtain ⟨c, hc1, rfl⟩ := he
    obtain ⟨r, hr, rfl⟩ := he'
    cases k with
    | zero =>
      obtain rfl := Option.some.inj hy
      obtain rfl := Option.some.inj hy'
      exact hc i c r hc1 hr
    | succ k => simp at hy

/-- A call that is handed memory for good. -/
theorem ACalls.lend {P : Program} {gl : Globs} {f : FuncId} {args args' : List AV} {h : AHeap} {R : AV → AHeap → Prop} (ks : List Nat) (hf : FrzKL ks h args args')
    (c : ACalls P gl f args' (killL h ks) R) : ACalls P gl f args h R := by
  refine ⟨c.1, fun J w vs hh hv => ?_⟩
  obtain ⟨hk, ev⟩ := hh.killL ks
  have hv' : VRels J (Own (killL h ks) J) w args' vs := by
    obtain ⟨hl, hg⟩ := hf.get
    refine ⟨by rw [hl]; exact hv.1, fun i x v hx hv' => ?_⟩
    obtain ⟨y, hy⟩ : ∃ y, args[i]? = some y := ⟨_, List.getElem?_eq_getElem (by have := lt_of_get hx; omega)⟩
    exact FrzK.sound hh (hg i y x hy hx) (hv.2 i y v hy hv')
  refine Calls.mono' (c.2 J w vs hk hv') ?_
  rintro e w' ⟨x, v, J', h', p1, p2, p3, p4, p5⟩
  exact ⟨x, v, J', h', p1, p2, p3, ev.trans p4, p5⟩

/-- At any point blocks may be given up; what shows them in the frame may then be read. -/
theorem AWP.freeze {P : Program} {gl : Globs} {N : Nat} {c : Code} {Q : APost} {fr fr' : AFrame} {h : AHeap} (ks : List Nat) (hf : ∀ t, FrzK ks h (fr t) (fr' t)) (k : AWP P gl N c Q fr' (killL h ks)) : AWP P gl N c Q fr h := by
  intro J a w r
  obtain ⟨hk, ev⟩ := r.heap.killL ks
  have r' : ARel gl N J fr' (killL h ks) a w := ⟨r.size, r.defers, fun t => FrzK.sound r.heap (hf t) (r.tmps t), hk⟩
  exact wp_mono (k J a w r') fun _ _ _ hl => lift_evo ev hl

theorem killL_base : ∀ (ks : List Nat) (h g : AHeap), (∀ b ∈ ks, h.length ≤ b) → ∃ g', killL (h ++ g) ks = h ++ g'
  | [], h, g, _ => ⟨g, rfl⟩
  | b :: ks, h, g, hb => by
    rw [killL, List.set_append_right _ _ (hb b List.mem_cons_self)]
    exact killL_base ks h _ fun c hc => hb c (List.mem_cons_of_mem _ hc)
theorem Ls.lend {n lo : Nat} {h : AHeap} {x : AV} {es : List (List AV)} (r : Ls n lo h x es) : ∃ ks, (∀ b ∈ ks, lo ≤ b ∧ ∃ off len, x = .own b off len) ∧ FrzK ks h x (.ro es) := by
  rcases r.1 with ⟨rfl, rfl⟩ | ⟨b, rfl, hl, hb⟩
  · exact ⟨[], by simp, .nil⟩
  · exact ⟨[b], by simp [hl], .all hb (by simp)⟩
theorem FrzK.more {ks ks' : List Nat} {h : AHeap} {x x' : AV} (f : FrzK ks h x x') (hs : ∀ b ∈ ks, b ∈ ks') : FrzK ks' h x x' := by
  induction f with
  | same x => exact .same x
  | nil => exact .nil
  | e0 => exact .e0
  | own b off len m es es' hn hb hl hl' hlen hc ih => exact .own b off len m es es' (hs b hn) hb hl hl' hlen ih
  | agg cs cs' hl hc ih => exact .agg cs cs' hl ih
  | tup cs cs' hl hc ih => exact .tup cs cs' hl ih
theorem Nest.lend {n lo : Nat} {h : AHeap} {x : AV} {cs : List AV} {rows : List (List (List AV))} (q : Nest n lo h x cs rows) : ∃ ks, (∀ b ∈ ks, lo ≤ b) ∧ FrzK ks h x (.ro (rows.map fun r => [.ro r])) := by
  rcases q.out.1 with ⟨rfl, e⟩ | ⟨b, rfl, hl, hb⟩
  · have : rows = [] := by have := q.len; simp at e; subst e; exact List.length_eq_zero_iff.1 this.symm
    subst this; exact ⟨[], by simp, .nil⟩
  · obtain ⟨bs, hbs⟩ : ∃ bs, bs = cs.filterMap fun c => match c with | .own b _ _ => some b | _ => none := ⟨_, rfl⟩
    have hin : ∀ b off len, AV.own b off len ∈ cs → b ∈ bs := fun b off len hm => by rw [hbs]; exact List.mem_filterMap.2 ⟨_, hm, rfl⟩
    refine ⟨b :: bs, fun c hc => ?_, ?_⟩
    · rcases List.mem_cons.1 hc with rfl | hc
      · exact hl
      · rw [hbs] at hc
        obtain ⟨d, hd, hd2⟩ := List.mem_filterMap.1 hc
        split at hd2
        · rename_i b' off len
          obtain rfl := Option.some.inj hd2
          obtain ⟨k, hk⟩ := List.getElem?_of_mem hd
          have hkl := (List.getElem?_eq_some_iff.1 hk).1
          have hr : rows[k]? = some (rows[k]'(by rw [← q.len]; exact hkl)) := List.getElem?_eq_getElem _
          exact ((q.each k _ _ hk hr).2 _ _ _ rfl).1
        · cases hd2
    · have e : (List.map (fun c => [c]) cs).length = cs.length := by simp
      rw [e]
      refine FrzK.rows hb (by simp) q.len fun k c r h1 h2 => ?_
      obtain ⟨r1, _⟩ := q.each k c r h1 h2
      rcases r1 with ⟨rfl | ⟨b', off, all, rfl, hb', hl', hg⟩, _⟩ | ⟨rfl, rfl | rfl⟩
      · exact .same _
      · refine FrzK.ownD hb' (List.mem_cons_of_mem _ (hin _ _ _ (List.mem_of_getElem? h1))) (by omega) ?_
        refine List.ext_getElem? fun i => ?_
        rcases Nat.lt_or_ge i r.length with hi | hi
        · rw [List.getElem?_take_of_lt hi, List.getElem?_drop, hg i hi]
        · rw [List.getElem?_eq_none hi, List.getElem?_eq_none (by simp; omega)]
      · exact .nil
      · exact .e0
/-- None, or a list that is read. -/
def Rn (x : AV) (es : List (List AV)) : Prop := x = .ro es ∨ (x = .nil ∧ es = [])
theorem Rn.nil : Rn .nil [] := .inr ⟨rfl, rfl⟩
theorem Rn.ro (es : List (List AV)) : Rn (.ro es) es := .inl rfl
theorem Rn.lend {x : AV} {es : List (List AV)} {h : AHeap} (r : Rn x es) (ks : List Nat) : FrzK ks h x (.ro es) := by
  rcases r with rfl | ⟨rfl, rfl⟩
  · exact .same _
  · exact .nil
theorem Rn.rs {x : AV} {es : List (List AV)} {n : Nat} (r : Rn x es) (h : AHeap) (hn : ∀ e ∈ es, e.length = n) : Rs n h x es := by
  rcases r with rfl | ⟨rfl, rfl⟩
  · exact Rs.ro hn
  · exact Rs.nil
end Go.Abs
end

section 

namespace Go.Abs
open Go

section
variable {α : Type} (enc : α → AV)
def sM (m : List (List UInt8 × α)) : List (AV × AV) := m.map fun p => (.str p.1, enc p.2)
def getS (m : List (List UInt8 × α)) (t : List UInt8) : Option α := (m.find? fun p => t == p.1).map (·.2)
def putS : List (List UInt8 × α) → List UInt8 → α → List (List UInt8 × α)
  | [], t, v => [(t, v)]
  | p :: m, t, v => if t == p.1 then (t, v) :: m else p :: putS m t v
theorem sM_len (m : List (List UInt8 × α)) : (sM enc m).length = m.length := by simp [sM]
theorem alook_sM (m : List (List UInt8 × α)) (t : List UInt8) : alook (sM enc m) (.str t) = (getS m t).map enc := by
  induction m with
  | nil => rfl
  | cons p m ih =>
    show alook ((.str p.1, enc p.2) :: sM enc m) (.str t) = _
    rw [alook_cons, getS, List.find?_cons]
    have e : ceq (acells (.str t)) (acells (.str p.1)) = (t == p.1) := by simp [acells, ceq, ceq1]
    show (if ceq (acells (.str t)) (acells (.str p.1)) = true then _ else _) = _
    rw [e]
    cases h : (t == p.1)
    · simp only [Bool.false_eq_true, if_false]; exact ih
    · simp
theorem aset_sM (m : List (List UInt8 × α)) (t : List UInt8) (v : α) : aset (sM enc m) (.str t) (enc v) = sM enc (putS m t v) := by
  induction m with
  | nil => rfl
  | cons p m ih =>
    show aset ((.str p.1, enc p.2) :: sM enc m) (.str t) (enc v) = _
    rw [aset_cons, putS]
    have e : ceq (acells (.str t)) (acells (.str p.1)) = (t == p.1) := by simp [acells, ceq, ceq1]
    show (if ceq (acells (.str t)) (acells (.str p.1)) = true then _ else _) = _
    rw [e]
    cases h : (t == p.1)
    · simp only [Bool.false_eq_true, if_false]; rw [ih]; rfl
    · simp [sM]
theorem getS_putS (m : List (List UInt8 × α)) (t u : List UInt8) (v : α) : getS (putS m t v) u = if u = t then some v else getS m u := by
  induction m with
  | nil =>
    by_cases h : u = t
    · subst h; simp [putS, getS]
    · simp [putS, getS, h]
  | cons p m ih =>
    rw [putS]
    by_cases h : t = p.1
    · subst h
      rw [if_pos (by simp)]
      by_cases h2 : u = p.1
      · subst h2; simp [getS]
      · simp [getS, h2]
    · rw [if_neg (by simpa using h)]
      by_cases h2 : u = p.1
      · subst h2
        rw [if_neg (fun e => h e.symm)]
        simp [getS]
      · have : ∀ z : List (List UInt8 × α), getS (p :: z) u = getS z u := fun z => by simp [getS, h2]
        rw [this, this, ih]
theorem putS_len (m : List (List UInt8 × α)) (t : List UInt8) (v : α) : (putS m t v).length ≤ m.length + 1 := by
  induction m with
  | nil => simp [putS]
  | cons p m ih => rw [putS]; split <;> simp <;> omega
/-- Texts that are marked: what a map of truths keeps. -/
def isInS (m : List (List UInt8 × Bool)) (t : List UInt8) : Bool := (getS m t).getD false
theorem isInS_put (m : List (List UInt8 × Bool)) (t u : List UInt8) : isInS (putS m t true) u = (decide (u = t) || isInS m u) := by
  rw [isInS, getS_putS]
  by_cases h : u = t <;> simp [h, isInS]
theorem mem_sM {m : List (List UInt8 × α)} {p : AV × AV} (h : p ∈ sM enc m) : ∃ q ∈ m, p = (.str q.1, enc q.2) := by
  obtain ⟨q, hq, rfl⟩ := List.mem_map.1 h
  exact ⟨q, hq, rfl⟩
end

@[simp] theorem acells_bool (b : Bool) : acells (.bool b) = [.bool b] := rfl
@[simp] theorem acells_int (k : IntKind) (n : Int) : acells (.int k n) = [.int k n] := rfl
@[simp] theorem acells_str (s : List UInt8) : acells (.str s) = [.str s] := rfl
@[simp] theorem acells_agg (l : List AV) : acells (.agg l) = l := rfl
@[simp] theorem acells_ro (l : List (List AV)) : acells (.ro l) = [.ro l] := rfl
@[simp] theorem acells_nil : acells .nil = [.nil] := rfl
@[simp] theorem acells_e0 : acells .e0 = [.e0] := rfl
@[simp] theorem acells_own (b o l : Nat) : acells (.own b o l) = [.own b o l] := rfl
@[simp] theorem acells_map (b : Nat) : acells (.map b) = [.map b] := rfl
@[simp] theorem acells_ptr (b i c : Nat) : acells (.ptr b i c) = [.ptr b i c] := rfl
@[simp] theorem solid_bool (b : Bool) : (AV.bool b).solid = true := rfl
@[simp] theorem solid_int (k : IntKind) (n : Int) : (AV.int k n).solid = true := rfl
@[simp] theorem solid_str (s : List UInt8) : (AV.str s).solid = true := rfl
@[simp] theorem solid_agg (l : List AV) : (AV.agg l).solid = true := rfl
@[simp] theorem solid_ro (l : List (List AV)) : (AV.ro l).solid = true := rfl
@[simp] theorem solid_nil : AV.nil.solid = true := rfl
@[simp] theorem solid_e0 : AV.e0.solid = true := rfl
@[simp] theorem solid_own (b o l : Nat) : (AV.own b o l).solid = true := rfl
@[simp] theorem solid_map (b : Nat) : (AV.map b).solid = true := rfl
@[simp] theorem solid_ptr (b i c : Nat) : (AV.ptr b i c).solid = true := rfl
end Go.Abs
end
