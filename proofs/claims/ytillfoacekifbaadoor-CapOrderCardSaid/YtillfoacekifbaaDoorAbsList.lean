/-
  A list of the call's own that grows: nil, or the whole of one block; what 'append' makes of it. And a slice that is read, whatever it is made of.
-/
import Derived.Test.YtillfoacekifbaaDoorAbsBorrow
set_option linter.unusedVariables false
set_option linter.unusedSimpArgs false
namespace Go.Abs
open Go

@[simp] theorem nlt_add (a b : Nat) : a + b < a ↔ False := ⟨fun h => by omega, False.elim⟩

/-- Nil, or the whole of a block that lies from 'lo' on. -/
def Ls (n lo : Nat) (h : AHeap) (x : AV) (es : List (List AV)) : Prop :=
  ((x = .nil ∧ es = []) ∨ ∃ b, x = .own b 0 es.length ∧ lo ≤ b ∧ h[b]? = some (.cells n es)) ∧ ∀ e ∈ es, e.length = n

/-- What is asked of the type and of what is appended. -/
def appOk (P : Program) (h : AHeap) (ts : List TypeId) (n : Nat) (x : AV) (ys : List (List AV)) : Prop := match ts with
  | [t, u] => (match (tinfo P u).kind with | .int _ => False | _ => True) ∧ (tinfo P u).ok = true ∧
    (match (tinfo P t).kind with | .slice e => zeroOk (tinfo P e) ∧ (tinfo P e).cells = n ∧ 0 < n ∧ (tinfo P e).bytes ≤ 1000 | _ => False) ∧ slOk h x ∧ aelems h x = ys ∧ ∀ y ∈ ys, y.length = n
  | _ => False

/-- All but one list's block stands. -/
structure Grow (lo : Nat) (h : AHeap) (s : AV) (h' : AHeap) : Prop where
  keep : ∀ (b : Nat) (o : AObj), h[b]? = some o → (∀ off len, s ≠ .own b off len) → h'[b]? = some o
  base : ∀ h₀ : AHeap, h₀.length ≤ lo → (∃ g, h = h₀ ++ g) → ∃ g, h' = h₀ ++ g
  len : h.length ≤ h'.length

section
variable {P : Program} {n lo : Nat} {h h' : AHeap} {x s : AV} {es ys : List (List AV)} {k : AV → AHeap → Prop} {ts : List TypeId}

theorem Ls.core (r : Ls n lo h x es) : x.core = x := by rcases r.1 with ⟨rfl, _⟩ | ⟨b, rfl, _⟩ <;> rfl
theorem Ls.gd (r : Ls n lo h x es) : x.gd = true := by rcases r.1 with ⟨rfl, _⟩ | ⟨b, rfl, _⟩ <;> rfl
theorem Ls.alen (r : Ls n lo h x es) : alen h x = es.length := by rcases r.1 with ⟨rfl, rfl⟩ | ⟨b, rfl, _⟩ <;> rfl
theorem Ls.solid (r : Ls n lo h x es) : x.solid = true := by rcases r.1 with ⟨rfl, _⟩ | ⟨b, rfl, _⟩ <;> rfl
theorem Ls.acells (r : Ls n lo h x es) : acells x = [x] := by rcases r.1 with ⟨rfl, _⟩ | ⟨b, rfl, _⟩ <;> rfl
theorem Ls.nil : Ls n lo h .nil [] := ⟨.inl ⟨rfl, rfl⟩, by simp⟩
theorem Ls.own {b len : Nat} (hb : h[b]? = some (.cells n es)) (hl : lo ≤ b) (he : len = es.length) (hn : ∀ e ∈ es, e.length = n) : Ls n lo h (.own b 0 len) es := ⟨.inr ⟨b, by rw [he], hl, hb⟩, hn⟩
theorem Ls.grow {lo' : Nat} {t : AV} (r : Ls n lo h x es) (g : Grow lo' h t h') (hne : ∀ b, x = .own b 0 es.length → lo ≤ b → ∀ off len, t ≠ .own b off len) : Ls n lo h' x es := by
  obtain ⟨r, hn⟩ := r
  refine ⟨?_, hn⟩
  rcases r with h1 | ⟨b, rfl, hl, hb⟩
  · exact .inl h1
  · exact .inr ⟨b, rfl, hl, g.keep b _ hb (hne b rfl hl)⟩
theorem Ls.more (r : Ls n lo h x es) (g : AHeap) : Ls n lo (h ++ g) x es := by
  obtain ⟨r, hn⟩ := r
  refine ⟨?_, hn⟩
  rcases r with h1 | ⟨b, rfl, hl, hb⟩
  · exact .inl h1
  · refine .inr ⟨b, rfl, hl, ?_⟩
    rw [List.getElem?_append_left (List.getElem?_eq_some_iff.1 hb).1]; exact hb
theorem Ls.put {b : Nat} {o : AObj} (r : Ls n lo h x es) (hb : b < lo) : Ls n lo (h.set b o) x es := by
  obtain ⟨r, hn⟩ := r
  refine ⟨?_, hn⟩
  rcases r with h1 | ⟨b', rfl, hl, hb'⟩
  · exact .inl h1
  · exact .inr ⟨b', rfl, hl, by rw [List.getElem?_set_ne (by omega)]; exact hb'⟩

theorem Ls.base {h₀ h₁ g : AHeap} (r : Ls n lo (h₀ ++ g) x es) (hl : h₀.length ≤ lo) (hl' : h₁.length = h₀.length) (g' : AHeap) : Ls n lo (h₁ ++ (g ++ g')) x es := by
  obtain ⟨r, hn⟩ := r
  refine ⟨?_, hn⟩
  rcases r with h1 | ⟨b, rfl, hlb, hb⟩
  · exact .inl h1
  · refine .inr ⟨b, rfl, hlb, ?_⟩
    rw [List.getElem?_append_right (by omega)] at hb ⊢
    rw [hl', List.getElem?_append_left (List.getElem?_eq_some_iff.1 hb).1]; exact hb

theorem aelems_ls (r : Ls n lo h x es) : aelems h x = es := by
  rcases r.1 with ⟨rfl, rfl⟩ | ⟨b, rfl, _, hb⟩
  · rfl
  · simp [hb]

/-- 'append' to a list of the call's own. -/
theorem append_ls (r : Ls n lo h s es) (hlo : lo ≤ h.length) (hok : appOk P h ts n x ys) (hl : es.length + ys.length ≤ 100000000)
    (hc : ∀ s' h', Ls n lo h' s' (es ++ ys) → Grow lo h s h' → k s' h') : appendOk P h ts s x ∧ appendK n h s x k := by
  unfold appOk at hok
  split at hok
  · rename_i t u
    obtain ⟨hu, huo, ht, hx, hy, hyn⟩ := hok
    split at ht
    · rename_i e he
      obtain ⟨hz, hcn, hn0, hbt⟩ := ht
      have hes := aelems_ls r
      have hlen : (es.length + ys.length) * (tinfo P e).bytes ≤ 140737488355328 := Nat.le_trans (Nat.mul_le_mul hl hbt) (by omega)
      refine ⟨⟨hu, huo, ?_⟩, ?_⟩
      · rw [he]
        refine ⟨hz, by omega, ?_, ?_, hx, by rw [hes, hcn]; exact r.2, by rw [hy, hcn]; exact hyn, by rw [hes, hy]; exact hlen, by rw [hes, hy]; omega⟩
        · rcases r.1 with ⟨rfl, _⟩ | ⟨b, rfl, _, hb⟩
          · trivial
          · simp [hb, hcn]
        · rcases r.1 with ⟨rfl, _⟩ | ⟨b, rfl, _, hb⟩
          · trivial
          · simp [slOk, hb]
      · have hnew : ∀ (h1 : AHeap), (h1 ++ [AObj.cells n (es ++ ys)])[h1.length]? = some (.cells n (es ++ ys)) := by simp
        have hall : ∀ e ∈ es ++ ys, e.length = n := by
          intro e he
          rcases List.mem_append.1 he with h1 | h1
          · exact r.2 e h1
          · exact hyn e h1
        rcases r.1 with ⟨rfl, rfl⟩ | ⟨b, rfl, hlb, hb⟩
        · unfold appendK
          rw [hy]
          refine ⟨fun h0 => hc _ _ ⟨.inl ⟨rfl, by simp [h0]⟩, hall⟩ ⟨fun b o hb _ => hb, fun h₀ _ hg => hg, Nat.le_refl _⟩, fun h0 => hc _ _ ⟨.inr ⟨h.length, by simp, hlo, by simp⟩, hall⟩ ⟨fun b o hb _ => ?_, ?_, by simp⟩⟩
          · rw [List.getElem?_append_left (List.getElem?_eq_some_iff.1 hb).1]; exact hb
          · rintro h₀ _ ⟨g, rfl⟩; exact ⟨g ++ _, by rw [List.append_assoc]⟩
        · unfold appendK
          rw [hes, hy]
          refine hc _ _ ⟨.inr ⟨h.length, by simp, hlo, by simp⟩, hall⟩ ⟨fun b' o hb' hne => ?_, ?_, by simp⟩
          · have hbb : b' ≠ b := by rintro rfl; exact hne 0 es.length rfl
            rw [List.getElem?_append_left (by simp; exact (List.getElem?_eq_some_iff.1 hb').1), List.getElem?_set_ne (Ne.symm hbb)]; exact hb'
          · rintro h₀ hl₀ ⟨g, rfl⟩
            refine ⟨g.set (b - h₀.length) .dead ++ [.cells n (es ++ ys)], ?_⟩
            rw [List.set_append, if_neg (by omega), List.append_assoc]
    · exact ht.elim
  · exact hok.elim

/-- Data of the call's own, handed out. -/
theorem Ls.frz (r : Ls n lo h x es) {m : Nat} (hm : m ≤ lo) (hd : ∀ e ∈ es, ∀ y ∈ e, y.Data) : Frz m h x (.ro es) := by
  rcases r.1 with ⟨rfl, rfl⟩ | ⟨b, rfl, hl, hb⟩
  · exact .nil
  · obtain ⟨hlt, hge⟩ := List.getElem?_eq_some_iff.1 hb
    exact Frz.ownD hb (by omega) (by omega) (by simp) hd
end

/-- The one cell of an element that is a plain value. -/
structure Elt1 (e : List AV) : Prop where
  len : e.length = 1
  core : ∀ h : 0 < e.length, e[0].core = e[0]
  gd : ∀ h : 0 < e.length, e[0].gd = true
  solid : ∀ h : 0 < e.length, e[0].solid = true
  cells : ∀ h : 0 < e.length, acells e[0] = e
theorem Elt1.at {e : List AV} (r : Elt1 e) (h : 0 < e.length) : e[0] = e.getD 0 .junk := by simp [h]
theorem Elt1.int (k : IntKind) (n : Int) : Elt1 [.int k n] := ⟨rfl, fun _ => rfl, fun _ => rfl, fun _ => rfl, fun _ => rfl⟩
theorem Elt1.str (s : List UInt8) : Elt1 [.str s] := ⟨rfl, fun _ => rfl, fun _ => rfl, fun _ => rfl, fun _ => rfl⟩
theorem Elt1.bool (b : Bool) : Elt1 [.bool b] := ⟨rfl, fun _ => rfl, fun _ => rfl, fun _ => rfl, fun _ => rfl⟩
theorem Elt1.ro (l : List (List AV)) : Elt1 [.ro l] := ⟨rfl, fun _ => rfl, fun _ => rfl, fun _ => rfl, fun _ => rfl⟩

theorem aidx_cons (p : AV × AV) (kvs : List (AV × AV)) (k : AV) : aidx (p :: kvs) k = if ceq (acells k) (acells p.1) = true then some 0 else (aidx kvs k).map (· + 1) := by
  rw [aidx, List.findIdx?_cons]
  rfl
theorem aset_nil (k v : AV) : aset [] k v = [(k, v)] := rfl
theorem aset_cons (p : AV × AV) (kvs : List (AV × AV)) (k v : AV) : aset (p :: kvs) k v = if ceq (acells k) (acells p.1) = true then (k, v) :: kvs else p :: aset kvs k v := by
  unfold aset
  rw [aidx_cons]
  by_cases h : ceq (acells k) (acells p.1) = true
  · rw [if_pos h, if_pos h]; rfl
  · rw [if_neg h, if_neg h]
    cases aidx kvs k <;> rfl
theorem alook_nil (k : AV) : alook [] k = none := rfl
theorem alook_cons (p : AV × AV) (kvs : List (AV × AV)) (k : AV) : alook (p :: kvs) k = if ceq (acells k) (acells p.1) = true then some p.2 else alook kvs k := by
  unfold alook
  rw [List.find?_cons]
  split
  · rename_i h; rw [if_pos h]; rfl
  · rename_i h; rw [if_neg (by rw [h]; exact Bool.false_ne_true)]

/-- A slice of n elements, the first i of them filled in. -/
def fillC (f : Nat → List AV) (z : List AV) (n i : Nat) : List (List AV) := (List.range i).map f ++ List.replicate (n - i) z
theorem fillC_len (f : Nat → List AV) (z : List AV) {n i : Nat} (h : i ≤ n) : (fillC f z n i).length = n := by simp [fillC]; omega
theorem fillC_at (f : Nat → List AV) (z : List AV) {n i : Nat} (h : i < n) : (fillC f z n i)[i]? = some z := by
  unfold fillC
  rw [List.getElem?_append_right (by simp), List.length_map, List.length_range, Nat.sub_self, show n - i = (n - (i + 1)) + 1 by omega, List.replicate_succ]
  rfl
theorem fillC_zero (f : Nat → List AV) (z : List AV) (n : Nat) : List.replicate n z = fillC f z n 0 := by simp [fillC]
theorem fillC_all (f : Nat → List AV) (z : List AV) (n : Nat) : fillC f z n n = (List.range n).map f := by simp [fillC]
theorem fillC_set (f : Nat → List AV) (z : List AV) {n i : Nat} (h : i < n) : (fillC f z n i).set i (f i) = fillC f z n (i + 1) := by
  unfold fillC
  rw [List.set_append, if_neg (by simp), List.length_map, List.length_range, Nat.sub_self, show n - i = (n - (i + 1)) + 1 by omega, List.replicate_succ, List.set_cons_zero, List.range_succ, List.map_append, List.append_assoc]
  rfl

/-- A slice that is read: shared, of a block of the call's own, or none. -/
def Rs (n : Nat) (h : AHeap) (x : AV) (es : List (List AV)) : Prop := Rd n h x es ∨ (es = [] ∧ (x = .nil ∨ x = .e0))
section
variable {P : Program} {n lo : Nat} {h : AHeap} {x : AV} {es : List (List AV)}
theorem Ls.rs (r : Ls n lo h x es) : Rs n h x es := by
  obtain ⟨r, hn⟩ := r
  rcases r with ⟨rfl, rfl⟩ | ⟨b, rfl, _, hb⟩
  · exact .inr ⟨rfl, .inl rfl⟩
  · exact .inl (Rd.own hb hn)
theorem Rd.rs (r : Rd n h x es) : Rs n h x es := .inl r
theorem Rs.ro (hn : ∀ e ∈ es, e.length = n) : Rs n h (.ro es) es := .inl (.ro hn)
theorem Rs.nil : Rs n h .nil [] := .inr ⟨rfl, .inl rfl⟩
theorem Rs.own {b : Nat} (hb : h[b]? = some (.cells n es)) (hn : ∀ e ∈ es, e.length = n) : Rs n h (.own b 0 es.length) es := .inl (.own hb hn)
theorem Rs.sub {b off len : Nat} {all : List (List AV)} (hb : h[b]? = some (.cells n all)) (hl : off + len ≤ all.length) (he : es = (all.drop off).take len) (hn : ∀ e ∈ es, e.length = n) : Rs n h (.own b off len) es := by
  have hle : es.length = len := by rw [he]; simp; omega
  refine .inl ⟨.inr ⟨b, off, all, by rw [hle], hb, by omega, fun i hi => ?_⟩, hn⟩
  rw [he, List.getElem?_take_of_lt (by omega), List.getElem?_drop]
theorem Rs.append (r : Rs n h x es) (g : AHeap) : Rs n (h ++ g) x es := r.imp (fun r => r.append g) id
theorem Rs.core (r : Rs n h x es) : x.core = x := by rcases r with r | ⟨_, rfl | rfl⟩ <;> first | exact r.core | rfl
theorem Rs.gd (r : Rs n h x es) : x.gd = true := by rcases r with r | ⟨_, rfl | rfl⟩ <;> first | exact r.gd | rfl
theorem Rs.alen (r : Rs n h x es) : alen h x = es.length := by rcases r with r | ⟨rfl, rfl | rfl⟩ <;> first | exact r.alen | rfl
theorem Rs.lenOk (r : Rs n h x es) {e : TypeId} : lenOk h (.slice e) x ↔ True := by rcases r with r | ⟨rfl, rfl | rfl⟩ <;> first | exact r.lenOk | simp [Go.Abs.lenOk]
theorem Rs.rd (r : Rs n h x es) {i : Nat} (hi : i < es.length) : Rd n h x es := by rcases r with r | ⟨rfl, _⟩; exact r; simp at hi
theorem Rs.len (r : Rs n h x es) : ∀ e ∈ es, e.length = n := by rcases r with r | ⟨rfl, _⟩; exact r.2; simp
theorem Rs.slOk (r : Rs n h x es) : slOk h x := by
  rcases r with ⟨rfl | ⟨b, off, all, rfl, hb, hl, _⟩, _⟩ | ⟨_, rfl | rfl⟩ <;> try trivial
  simp [Go.Abs.slOk, hb, hl]
theorem Rs.aelems (r : Rs n h x es) : aelems h x = es := by
  rcases r with ⟨rfl | ⟨b, off, all, rfl, hb, hl, hg⟩, _⟩ | ⟨rfl, rfl | rfl⟩ <;> try rfl
  simp only [Go.Abs.aelems, hcells, hb]
  refine List.ext_getElem? fun i => ?_
  rcases Nat.lt_or_ge i es.length with hi | hi
  · rw [List.getElem?_take_of_lt hi, List.getElem?_drop, hg i hi]
  · rw [List.getElem?_eq_none (by simp; omega), List.getElem?_eq_none hi]
theorem Rs.frz (r : Rs n h x es) (hd : ∀ e ∈ es, ∀ y ∈ e, y.Data) : Frz 0 h x (.ro es) := by
  have hx := r.aelems
  rcases r with ⟨rfl | ⟨b, off, all, rfl, hb, hl, hg⟩, _⟩ | ⟨rfl, rfl | rfl⟩
  · exact .data _ (.ro _ hd)
  · simp only [Go.Abs.aelems, hcells, hb] at hx
    exact Frz.ownD hb (by omega) hl hx.symm hd
  · exact .nil
  · exact .e0
/-- An element of it: its place, what is loaded from it, and from its fields. -/
theorem Rs.ix (P : Program) (r : Rs n h x es) (i : Int) (h0 : 0 ≤ i) {y : List AV} (hy : es[i.toNat]? = some y) :
    (∀ e, (tinfo P e).ok = true → (tinfo P e).cells = n → (iaddrOk P h (.slice e) x i ↔ True)) ∧ (∀ e, (iaddrV P (.slice e) x i).core = iaddrV P (.slice e) x i) ∧ (∀ e, (iaddrV P (.slice e) x i).gd = true) ∧
    (∀ e t, loadV P h t (iaddrV P (.slice e) x i) = acut (tinfo P t) y 0) ∧ (∀ e t, loadOk P h t (iaddrV P (.slice e) x i) ↔ cutOk (tinfo P t) y 0) ∧ (∀ e, faddrOk (iaddrV P (.slice e) x i) ↔ True) ∧
    (∀ e s f, (faddrV P s f (iaddrV P (.slice e) x i)).core = faddrV P s f (iaddrV P (.slice e) x i)) ∧ (∀ e s f, (faddrV P s f (iaddrV P (.slice e) x i)).gd = true) ∧
    (∀ e s f t, loadV P h t (faddrV P s f (iaddrV P (.slice e) x i)) = acut (tinfo P t) y (foff (tinfo P s) f)) ∧ (∀ e s f t, loadOk P h t (faddrV P s f (iaddrV P (.slice e) x i)) ↔ cutOk (tinfo P t) y (foff (tinfo P s) f)) := by
  have hlt : i < es.length := by have := (List.getElem?_eq_some_iff.1 hy).1; omega
  have r := r.rd (i := i.toNat) (by omega)
  exact ⟨fun e a b => r.iaddrOk a b h0 hlt, fun e => r.icore h0 hlt, fun e => r.igd h0 hlt, fun e t => r.loadV h0 hlt hy, fun e t => r.loadOk h0 hlt hy, fun e => r.faddrOk h0 hlt, fun e s f => r.fcore h0 hlt, fun e s f => r.fgd h0 hlt,
    fun e s f t => r.floadV h0 hlt hy, fun e s f t => r.floadOk h0 hlt hy⟩
theorem Rs.fix (r : Rs n h x es) : x.core = x ∧ x.gd = true ∧ x.solid = true ∧ acells x = [x] := by
  rcases r with ⟨rfl | ⟨_, _, _, rfl, _⟩, _⟩ | ⟨_, rfl | rfl⟩ <;> exact ⟨rfl, rfl, rfl, rfl⟩
theorem Rs.len2 (r : Rs n h x es) : Go.Abs.alen h x = es.length ∧ ∀ e, Go.Abs.lenOk h (.slice e) x ↔ True := ⟨r.alen, fun e => r.lenOk⟩
end
end Go.Abs
