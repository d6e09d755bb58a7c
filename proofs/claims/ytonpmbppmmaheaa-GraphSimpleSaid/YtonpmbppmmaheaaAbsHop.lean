/-
  Operations that turn the abstract heap.
  Slices that are made and that grow.
  'append', 'make', and what a slice shows.
  'append', whole; 'make'; maps.
  'make' of a slice and of a map; a store into a map; 'delete'; 'copy'.
  Going through a string's letters.
-/
import Derived.Test.YtonpmbppmmaheaaAbsSound
import Derived.Test.YtonpmbppmmaheaaAbsCore
import Derived.Laws.AppendOwn
import Derived.Laws.MakeOwn
import Derived.Laws.RangeString
import Derived.Maps.RangeRun
set_option linter.unusedVariables false
set_option linter.unusedSimpArgs false

section 

namespace Go.Abs
open Go

section
variable {P : Program} {gl : Globs} {J : List Blk} {h : AHeap} {w : World} {O : Nat → Prop} {fr : AFrame} {N : Nat}

/-- What an operation may leave: a value and a world that show one of the outcomes. -/
def Steps1 (P : Program) (gl : Globs) (h : AHeap) (J : List Blk) (w : World) (s : Sem Value) (R : AV → AHeap → Prop) : Prop :=
  ∃ v w' J' x h', s.run P w = .ok v w' ∧ HRel gl h' J' w' ∧ VRel J' (Own h' J') w' x v ∧ Evo h J w h' J' w' ∧ R x h'
def Steps0 (P : Program) (gl : Globs) (h : AHeap) (J : List Blk) (w : World) (s : Sem Unit) (R : AHeap → Prop) : Prop :=
  ∃ w' J' h', s.run P w = .ok () w' ∧ HRel gl h' J' w' ∧ Evo h J w h' J' w' ∧ R h'

theorem alloc_cells (hh : HRel gl h J w) (T : TypeId) (us : Array Value) (es : List (List AV)) (n cap : Nat) (hn : 0 < n) (hcap : es.length ≤ cap) (hsz : cap * n ≤ us.size) (hl : ∀ (i : Nat) (e : List AV), es[i]? = some e → e.length = n)
    (hr : ∀ (i : Nat) (e : List AV) (c : Nat) (x : AV), es[i]? = some e → e[c]? = some x → ∃ v, us[i * n + c]? = some v ∧ v.oneCell' = true ∧ VRel J (Own h J) w x v) :
    HRel gl (h ++ [.cells n es]) (J ++ [⟨w.heap.size, 0, n, cap⟩]) (w.alloc (.cells us T)) ∧ Evo h J w (h ++ [.cells n es]) (J ++ [⟨w.heap.size, 0, n, cap⟩]) (w.alloc (.cells us T)) := by
  refine hh.alloc _ _ _ rfl fun J' O' hm => ⟨rfl, hn, hcap, hl, us, T, heap_alloc_new w _, by simpa using hsz, fun i e c x hi hx => ?_⟩
  obtain ⟨v, h1, h2, h3⟩ := hr i e c x hi hx
  exact ⟨v, by simpa using h1, h2, hm x v h3⟩

theorem alloc_last (hh : HRel gl h J w) (k : Blk) : (J ++ [k])[h.length]? = some k := by
  rw [← hh.len]; simp

/-- A variable of its own. -/
theorem box_steps (hh : HRel gl h J w) {t : TypeId} {x : AV} {u : Value} (hx : VRel J (Own h J) w x u) (hs : x.solid = true) (hl : 0 < (acells x).length) {R : AV → AHeap → Prop} (hR : R (.ptr h.length 0 0) (h ++ [.cells (acells x).length [acells x]])) :
    Steps1 P gl h J w (Instr.box t u) R := by
  obtain ⟨hc1, hc2⟩ := cells_sound hx hs
  have hlen := hc1.1
  obtain ⟨h1, h2⟩ := alloc_cells hh t u.cells [acells x] (acells x).length 1 hl (by simp) (by rw [hlen]; simp) (by intro i e hi; cases i <;> simp at hi; simp [hi]) (by
    intro i e c y hi hy
    cases i with
    | zero =>
      simp at hi
      subst hi
      have hlt : c < u.cells.toList.length := by rw [← hlen]; exact (List.getElem?_eq_some_iff.1 hy).1
      have hu : u.cells.toList[c]? = some (u.cells.toList[c]'hlt) := List.getElem?_eq_getElem hlt
      refine ⟨u.cells.toList[c]'hlt, ?_, hc2 _ (List.getElem_mem hlt), hc1.2 c _ _ hy hu⟩
      rw [Nat.zero_mul, Nat.zero_add, ← hu]
      simp
    | succ i => simp at hi)
  refine ⟨_, _, _, _, _, rfl, h1, ?_, h2, hR⟩
  have := VRel.ptr (J := J ++ [⟨w.heap.size, 0, (acells x).length, 1⟩]) (O := Own (h ++ [.cells (acells x).length [acells x]]) (J ++ [⟨w.heap.size, 0, (acells x).length, 1⟩])) (w := w.alloc (.cells u.cells t)) h.length 0 0 _ (alloc_last hh _)
  simpa using this

theorem alloc_steps (hh : HRel gl h J w) {t : TypeId} (ht : (tinfo P t).ok = true) (hz : (tinfo P t).zok = true) (hl : 0 < (tinfo P t).zero.length) {R : AV → AHeap → Prop} (hR : R (.ptr h.length 0 0) (h ++ [.cells (tinfo P t).zero.length [(tinfo P t).zero]])) :
    Steps1 P gl h J w (Instr.alloc t true (.tuple #[])) R := by
  obtain ⟨z, hz1, hz2, hz3, hz4⟩ := run_zeroValue' ht hz w
  have hzr := vrels_ofV1 (J := J) (O := Own h J) (w := w) hz2
  rw [← hz3] at hzr
  have hlen := hzr.1
  obtain ⟨h1, h2⟩ := alloc_cells hh t z.cells [(tinfo P t).zero] (tinfo P t).zero.length 1 hl (by simp) (by rw [hlen]; simp) (by intro i e hi; cases i <;> simp at hi; simp [hi]) (by
    intro i e c y hi hy
    cases i with
    | zero =>
      simp at hi
      subst hi
      have hlt : c < z.cells.toList.length := by rw [← hlen]; exact (List.getElem?_eq_some_iff.1 hy).1
      have hu : z.cells.toList[c]? = some (z.cells.toList[c]'hlt) := List.getElem?_eq_getElem hlt
      refine ⟨z.cells.toList[c]'hlt, ?_, hz2 _ (List.getElem_mem hlt), hzr.2 c _ _ hy hu⟩
      rw [Nat.zero_mul, Nat.zero_add, ← hu]
      simp
    | succ i => simp at hi)
  refine ⟨.pointer (some ⟨w.heap.size, 0, none⟩), w.alloc (.cells z.cells t), _, _, _, ?_, h1, ?_, h2, hR⟩
  · simp only [Instr.alloc, Sem.run_bind, hz1, Result.andThen_ok]; rfl
  · have := VRel.ptr (J := J ++ [⟨w.heap.size, 0, (tinfo P t).zero.length, 1⟩]) (O := Own (h ++ [.cells (tinfo P t).zero.length [(tinfo P t).zero]]) (J ++ [⟨w.heap.size, 0, (tinfo P t).zero.length, 1⟩])) (w := w.alloc (.cells z.cells t)) h.length 0 0 _ (alloc_last hh _)
    simpa using this

/-! ### Stores -/

theorem run_storeCells' (r off : Nat) (T : TypeId) : ∀ (us : List Value) (i : Nat) (cur : Array Value) (w : World), w.heap[r]? = some (.cells cur T (0, 0)) → off + i + us.length ≤ cur.size → (∀ v ∈ us, v.oneCell' = true) →
    ∃ (w' : World) (new : Array Value), (storeCells ⟨r, off, none⟩ us i).run P w = .ok () w' ∧ w'.heap[r]? = some (.cells new T (0, 0)) ∧ new.size = cur.size ∧
      (∀ j, new[j]? = if off + i ≤ j ∧ j < off + i + us.length then us[j - (off + i)]? else cur[j]?) ∧ (∀ b, b ≠ r → w'.heap[b]? = w.heap[b]?) ∧ w'.heap.size = w.heap.size ∧ w'.os = w.os ∧ w'.tape = w.tape ∧ w'.output = w.output
  | [], i, cur, w, hw, _, _ => ⟨w, cur, rfl, hw, rfl, fun j => by rw [if_neg (by simp only [List.length_nil]; omega)], fun _ _ => rfl, rfl, rfl, rfl, rfl⟩
  | v :: us, i, cur, w, hw, hle, h1 => by
    simp only [List.length_cons] at hle
    have hlt : off + i < cur.size := by omega
    have hcell : w.cell? ⟨r, off + i, none⟩ = some cur[off + i] := by rw [cell_of_heap hw]; exact Array.getElem?_eq_getElem hlt
    have hfz : w.frozen? ⟨r, off + i, none⟩ = false := frozen_of_row w r (off + i) cur T hw
    have hst : (store ⟨r, off + i, none⟩ v).run P w = .ok () (w.setCell ⟨r, off + i, none⟩ v) := by
      rw [run_store P w _ v _ (h1 v (by simp)), hcell, hfz]; rfl
    have hw1 := heap_setCell_same w r (off + i) cur T v hw
    obtain ⟨w', new, e1, e2, e3, e4, e5, e6, e7, e8, e9⟩ := run_storeCells' r off T us (i + 1) (cur.setIfInBounds (off + i) v) (w.setCell ⟨r, off + i, none⟩ v) hw1 (by simp; omega) (fun u hu => h1 u (by simp [hu]))
    refine ⟨w', new, ?_, e2, by rw [e3]; simp, ?_, ?_, by rw [e6]; simp, by rw [e7]; rfl, by rw [e8]; rfl, by rw [e9]; rfl⟩
    · simp only [storeCells, add_mk, Sem.run_bind, hst, Result.andThen_ok, e1]
    · intro j
      rw [e4 j]
      by_cases hj : off + (i + 1) ≤ j ∧ j < off + (i + 1) + us.length
      · rw [if_pos hj, if_pos (by simp; omega), show j - (off + i) = (j - (off + (i + 1))) + 1 by omega, List.getElem?_cons_succ]
      · rw [if_neg hj]
        by_cases hj2 : off + i = j
        · subst hj2
          rw [if_pos (by simp), Array.getElem?_setIfInBounds_self_of_lt hlt]
          simp
        · rw [if_neg (by simp; omega), Array.getElem?_setIfInBounds_ne hj2]
    · intro b hb
      rw [e5 b hb, heap_setCell_other w _ b v hb]

/-- A block's content, some cells of one element written. -/
def hput (h : AHeap) (b i c : Nat) (cs : List AV) : AHeap := h.set b (.cells (hsz h b) ((hcells h b).set i (splice ((hcells h b).getD i []) c cs)))

theorem idx_ne {i i' n c c' : Nat} (hc : c < n) (hc' : c' < n) (h : i ≠ i') : i * n + c ≠ i' * n + c' := by
  intro e
  rcases Nat.lt_or_gt_of_ne h with hlt | hlt
  · have : (i + 1) * n ≤ i' * n := Nat.mul_le_mul_right n hlt
    rw [Nat.add_mul] at this
    omega
  · have : (i' + 1) * n ≤ i * n := Nat.mul_le_mul_right n hlt
    rw [Nat.add_mul] at this
    omega

theorem store_steps (hh : HRel gl h J w) {t : TypeId} {b i c : Nat} {x : AV} {p u : Value} (ht : (tinfo P t).ok = true) (hp : VRel J (Own h J) w (.ptr b i c) p) (hx : VRel J (Own h J) w x u) (hs : x.solid = true)
    (hl : (acells x).length = (tinfo P t).cells) (hi : i < (hcells h b).length) (hc : c + (tinfo P t).cells ≤ ((hcells h b).getD i []).length) {R : AHeap → Prop} (hR : R (hput h b i c (acells x))) :
    Steps0 P gl h J w (Instr.storeAt t p u) R := by
  obtain ⟨hc1, hc2⟩ := cells_sound hx hs
  have hlen := hc1.1
  have hg : (hcells h b)[i]? = some ((hcells h b).getD i []) := by simp [List.getD, List.getElem?_eq_getElem hi]
  obtain ⟨k, hk, rfl, hkl, _⟩ := erow_ptr hh hp hg
  have hp0 : 0 < hsz h b := by
    unfold hcells at hi
    unfold hsz
    split at hi
    · rename_i n' es he'
      obtain ⟨hkn, hn, _⟩ := hh.obj b k _ hk he'
      first | omega | (simp only [he']; omega)
    · simp at hi
  obtain ⟨es, he, hsz0, hes⟩ := hsz_n hh hk hp0
  rw [hes] at hi hc hg hkl
  obtain ⟨_, hn, hcap, hlens, vs, T, hheap, hsz, hcell⟩ := hh.obj b k _ hk he
  have hle : i * k.n + k.n ≤ k.cap * k.n := by
    have h1 : (i + 1) * k.n ≤ k.cap * k.n := Nat.mul_le_mul_right k.n (by omega)
    rwa [Nat.add_mul, Nat.one_mul] at h1
  obtain ⟨w', new, e1, e2, e3, e4, e5, e6, e7, e8, e9⟩ := run_storeCells' (P := P) k.r (k.base + (i * k.n + c)) T u.cells.toList 0 vs w hheap (by rw [← hlen]; omega) hc2
  have hput_eq : hput h b i c (acells x) = h.set b (.cells k.n (es.set i (splice (es.getD i []) c (acells x)))) := by simp [hput, hes, hsz0]
  have hsl : c + (acells x).length ≤ (es.getD i []).length := by omega
  obtain ⟨r1, r2⟩ := hh.set (o' := .cells k.n es) (k := k) (w' := w') (.cells k.n (es.set i (splice (es.getD i []) c (acells x)))) hk he (by simp) e6 e5 e7 e8 e9 (by
    intro O' hm
    refine ⟨rfl, hn, by simpa using hcap, ?_, new, T, e2, by omega, ?_⟩
    · intro i' e hi'
      by_cases hii : i = i'
      · subst hii
        rw [List.getElem?_set_self hi] at hi'
        injection hi' with hi'
        rw [← hi', length_splice' _ _ _ hsl]
        exact hkl
      · rw [List.getElem?_set_ne hii] at hi'
        exact hlens i' e hi'
    · intro i' e c' y hi' hy
      by_cases hii : i = i'
      · subst hii
        rw [List.getElem?_set_self hi] at hi'
        injection hi' with hi'
        subst hi'
        rw [getElem?_splice _ _ _ hsl] at hy
        split at hy
        · rename_i hcc
          have hlt : c' - c < u.cells.toList.length := by rw [← hlen]; omega
          have hu : u.cells.toList[c' - c]? = some (u.cells.toList[c' - c]'hlt) := List.getElem?_eq_getElem hlt
          refine ⟨u.cells.toList[c' - c]'hlt, ?_, hc2 _ (List.getElem_mem hlt), hm _ _ (hc1.2 _ _ _ hy hu)⟩
          rw [e4, if_pos (by rw [← hlen]; omega), ← hu]
          congr 1
          omega
        · rename_i hcc
          have hlt' : c' < k.n := by
            have h1 := (List.getElem?_eq_some_iff.1 hy).1
            omega
          obtain ⟨v, p1, p2, p3⟩ := hcell i _ c' y hg hy
          refine ⟨v, ?_, p2, hm _ _ p3⟩
          rw [e4, if_neg (by rw [← hlen]; omega)]
          exact p1
      · rw [List.getElem?_set_ne hii] at hi'
        obtain ⟨v, p1, p2, p3⟩ := hcell i' e c' y hi' hy
        refine ⟨v, ?_, p2, hm _ _ p3⟩
        have hlt' : c' < k.n := by
          rw [← hlens i' e hi']
          exact (List.getElem?_eq_some_iff.1 hy).1
        rw [e4, if_neg ?_]
        · exact p1
        · intro hcc
          rw [← hlen] at hcc
          have h2 : c + (acells x).length ≤ k.n := by omega
          have := idx_ne (i := i) (i' := i') (n := k.n) (c := k.base + (i' * k.n + c') - (k.base + (i * k.n))) (c' := c') (by omega) hlt' hii
          omega)
  refine ⟨w', J, _, ?_, by rw [hput_eq]; exact r1, by rw [hput_eq]; exact r2, hR⟩
  have hsc : (storeCells ((⟨k.r, k.base + i * k.n, none⟩ : Addr).add c) u.cells.toList).run P w = .ok () w' := by
    rw [add_mk, show k.base + i * k.n + c = k.base + (i * k.n + c) by omega]
    exact e1
  have hss : u.cells.size = (tinfo P t).cells := by rw [← hl, hlen]; simp
  simp only [Instr.storeAt, Instr.sureAddr, Sem.run_bind, Sem.run_pure, Result.andThen_ok, storeVar, run_sizeOf' ht, hss]
  simp only [ne_eq, not_true_eq_false, if_false]
  exact hsc
end
end Go.Abs
end

section 

namespace Go.Abs
open Go

section
variable {P : Program} {gl : Globs} {J : List Blk} {h : AHeap} {w : World} {O : Nat → Prop} {fr : AFrame} {N : Nat}

theorem alloc_own (hh : HRel gl h J w) (es : List (List AV)) (n cap : Nat) (w' : World) (o : AObj) (hcap : es.length ≤ cap) : VRel (J ++ [⟨w.heap.size, 0, n, cap⟩]) (Own (h ++ [o]) (J ++ [⟨w.heap.size, 0, n, cap⟩])) w' (.own h.length 0 es.length) (.slice (some ⟨w.heap.size, 0, none⟩) es.length cap) :=
  .own _ _ _ ⟨w.heap.size, 0, n, cap⟩ _ _ (alloc_last hh _) (fun _ => by simp) hcap (by simp)

/-- The parts of a slice's literal, from 's' on. -/
def partsOk (n : Nat) : Nat → List (Nat × AV) → Prop
  | _, [] => True
  | s, (i, x) :: ps => i = s ∧ x.solid = true ∧ (acells x).length = n ∧ partsOk n (s + 1) ps

theorem abuildA_get {n : Nat} : ∀ (ps : List (Nat × AV)) (s : Nat) (cs : List AV), partsOk n s ps → (s + ps.length) * n ≤ cs.length → ∀ i c, c < n → i < s + ps.length →
    (abuildA n ps cs)[i * n + c]? = if i < s then cs[i * n + c]? else ((ps[i - s]?).map fun p => acells p.2).bind (·[c]?)
  | [], s, cs, _, _, i, c, hc, hi => by simp only [List.length_nil, Nat.add_zero] at hi; rw [if_pos hi]; rfl
  | (i0, x) :: ps, s, cs, hok, hl, i, c, hc, hi => by
    obtain ⟨rfl, hs, hlen, hok'⟩ := hok
    simp only [List.length_cons] at hl hi
    have hfit : i0 * n + (acells x).length ≤ cs.length := by
      rw [hlen]
      have : (i0 + 1) * n ≤ (i0 + (ps.length + 1)) * n := Nat.mul_le_mul_right n (by omega)
      rw [Nat.add_mul, Nat.one_mul] at this
      omega
    have hl' : (i0 + 1 + ps.length) * n ≤ (splice cs (i0 * n) (acells x)).length := by
      rw [length_splice' _ _ _ hfit, show i0 + 1 + ps.length = i0 + (ps.length + 1) by omega]; exact hl
    have ih := abuildA_get ps (i0 + 1) (splice cs (i0 * n) (acells x)) hok' hl' i c hc (by omega)
    simp only [abuildA]
    rw [ih]
    by_cases h1 : i < i0
    · rw [if_pos (by omega), if_pos h1, getElem?_splice _ _ _ hfit, if_neg ?_]
      have : (i + 1) * n ≤ i0 * n := Nat.mul_le_mul_right n h1
      rw [Nat.add_mul, Nat.one_mul] at this
      omega
    · by_cases h2 : i = i0
      · subst h2
        rw [if_pos (by omega), if_neg (by omega), getElem?_splice _ _ _ hfit, if_pos (by omega)]
        simp
      · rw [if_neg (by omega), if_neg h1, show i - i0 = (i - (i0 + 1)) + 1 by omega, List.getElem?_cons_succ]

theorem partsA {n : Nat} : ∀ (ps : List (Nat × AV)) (s : Nat) (total : Nat), partsOk n s ps → (s + ps.length) * n ≤ total → buildAOk n total ps
  | [], _, _, _, _ => trivial
  | (i, x) :: ps, s, total, hok, hl => by
    obtain ⟨rfl, hs, hlen, hok'⟩ := hok
    simp only [List.length_cons] at hl
    have : (i + 1) * n ≤ (i + (ps.length + 1)) * n := Nat.mul_le_mul_right n (by omega)
    rw [Nat.add_mul, Nat.one_mul] at this
    exact ⟨hs, hlen, by omega, partsA ps (i + 1) total hok' (by rw [show i + 1 + ps.length = i + (ps.length + 1) by omega]; exact hl)⟩

theorem parts_len {n : Nat} : ∀ (ps : List (Nat × AV)) (s : Nat), partsOk n s ps → ∀ (i : Nat) (e : List AV), (ps.map fun p => acells p.2)[i]? = some e → e.length = n
  | [], _, _, i, e, h => by simp at h
  | (j, x) :: ps, s, hok, i, e, h => by
    obtain ⟨rfl, hs, hlen, hok'⟩ := hok
    cases i with
    | zero => simp at h; rw [← h]; exact hlen
    | succ i => exact parts_len ps (j + 1) hok' i e (by simpa using h)

theorem zeros_get (z : Array Value) (m j : Nat) (hj : j < m) : ((Array.range m).map (z[· % z.size]!))[j]? = some (z[j % z.size]!) := by
  simp [hj]

/-- What is asked of a slice's literal. -/
def buildSliceOk (P : Program) (t : TypeId) (len : Nat) (ps : List (Nat × AV)) : Prop := match (tinfo P t).kind with
  | .slice e => zeroOk (tinfo P e) ∧ 0 < (tinfo P e).cells ∧ ps.length = len ∧ len * (tinfo P e).cells ≤ 16777216 ∧ partsOk (tinfo P e).cells 0 ps
  | _ => False

theorem buildSlice_steps (hh : HRel gl h J w) {t : TypeId} {len : Nat} {ps : List (Nat × AV)} {qs : Array (Nat × Value)} (hps : PRels J (Own h J) w ps qs.toList) (hok : buildSliceOk P t len ps) {R : AV → AHeap → Prop}
    (hR : R (.own h.length 0 len) (h ++ [.cells (elemCells P t) (ps.map fun p => acells p.2)])) : Steps1 P gl h J w (Instr.buildSlice t len qs) R := by
  unfold buildSliceOk at hok
  split at hok
  · rename_i e hk
    obtain ⟨hz, hpos, hlen, hsz, hpo⟩ := hok
    have hec : elemCells P t = (tinfo P e).cells := by simp [elemCells, hk]
    rw [hec] at hR
    obtain ⟨hu, _⟩ := kind_slice hk
    obtain ⟨heok, hezok, hzl⟩ := hz
    obtain ⟨z, hz1, hz2, hz3, hz4⟩ := run_zeroValue' heok hezok w
    have hzlen : z.cells.size = (tinfo P e).zero.length := by rw [hz3]; simp
    have hzpos : 0 < z.cells.size := by
      rw [hzlen, hzl]
      exact hpos
    -- the zeros
    have hzero : ∀ j, (z.cells[j % z.cells.size]!).oneCell' = true ∧ VRel J (Own h J) w (ofV1 (z.cells[j % z.cells.size]!)) (z.cells[j % z.cells.size]!) := by
      intro j
      have hlt : j % z.cells.size < z.cells.size := Nat.mod_lt _ hzpos
      have hm : (z.cells[j % z.cells.size]!) ∈ z.cells.toList := by
        rw [getElem!_pos z.cells (j % z.cells.size) hlt]
        exact Array.getElem_mem_toList hlt
      exact ⟨hz2 _ hm, vrel_ofV1 (hz2 _ hm)⟩
    let zs : Array Value := (Array.range (len * (tinfo P e).cells)).map (z.cells[· % z.cells.size]!)
    have hzs : VRels J (Own h J) w (zs.toList.map ofV1) zs.toList ∧ ∀ v ∈ zs.toList, v.oneCell' = true := by
      have h1 : ∀ v ∈ zs.toList, v.oneCell' = true := by
        intro v hv
        simp only [zs, Array.toList_map, List.mem_map] at hv
        obtain ⟨j, _, rfl⟩ := hv
        exact (hzero j).1
      exact ⟨vrels_ofV1 h1, h1⟩
    have hzslen : (zs.toList.map ofV1).length = len * (tinfo P e).cells := by simp [zs]
    obtain ⟨vs', e1, e2, e3⟩ := fillA_sound (place := fun i => some (i * (tinfo P e).cells, (tinfo P e).cells)) (n := (tinfo P e).cells) (cells := len * (tinfo P e).cells) (fun i => rfl) ps qs.toList _ zs.toList hps hzs.1 hzs.2 hzslen
      (partsA ps 0 _ hpo (by rw [Nat.zero_add, hlen]; exact Nat.le_refl _))
    have hvl : vs'.length = len * (tinfo P e).cells := by
      rw [← e2.1]
      -- the length of abuildA
      have : ∀ (ps : List (Nat × AV)) (cs : List AV), buildAOk (tinfo P e).cells cs.length ps → (abuildA (tinfo P e).cells ps cs).length = cs.length := by
        intro ps
        induction ps with
        | nil => intro cs _; rfl
        | cons p ps ih =>
          intro cs hb
          obtain ⟨i, x⟩ := p
          obtain ⟨b1, b2, b3, b4⟩ := hb
          simp only [abuildA]
          have hs := length_splice' cs (i * (tinfo P e).cells) (acells x) (by omega)
          rw [ih _ (by rw [hs]; exact b4), hs]
      rw [this ps _ (by rw [hzslen]; exact partsA ps 0 _ hpo (by rw [Nat.zero_add, hlen]; exact Nat.le_refl _)), hzslen]
    have hes : (ps.map fun p => acells p.2).length = len := by simp [hlen]
    obtain ⟨r1, r2⟩ := alloc_cells hh e vs'.toArray (ps.map fun p => acells p.2) (tinfo P e).cells len hpos (by omega) (by simp [hvl]) (parts_len ps 0 hpo) (by
      intro i ee c x hi hx
      have hcl : c < (tinfo P e).cells := by
        rw [← parts_len ps 0 hpo i ee hi]
        exact (List.getElem?_eq_some_iff.1 hx).1
      have hil : i < len := by
        rw [← hes]
        exact (List.getElem?_eq_some_iff.1 hi).1
      have hg := abuildA_get ps 0 (zs.toList.map ofV1) hpo (by rw [hzslen, Nat.zero_add, hlen]; exact Nat.le_refl _) i c hcl (by omega)
      rw [if_neg (by omega), Nat.sub_zero] at hg
      have hg2 : (abuildA (tinfo P e).cells ps (zs.toList.map ofV1))[i * (tinfo P e).cells + c]? = some x := by
        rw [hg]
        rw [List.getElem?_map] at hi
        rw [hi]
        exact hx
      have hlt : i * (tinfo P e).cells + c < vs'.length := by rw [← e2.1]; exact (List.getElem?_eq_some_iff.1 hg2).1
      have hv : vs'[i * (tinfo P e).cells + c]? = some (vs'[i * (tinfo P e).cells + c]'hlt) := List.getElem?_eq_getElem hlt
      exact ⟨_, by rw [List.getElem?_toArray]; exact hv, e3 _ (List.getElem_mem hlt), e2.2 _ _ _ hg2 hv⟩)
    refine ⟨.slice (some ⟨w.heap.size, 0, none⟩) len len, _, _, _, _, ?_, r1, ?_, r2, hR⟩
    · have hif : ¬ (len * (tinfo P e).cells > 2 ^ 24) := by omega
      simp only [Instr.buildSlice, Sem.run_bind, run_underlying hu, Result.andThen_ok, run_sizeOf' heok, Sem.run_ite, if_neg hif, Sem.run_pure]
      have hzz : (if len * (tinfo P e).cells = 0 then (pure #[] : Sem (Array Value)) else do pure (← zeroValue e).cells).run P w = .ok (if len * (tinfo P e).cells = 0 then #[] else z.cells) w := by
        split <;> simp [hz1]
      simp only [Sem.run_ite, Sem.run_pure, Sem.run_bind, hz1, Result.andThen_ok]
      by_cases h0 : len * (tinfo P e).cells = 0
      · have hl0 : len = 0 := by
          rcases Nat.mul_eq_zero.1 h0 with h | h
          · exact h
          · omega
        subst hl0
        have hp0 : ps = [] := List.eq_nil_of_length_eq_zero hlen
        subst hp0
        cases hq : qs.toList with
        | cons q l => rw [hq] at hps; exact hps.elim
        | nil =>
          have hv0 : vs' = [] := List.eq_nil_of_length_eq_zero (by rw [hvl]; omega)
          subst hv0
          simp only [if_pos h0, Result.andThen_ok]
          simp only [h0, Array.range_zero', Instr.fill, List.map_toArray, Array.map_empty]
          rfl
      · simp only [if_neg h0, Result.andThen_ok]
        have e1' : Instr.fill (fun i => some (i * (tinfo P e).cells, (tinfo P e).cells)) ((Array.range (len * (tinfo P e).cells)).map (z.cells[· % z.cells.size]!)) qs.toList = some vs'.toArray := by
          have : zs.toList.toArray = zs := by simp
          rw [this] at e1
          exact e1
        rw [e1']
        rfl
    · have := alloc_own hh (ps.map fun p => acells p.2) (tinfo P e).cells len (w.alloc (.cells vs'.toArray e)) (.cells (tinfo P e).cells (ps.map fun p => acells p.2)) (by omega)
      rw [hes] at this
      exact this
  · exact hok.elim
end
end Go.Abs
end

section 

namespace Go.Abs
open Go

section
variable {P : Program} {gl : Globs} {J : List Blk} {h : AHeap} {w : World} {O : Nat → Prop} {fr : AFrame} {N : Nat}

/-- A slice (or a string) that is looked at whole. -/
def slOk (h : AHeap) : AV → Prop
  | .nil | .e0 | .ro _ | .str _ => True
  | .own b off len => off + len ≤ (hcells h b).length
  | _ => False

theorem rowsV {a : Addr} {es : List (List AV)} {size : Nat} (hsz : 0 < size) (hl : ∀ y ∈ es, y.length = size)
    (hc : ∀ (i : Nat) (e : List AV) (c : Nat) (y : AV), es[i]? = some e → e[c]? = some y → ∃ v, w.cell? (a.add (i * size + c)) = some v ∧ v.oneCell' = true ∧ VRel J O w y v) :
    ∃ us : List Value, (loadCells a (es.length * size)).run P w = .ok us.toArray w ∧ us.length = es.length * size ∧ (∀ v ∈ us, v.oneCell' = true) ∧
      ∀ (i : Nat) (e : List AV) (c : Nat) (y : AV), es[i]? = some e → e[c]? = some y → ∃ v, us[i * size + c]? = some v ∧ VRel J O w y v := by
  let f : Nat → Value := fun j => (w.cell? (a.add j)).getD undef
  have hf : ∀ j, j < es.length * size → ∃ v, w.cell? (a.add j) = some v ∧ v.oneCell' = true := by
    intro j hj
    have h1 : j / size < es.length := (Nat.div_lt_iff_lt_mul hsz).2 hj
    have h2 : j % size < size := Nat.mod_lt _ hsz
    have hi : es[j / size]? = some es[j / size] := List.getElem?_eq_getElem h1
    have hlen := hl _ (List.getElem_mem h1)
    have hy : es[j / size][j % size]? = some (es[j / size][j % size]'(by omega)) := List.getElem?_eq_getElem (by omega)
    obtain ⟨v, p1, p2, p3⟩ := hc _ _ _ _ hi hy
    refine ⟨v, ?_, p2⟩
    rw [← p1, Nat.mul_comm (j / size) size, Nat.div_add_mod]
  refine ⟨(List.range (es.length * size)).map f, ?_, by simp, ?_, ?_⟩
  · rw [run_loadCells w a _ f (fun j hj => by obtain ⟨v, p1, _⟩ := hf j hj; simp [f, p1])]
  · intro v hv
    obtain ⟨j, hj, rfl⟩ := List.mem_map.1 hv
    obtain ⟨v, p1, p2⟩ := hf j (List.mem_range.1 hj)
    simp [f, p1, p2]
  · intro i e c y hi hy
    obtain ⟨v, p1, p2, p3⟩ := hc i e c y hi hy
    have hil : i < es.length := (List.getElem?_eq_some_iff.1 hi).1
    have hcl : c < size := by
      rw [← hl e (List.mem_of_getElem? hi)]
      exact (List.getElem?_eq_some_iff.1 hy).1
    have hlt : i * size + c < es.length * size := by
      have : (i + 1) * size ≤ es.length * size := Nat.mul_le_mul_right size hil
      rw [Nat.add_mul, Nat.one_mul] at this
      omega
    refine ⟨v, ?_, p3⟩
    simp [f, hlt, p1]

theorem elems_sound (hh : HRel gl h J w) {x : AV} {u : Value} {size : Nat} (hsz : 0 < size) (hx : VRel J (Own h J) w x u) (hk : slOk h x) (hl : ∀ y ∈ aelems h x, y.length = size) :
    ∃ us : List Value, (Builtin.lenOf u).run P w = .ok (aelems h x).length w ∧ (Builtin.firstCells size (aelems h x).length u).run P w = .ok us.toArray w ∧ us.length = (aelems h x).length * size ∧ (∀ v ∈ us, v.oneCell' = true) ∧
      ∀ (i : Nat) (e : List AV) (c : Nat) (y : AV), (aelems h x)[i]? = some e → e[c]? = some y → ∃ v, us[i * size + c]? = some v ∧ VRel J (Own h J) w y v := by
  unfold slOk at hk
  split at hk
  · cases hx
    exact ⟨[], rfl, rfl, by simp [aelems], by simp, by simp [aelems]⟩
  · cases hx with
    | e0 a =>
      refine ⟨[], rfl, ?_, by simp [aelems], by simp, by simp [aelems]⟩
      cases a with
      | none => rfl
      | some a => simp [Builtin.firstCells, aelems, loadCells, loadCellsFrom]
  · rename_i es
    simp only [aelems] at hl ⊢
    cases hx with
    | roNil => exact ⟨[], rfl, rfl, by simp, by simp, by simp⟩
    | ro _ a n cap f hcap hn hO hl0 hc h1 hr =>
      by_cases hes : es = []
      · subst hes
        refine ⟨[], rfl, ?_, by simp, by simp, by simp⟩
        simp [Builtin.firstCells, loadCells, loadCellsFrom]
      · have hns : n = size := by
          obtain ⟨y, ys, rfl⟩ := List.exists_cons_of_ne_nil hes
          rw [← hl y (by simp), hl0 0 y rfl]
        subst hns
        obtain ⟨us, p1, p2, p3, p4⟩ := rowsV (P := P) (J := J) (O := Own h J) (w := w) (a := a) hn hl (fun i e c y hi hy => ⟨f i c, hc i e c y hi hy, h1 i e c y hi hy, hr i e c y hi hy⟩)
        exact ⟨us, rfl, by simp only [Builtin.firstCells]; exact p1, p2, p3, p4⟩
  · rename_i s
    simp only [aelems] at hl ⊢
    cases hx
    have hs1 : size = 1 ∨ s = [] := by
      cases s with
      | nil => exact .inr rfl
      | cons c s => left; have := hl [.int .u8 (c.toNat : Int)] (by simp); simpa using this.symm
    refine ⟨s.map fun c => Value.int .u8 (c.toNat : Int), ?_, ?_, ?_, ?_, ?_⟩
    · simp [Builtin.lenOf, ByteArray.size]
    · simp only [Builtin.firstCells, Sem.run_pure, List.length_map]
      congr 1
      have : (⟨s.toArray⟩ : ByteArray).extract 0 s.length = ⟨s.toArray⟩ := by
        apply ByteArray.ext
        simp [ByteArray.data_extract]
      rw [this]
      simp
    · rcases hs1 with rfl | rfl <;> simp
    · intro v hv
      obtain ⟨c, _, rfl⟩ := List.mem_map.1 hv
      rfl
    · intro i e c y hi hy
      simp only [List.getElem?_map, Option.map_eq_some_iff] at hi
      obtain ⟨b, hb, rfl⟩ := hi
      cases c with
      | succ c => simp at hy
      | zero =>
        simp at hy
        subst hy
        rcases hs1 with rfl | rfl
        · exact ⟨_, by simp [hb], .int _ _⟩
        · simp at hb
  · rename_i b off len
    simp only [aelems] at hl ⊢
    have hlen : (((hcells h b).drop off).take len).length = len := by simp; omega
    cases hx with
    | own _ _ _ k a cap hb ha hle hcap =>
      by_cases hl0 : len = 0
      · subst hl0
        refine ⟨[], by simp [Builtin.lenOf], ?_, by simp, by simp, by simp⟩
        simp [Builtin.firstCells, loadCells, loadCellsFrom]
      · have ha' := ha (by omega)
        have h0 : 0 < (hcells h b).length := by omega
        obtain ⟨n0, es, he, hes⟩ : ∃ n0 es, h[b]? = some (.cells n0 es) ∧ hcells h b = es := by
          unfold hcells at h0 ⊢
          split at h0
          · rename_i n0 es he; exact ⟨n0, es, he, by simp [he]⟩
          · simp at h0
        rw [hes] at hl hlen h0 hk ⊢
        obtain ⟨_, hn, hcap', hlens, vs, T, hheap, hvsz, hcell⟩ := hh.obj b k _ hb he
        have sub : ∀ (i : Nat) (e : List AV), ((es.drop off).take len)[i]? = some e → es[off + i]? = some e := by
          intro i e hi
          rw [List.getElem?_take] at hi
          split at hi
          · rwa [List.getElem?_drop] at hi
          · cases hi
        have hns : k.n = size := by
          have hg : ((es.drop off).take len)[0]? = some (es[off]'(by omega)) := by
            rw [List.getElem?_take_of_lt (by omega), List.getElem?_drop, Nat.add_zero]
            exact List.getElem?_eq_getElem (by omega)
          rw [← hl _ (List.mem_of_getElem? hg), hlens off _ (sub 0 _ hg)]
        obtain ⟨us, p1, p2, p3, p4⟩ := rowsV (P := P) (J := J) (O := Own h J) (w := w) (a := a) (es := (es.drop off).take len) hsz hl (fun i e c y hi hy => by
          obtain ⟨v, q1, q2, q3⟩ := hcell (off + i) e c y (sub i e hi) hy
          refine ⟨v, ?_, q2, q3⟩
          rw [ha', add_mk, cell_of_heap hheap, ← q1, hns, Nat.add_mul]
          congr 1
          omega)
        refine ⟨us, by simp [Builtin.lenOf, hlen], ?_, p2, p3, p4⟩
        simp only [Builtin.firstCells]
        exact p1
  · exact hk.elim

/-- What is asked of 'append'. -/
def appendOk (P : Program) (h : AHeap) (ts : List TypeId) (s x : AV) : Prop := match ts with
  | [t, u] => (match (tinfo P u).kind with | .int _ => False | _ => True) ∧ (tinfo P u).ok = true ∧ match (tinfo P t).kind with
    | .slice e => zeroOk (tinfo P e) ∧ 0 < (tinfo P e).cells ∧ (match s with | .own b _ _ => hsz h b = (tinfo P e).cells | _ => True) ∧ slOk h s ∧ slOk h x ∧ (∀ y ∈ aelems h s, y.length = (tinfo P e).cells) ∧ (∀ y ∈ aelems h x, y.length = (tinfo P e).cells) ∧
      ((aelems h s).length + (aelems h x).length) * (tinfo P e).bytes ≤ 140737488355328 ∧ (aelems h s).length + (aelems h x).length ≤ 140737488355328
    | _ => False
  | _ => False
/-- What 'append' leaves. -/
def appendK (n : Nat) (h : AHeap) (s x : AV) (k : AV → AHeap → Prop) : Prop := match s with
  | .nil => (aelems h x = [] → k .nil h) ∧ (aelems h x ≠ [] → k (.own h.length 0 (aelems h x).length) (h ++ [.cells n (aelems h x)]))
  | .e0 => (aelems h x = [] → k .e0 h) ∧ (aelems h x ≠ [] → k (.own h.length 0 (aelems h x).length) (h ++ [.cells n (aelems h x)]))
  | .own b _ _ => k (.own h.length 0 ((aelems h s).length + (aelems h x).length)) (h.set b .dead ++ [.cells n (aelems h s ++ aelems h x)])
  | _ => False

theorem append_rel {es ys : List (List AV)} {us vs zs : List Value} {n : Nat} (hu : us.length = es.length * n) (h1 : ∀ v ∈ us, v.oneCell' = true) (h2 : ∀ v ∈ vs, v.oneCell' = true) (hes : ∀ y ∈ es, y.length = n)
    (he : ∀ (i : Nat) (e : List AV) (c : Nat) (y : AV), es[i]? = some e → e[c]? = some y → ∃ v, us[i * n + c]? = some v ∧ VRel J O w y v)
    (hy : ∀ (i : Nat) (e : List AV) (c : Nat) (y : AV), ys[i]? = some e → e[c]? = some y → ∃ v, vs[i * n + c]? = some v ∧ VRel J O w y v) :
    ∀ (i : Nat) (e : List AV) (c : Nat) (y : AV), (es ++ ys)[i]? = some e → e[c]? = some y → ∃ v, (us ++ (vs ++ zs))[i * n + c]? = some v ∧ v.oneCell' = true ∧ VRel J O w y v := by
  intro i e c y hi hx
  rcases Nat.lt_or_ge i es.length with h | h
  · rw [List.getElem?_append_left h] at hi
    obtain ⟨v, p1, p2⟩ := he i e c y hi hx
    exact ⟨v, by rw [List.getElem?_append_left (List.getElem?_eq_some_iff.1 p1).1]; exact p1, h1 _ (List.mem_of_getElem? p1), p2⟩
  · rw [List.getElem?_append_right h] at hi
    obtain ⟨v, p1, p2⟩ := hy _ e c y hi hx
    refine ⟨v, ?_, h2 _ (List.mem_of_getElem? p1), p2⟩
    have e1 : i * n + c = us.length + ((i - es.length) * n + c) := by
      rw [hu]
      have : i * n = es.length * n + (i - es.length) * n := by rw [← Nat.add_mul]; congr 1; omega
      omega
    rw [e1, List.getElem?_append_right (by omega), Nat.add_sub_cancel_left, List.getElem?_append_left (List.getElem?_eq_some_iff.1 p1).1]
    exact p1

/-- 'append' where it must grow. -/
theorem grow_steps (hh : HRel gl h J w) {e : TypeId} (hz : zeroOk (tinfo P e)) (hpos : 0 < (tinfo P e).cells) {s x : AV} {us ux : Value} {h1 : AHeap} (hh1 : HRel gl h1 J w.drew) (ev1 : Evo h J w h1 J w.drew)
    (hs : VRel J (Own h J) w s us) (hx : VRel J (Own h J) w x ux) (hks : slOk h s) (hkx : slOk h x) (hls : ∀ y ∈ aelems h s, y.length = (tinfo P e).cells) (hlx : ∀ y ∈ aelems h x, y.length = (tinfo P e).cells)
    (cap : Nat) (hcap : (aelems h s).length + (aelems h x).length ≤ cap) :
    ∃ (olds news : Array Value) (z : Value), (Builtin.firstCells (tinfo P e).cells (aelems h s).length us).run P w.drew = .ok olds w.drew ∧ (Builtin.firstCells (tinfo P e).cells (aelems h x).length ux).run P w.drew = .ok news w.drew ∧ (zeroValue e).run P w.drew = .ok z w.drew ∧
      HRel gl (h1 ++ [.cells (tinfo P e).cells (aelems h s ++ aelems h x)]) (J ++ [⟨w.heap.size, 0, (tinfo P e).cells, cap⟩]) (w.drew.alloc (.cells (olds ++ news ++ Builtin.zeroCells z.cells (cap - ((aelems h s).length + (aelems h x).length))) e)) ∧
      Evo h J w (h1 ++ [.cells (tinfo P e).cells (aelems h s ++ aelems h x)]) (J ++ [⟨w.heap.size, 0, (tinfo P e).cells, cap⟩]) (w.drew.alloc (.cells (olds ++ news ++ Builtin.zeroCells z.cells (cap - ((aelems h s).length + (aelems h x).length))) e)) := by
  obtain ⟨hd, evd⟩ := hh.drew
  obtain ⟨os, _, o2, o3, o4, o5⟩ := elems_sound (P := P) hd hpos (hs.evo evd) hks hls
  obtain ⟨ns, _, n2, n3, n4, n5⟩ := elems_sound (P := P) hd hpos (hx.evo evd) hkx hlx
  obtain ⟨heok, hezok, hzl⟩ := hz
  obtain ⟨z, hz1, hz2, hz3, hz4⟩ := run_zeroValue' heok hezok w.drew
  have hcz : z.cells.size = (tinfo P e).cells := by
    have e1 : z.cells.size = (tinfo P e).zero.length := by rw [hz3]; simp
    rw [e1, hzl]
  have hlen : ((aelems h s ++ aelems h x)).length = (aelems h s).length + (aelems h x).length := by simp
  have hlenA : ∀ (i : Nat) (ee : List AV), (aelems h s ++ aelems h x)[i]? = some ee → ee.length = (tinfo P e).cells := by
    intro i ee hi
    rcases List.mem_append.1 (List.mem_of_getElem? hi) with h | h
    · exact hls _ h
    · exact hlx _ h
  have hcells : os.toArray ++ ns.toArray ++ Builtin.zeroCells z.cells (cap - ((aelems h s).length + (aelems h x).length)) = (os ++ (ns ++ (Builtin.zeroCells z.cells (cap - ((aelems h s).length + (aelems h x).length))).toList)).toArray := by
    apply Array.ext'
    simp
  have hsize : cap * (tinfo P e).cells ≤ (os.toArray ++ ns.toArray ++ Builtin.zeroCells z.cells (cap - ((aelems h s).length + (aelems h x).length))).size := by
    simp only [Array.size_append, List.size_toArray, size_zeroCells, hcz, o3, n3]
    rw [← Nat.add_mul, ← Nat.add_mul]
    exact Nat.mul_le_mul_right _ (by omega)
  have hvm : ∀ y v, VRel J (Own h J) w.drew y v → VRel J (Own h1 J) w.drew y v := by
    intro y v hv
    exact VRel.mono (J := J) (J' := J) (O := Own h J) (O' := Own h1 J) (w := w.drew) (w' := w.drew) ⟨[], by simp⟩ (Nat.le_refl _) (fun r hr hn => ⟨rfl, (ev1.keep r hr hn).2⟩) hv
  obtain ⟨r1, r2⟩ := alloc_cells hh1 e (os.toArray ++ ns.toArray ++ Builtin.zeroCells z.cells (cap - ((aelems h s).length + (aelems h x).length))) (aelems h s ++ aelems h x) (tinfo P e).cells cap hpos (by omega) hsize hlenA (by
    intro i ee c y hi hy
    obtain ⟨v, p1, p2, p3⟩ := append_rel (zs := (Builtin.zeroCells z.cells (cap - ((aelems h s).length + (aelems h x).length))).toList) o3 o4 n4 hls o5 n5 i ee c y hi hy
    exact ⟨v, by rw [hcells, List.getElem?_toArray]; exact p1, p2, hvm _ _ p3⟩)
  exact ⟨os.toArray, ns.toArray, z, o2, n2, hz1, r1, ev1.trans r2⟩
end
end Go.Abs
end

section 

namespace Go.Abs
open Go

section
variable {P : Program} {gl : Globs} {J : List Blk} {h : AHeap} {w : World} {O : Nat → Prop} {fr : AFrame} {N : Nat}

theorem run_append_in {t u e : TypeId} {d : TypeDesc} {ty : TypeId} (ht : P.underlying t = some (.slice e)) (hu : P.underlying u = some d) (hd : ∀ k, d ≠ .int k) {size : Nat} (hsz : (sizeOf e).run P w = .ok size w)
    {base : Option Addr} {sLen sCap n : Nat} {xv : Value} {news : Array Value} {w' : World} (hn : (Builtin.lenOf xv).run P w = .ok n w) (hf : (Builtin.firstCells size n xv).run P w = .ok news w) (hroom : sLen + n ≤ sCap)
    (hst : (match base with | some a => storeCells (a.add (sLen * size)) news.toList | none => (pure () : Sem Unit)).run P w = .ok () w') :
    (Builtin.append_ #[t, u] ty #[.slice base sLen sCap, xv]).run P w = .ok (.slice base (sLen + n) sCap) w' := by
  have hint : (match d with | .int _ => true | _ => false) = false := by cases d <;> first | rfl | exact absurd rfl (hd _)
  cases base with
  | none =>
    simp only [Sem.run_pure] at hst
    injection hst with _ hst
    subst hst
    simp [Builtin.append_, run_underlying ht, run_underlying hu, hsz, hn, hf, hroom, hint]
  | some a => simp [Builtin.append_, run_underlying ht, run_underlying hu, hsz, hn, hf, hroom, hint, hst]

theorem run_append_out {t u e : TypeId} {d : TypeDesc} {ty : TypeId} (ht : P.underlying t = some (.slice e)) (hu : P.underlying u = some d) (hd : ∀ k, d ≠ .int k) (he : (tinfo P e).ok = true)
    {base : Option Addr} {sLen sCap n : Nat} {xv : Value} {olds news : Array Value} {z : Value} (hn : (Builtin.lenOf xv).run P w = .ok n w) (hg : sCap < sLen + n) (hfit : (sLen + n) * (tinfo P e).bytes ≤ 140737488355328) (h63 : sLen + n ≤ 140737488355328)
    (ho : (Builtin.firstCells (tinfo P e).cells sLen (.slice base sLen sCap)).run P w.drew = .ok olds w.drew) (hf : (Builtin.firstCells (tinfo P e).cells n xv).run P w.drew = .ok news w.drew) (hz : (zeroValue e).run P w.drew = .ok z w.drew) :
    (Builtin.append_ #[t, u] ty #[.slice base sLen sCap, xv]).run P w = .ok (.slice (some ⟨w.heap.size, 0, none⟩) (sLen + n) (grownCap w (sLen + n) sCap e))
      (w.drew.alloc (.cells (olds ++ news ++ Builtin.zeroCells z.cells (grownCap w (sLen + n) sCap e - (sLen + n))) e)) := by
  have hint : (match d with | .int _ => true | _ => false) = false := by cases d <;> first | rfl | exact absurd rfl (hd _)
  obtain ⟨de, i, hde, hi, eqe⟩ := tinfo_ok he
  have hb : (tinfo P e).bytes = i.bytes := by rw [eqe]
  have hc : (tinfo P e).cells = i.size := by rw [eqe]
  rw [hb] at hfit
  rw [hc] at ho hf
  have hroom : ¬ (sLen + n ≤ sCap) := by omega
  have h63' : ¬ (9223372036854775807 < ((sLen : Int) + (n : Int))) := by omega
  have h48' : ¬ (281474976710656 < Builtin.nextslicecap (sLen + n) sCap * i.bytes) := by
    have := growslice_fits hg hfit
    omega
  simp [Builtin.append_, run_underlying ht, run_underlying hu, sizeOf, typeInfo, hi, hn, hroom, hint, h63', h48', Question.forced, ho, hf, hz, newRow, grownCap]

theorem append_steps (hh : HRel gl h J w) {ts : List TypeId} {ty : TypeId} {s x : AV} {us ux : Value} (hs : VRel J (Own h J) w s us) (hx : VRel J (Own h J) w x ux) (hok : appendOk P h ts s x) {R : AV → AHeap → Prop} (hR : appendK (elemCells P (ts.headD 0)) h s x R) :
    Steps1 P gl h J w (Builtin.append_ ts.toArray ty #[us, ux]) R := by
  unfold appendOk at hok
  split at hok
  · rename_i t u
    obtain ⟨hui, huok, hok⟩ := hok
    split at hok
    · rename_i e hk
      have hec : elemCells P ([t, u].headD 0) = (tinfo P e).cells := by simp [elemCells, hk]
      rw [hec] at hR
      obtain ⟨hz, hpos, hsk, hks, hkx, hls, hlx, hbytes, h63⟩ := hok
      obtain ⟨ht, _⟩ := kind_slice hk
      obtain ⟨d, iu, hu, _, equ⟩ := tinfo_ok huok
      have hd : ∀ k, d ≠ .int k := by
        rintro k rfl
        rw [equ] at hui
        exact hui
      have heok := hz.1
      obtain ⟨ns, n1, n2, n3, n4, n5⟩ := elems_sound (P := P) hh hpos hx hkx hlx
      obtain ⟨os, o1, o2, o3, o4, o5⟩ := elems_sound (P := P) hh hpos hs hks hls
      have hsz := run_sizeOf' heok w
      unfold appendK at hR
      -- a slice that holds nothing and has no room
      have empty : ∀ (base : Option Addr) (z : AV), us = .slice base 0 0 → aelems h s = [] → VRel J (Own h J) w z (.slice base 0 0) → (aelems h x = [] → R z h) → (aelems h x ≠ [] → R (.own h.length 0 (aelems h x).length) (h ++ [.cells (tinfo P e).cells (aelems h x)])) →
          Steps1 P gl h J w (Builtin.append_ [t, u].toArray ty #[us, ux]) R := by
        rintro base z rfl hes hz' hR1 hR2
        by_cases hxe : aelems h x = []
        · refine ⟨.slice base 0 0, w, J, z, h, ?_, hh, hz', Evo.refl _ _ _, hR1 hxe⟩
          rw [hxe] at n1 n2 n3
          have hns : ns = [] := List.eq_nil_of_length_eq_zero (by simpa using n3)
          subst hns
          have := run_append_in (P := P) (w := w) (w' := w) (ty := ty) ht hu hd hsz (base := base) (sLen := 0) (sCap := 0) n1 n2 (by simp) (by cases base <;> rfl)
          exact this
        · have hlen : 0 < (aelems h x).length := List.length_pos_iff.2 hxe
          obtain ⟨olds, news, zz, p1, p2, p3, p4, p5⟩ := grow_steps (P := P) hh hz hpos hh.drew.1 hh.drew.2 hs hx hks hkx hls hlx (grownCap w (0 + (aelems h x).length) 0 e) (by rw [hes]; exact grownCap_ge _ _ _ _)
          rw [hes] at p1 p4 p5
          have hrun := run_append_out (P := P) (w := w) (ty := ty) ht hu hd heok (base := base) (sLen := 0) (sCap := 0) n1 (by omega) (by rw [hes] at hbytes; exact hbytes) (by rw [hes] at h63; exact h63) p1 p2 p3
          refine ⟨_, _, _, _, _, hrun, p4, ?_, p5, hR2 hxe⟩
          have := alloc_own hh (aelems h x) (tinfo P e).cells (grownCap w (0 + (aelems h x).length) 0 e) (w.drew.alloc (.cells (olds ++ news ++ Builtin.zeroCells zz.cells (grownCap w (0 + (aelems h x).length) 0 e - (0 + (aelems h x).length))) e)) (.cells (tinfo P e).cells (aelems h x)) (by have := grownCap_ge w (0 + (aelems h x).length) 0 e; omega)
          simpa using this
      cases s with
      | nil =>
        cases hs
        exact empty none .nil rfl rfl .nil hR.1 hR.2
      | e0 =>
        cases hs with
        | e0 a => exact empty a .e0 rfl rfl (.e0 a) hR.1 hR.2
      | own b off len =>
        simp only at hsk
        simp only [slOk] at hks
        have hslen : (aelems h (.own b off len)).length = len := by simp [aelems]; omega
        cases hs with
        | own _ _ _ k a cap hb ha hle hcap =>
          obtain ⟨es, he, hkn', hes⟩ := hsz_n hh hb (by omega)
          have hkn : k.n = (tinfo P e).cells := by rw [← hkn', hsk]
          obtain ⟨_, hn, hcap', hlens, vs, T, hheap, hvsz, hcell⟩ := hh.obj b k _ hb he
          by_cases hroom : len + (aelems h x).length ≤ cap
          · -- within the capacity
            have hoffk : off ≤ k.cap := by omega
            have ha' : 0 < cap → a = ⟨k.r, k.base + off * k.n, none⟩ := ha
            have hst : ∃ (w' : World) (new : Array Value), (storeCells (a.add (len * (tinfo P e).cells)) ns).run P w = .ok () w' ∧ w'.heap[k.r]? = some (.cells new T (0, 0)) ∧ new.size = vs.size ∧
                (∀ j, new[j]? = if k.base + (off + len) * k.n ≤ j ∧ j < k.base + (off + len) * k.n + ns.length then ns[j - (k.base + (off + len) * k.n)]? else vs[j]?) ∧ (∀ b, b ≠ k.r → w'.heap[b]? = w.heap[b]?) ∧ w'.heap.size = w.heap.size ∧ w'.os = w.os ∧ w'.tape = w.tape ∧ w'.output = w.output := by
              by_cases hns0 : ns = []
              · subst hns0
                exact ⟨w, vs, rfl, hheap, rfl, fun j => by rw [if_neg (by simp only [List.length_nil]; omega)], fun _ _ => rfl, rfl, rfl, rfl, rfl⟩
              · have hxpos : 0 < (aelems h x).length := by
                  rcases Nat.eq_zero_or_pos (aelems h x).length with h0 | h0
                  · rw [h0, Nat.zero_mul] at n3
                    exact absurd (List.eq_nil_of_length_eq_zero n3) hns0
                  · exact h0
                have hfit : (off + len) * k.n + ns.length ≤ k.cap * k.n := by
                  rw [n3, ← hkn, ← Nat.add_mul]
                  exact Nat.mul_le_mul_right _ (by omega)
                obtain ⟨w', new, e1, e2, e3, e4, e5⟩ := run_storeCells' (P := P) k.r (k.base + (off + len) * k.n) T ns 0 vs w hheap (by omega) n4
                refine ⟨w', new, ?_, e2, e3, by simpa using e4, e5⟩
                rw [ha' (by omega), add_mk, ← hkn, show k.base + off * k.n + len * k.n = k.base + (off + len) * k.n by rw [Nat.add_mul]; omega]
                exact e1
            obtain ⟨w', new, e1, e2, e3, e4, e5, e6, e7, e8, e9⟩ := hst
            have hesl : off + len ≤ es.length := by rw [← hes]; exact hks
            have htk : (es.take (off + len)).length = off + len := by simp; omega
            -- the old block, cut and lengthened
            obtain ⟨r1, ev1⟩ := hh.set (o' := .cells k.n es) (k := k) (w' := w') (.cells k.n (es.take (off + len) ++ aelems h x)) hb he (by simp) e6 e5 e7 e8 e9 (by
              intro O' hm
              refine ⟨rfl, hn, by simp; omega, ?_, new, T, e2, by omega, ?_⟩
              · intro i ee hi
                rcases Nat.lt_or_ge i (off + len) with hlt | hge
                · rw [List.getElem?_append_left (by omega), List.getElem?_take_of_lt hlt] at hi
                  exact hlens i ee hi
                · rw [List.getElem?_append_right (by omega)] at hi
                  rw [hkn]
                  exact hlx _ (List.mem_of_getElem? hi)
              · intro i ee c y hi hy
                rcases Nat.lt_or_ge i (off + len) with hlt | hge
                · rw [List.getElem?_append_left (by omega), List.getElem?_take_of_lt hlt] at hi
                  obtain ⟨v, p1, p2, p3⟩ := hcell i ee c y hi hy
                  refine ⟨v, ?_, p2, hm _ _ p3⟩
                  have hcl : c < k.n := by
                    rw [← hlens i ee hi]
                    exact (List.getElem?_eq_some_iff.1 hy).1
                  have : (i + 1) * k.n ≤ (off + len) * k.n := Nat.mul_le_mul_right _ hlt
                  rw [Nat.add_mul, Nat.one_mul] at this
                  rw [e4, if_neg (by omega)]
                  exact p1
                · rw [List.getElem?_append_right (by omega), htk] at hi
                  obtain ⟨v, p1, p2⟩ := n5 _ ee c y hi hy
                  refine ⟨v, ?_, n4 _ (List.mem_of_getElem? p1), hm _ _ p2⟩
                  have hlt := (List.getElem?_eq_some_iff.1 p1).1
                  have e0 : i * k.n = (off + len) * k.n + (i - (off + len)) * k.n := by rw [← Nat.add_mul]; congr 1; omega
                  rw [← hkn] at p1 hlt
                  rw [e4, if_pos (by omega), ← p1]
                  congr 1
                  omega)
            have hblt : b < h.length := (List.getElem?_eq_some_iff.1 he).1
            -- it goes on under a new name
            obtain ⟨r2, ev2⟩ := r1.move (b := b) (k := k) (o' := .cells k.n (es.take (off + len) ++ aelems h x)) ⟨k.r, k.base + off * k.n, k.n, k.cap - off⟩ (.cells k.n (aelems h (.own b off len) ++ aelems h x)) hb (List.getElem?_set_self hblt) (by simp) rfl (by
              intro J' O' hm
              obtain ⟨_, _, q2, q3, vs', T', q4, q5, q6⟩ := r1.obj b k _ hb (List.getElem?_set_self hblt)
              have hdrop : aelems h (.own b off len) ++ aelems h x = (es.take (off + len) ++ aelems h x).drop off := by
                rw [List.drop_append_of_le_length (by omega)]
                congr 1
                simp only [aelems, hes]
                rw [List.drop_take, Nat.add_sub_cancel_left]
              rw [hdrop]
              refine ⟨rfl, hn, by simp; omega, ?_, vs', T', q4, ?_, ?_⟩
              · intro i ee hi
                rw [List.getElem?_drop] at hi
                exact q3 _ ee hi
              · have : k.base + off * k.n + (k.cap - off) * k.n = k.base + k.cap * k.n := by
                  rw [Nat.add_assoc, ← Nat.add_mul]; congr 2; omega
                simp only
                omega
              · intro i ee c y hi hy
                rw [List.getElem?_drop] at hi
                obtain ⟨v, p1, p2, p3⟩ := q6 _ ee c y hi hy
                refine ⟨v, ?_, p2, hm _ _ p3⟩
                simp only
                rw [← p1, Nat.add_mul]
                congr 1
                omega)
            rw [List.set_set] at r2 ev2
            have hrun := run_append_in (P := P) (w := w) (w' := w') (ty := ty) ht hu hd hsz (base := some a) (sLen := len) (sCap := cap) n1 n2 hroom e1
            rw [hkn] at r2 ev1 ev2
            refine ⟨_, w', _, _, _, hrun, r2, ?_, ev1.trans ev2, hR⟩
            rw [hslen]
            have hlast : (J ++ [(⟨k.r, k.base + off * (tinfo P e).cells, (tinfo P e).cells, k.cap - off⟩ : Blk)])[h.length]? = some ⟨k.r, k.base + off * (tinfo P e).cells, (tinfo P e).cells, k.cap - off⟩ := alloc_last hh _
            refine .own _ 0 (len + (aelems h x).length) _ a cap hlast (fun hc0 => ?_) hroom (by simp only; omega)
            rw [ha' hc0, hkn]
            simp
          · obtain ⟨hkl, evk⟩ := hh.kill (b := b)
            obtain ⟨hkd, evd⟩ := hkl.drew
            obtain ⟨olds, news, zz, p1, p2, p3, p4, p5⟩ := grow_steps (P := P) hh hz hpos hkd (evk.trans evd) (.own b off len k a cap hb ha hle hcap) hx hks hkx hls hlx (grownCap w (len + (aelems h x).length) cap e) (by rw [hslen]; exact grownCap_ge _ _ _ _)
            rw [hslen] at p1 p4 p5
            have hrun := run_append_out (P := P) (w := w) (ty := ty) ht hu hd heok (base := some a) (sLen := len) (sCap := cap) n1 (by omega) (by rw [hslen] at hbytes; exact hbytes) (by rw [hslen] at h63; exact h63) p1 p2 p3
            refine ⟨_, _, _, _, _, hrun, p4, ?_, p5, hR⟩
            have hll : (aelems h (.own b off len) ++ aelems h x).length = len + (aelems h x).length := by simp [hslen]
            have := alloc_own hkd (aelems h (.own b off len) ++ aelems h x) (tinfo P e).cells (grownCap w (len + (aelems h x).length) cap e) (w.drew.alloc (.cells (olds ++ news ++ Builtin.zeroCells zz.cells (grownCap w (len + (aelems h x).length) cap e - (len + (aelems h x).length))) e)) (.cells (tinfo P e).cells (aelems h (.own b off len) ++ aelems h x)) (by rw [hll]; exact grownCap_ge _ _ _ _)
            rw [hslen]
            rw [hll] at this
            simpa using this
      | _ => exact hR.elim
    · exact hok.elim
  · exact hok.elim
end
end Go.Abs
end

section 

namespace Go.Abs
open Go

section
variable {P : Program} {gl : Globs} {J : List Blk} {h : AHeap} {w : World} {O : Nat → Prop} {fr : AFrame} {N : Nat}

def makeSliceOk (P : Program) (t : TypeId) (l c : AV) : Prop := match (tinfo P t).kind with
  | .slice e => zeroOk (tinfo P e) ∧ 0 < (tinfo P e).cells ∧ isInt l ∧ isInt c ∧ 0 ≤ aint l ∧ aint l ≤ aint c ∧ ((tinfo P e).bytes : Int) * aint c ≤ 281474976710656 ∧ aint c ≤ 9223372036854775807
  | _ => False
def elemZero (P : Program) (t : TypeId) : List AV := match (tinfo P t).kind with
  | .slice e => (tinfo P e).zero
  | _ => []

theorem makeSlice_steps (hh : HRel gl h J w) {t : TypeId} {l c : AV} {vl vc : Value} (hl : VRel J (Own h J) w l vl) (hc : VRel J (Own h J) w c vc) (hok : makeSliceOk P t l c) {R : AV → AHeap → Prop}
    (hR : R (.own h.length 0 (aint l).toNat) (h ++ [.cells (elemCells P t) (List.replicate (aint l).toNat (elemZero P t))])) : Steps1 P gl h J w (Instr.makeSlice t vl vc) R := by
  unfold makeSliceOk at hok
  split at hok
  · rename_i e hk
    obtain ⟨hz, hpos, il, ic, h1, h2, h3, h4⟩ := hok
    have hec : elemCells P t = (tinfo P e).cells := by simp [elemCells, hk]
    have hez : elemZero P t = (tinfo P e).zero := by simp [elemZero, hk]
    rw [hec, hez] at hR
    obtain ⟨hu, _⟩ := kind_slice hk
    obtain ⟨heok, hezok, hzl⟩ := hz
    obtain ⟨kl, rfl⟩ := int_of hl il
    obtain ⟨kc, rfl⟩ := int_of hc ic
    generalize aint l = L at *
    generalize aint c = C at *
    obtain ⟨z, hz1, hz2, hz3, hz4⟩ := run_zeroValue' heok hezok w
    obtain ⟨de, i, hde, hi, eqe⟩ := tinfo_ok heok
    have hb : (tinfo P e).bytes = i.bytes := by rw [eqe]
    have hcs : (tinfo P e).cells = i.size := by rw [eqe]
    have hzz : i.zero = some z := by
      simp only [zeroValue, typeInfo, Sem.run_bind, run_program, Result.andThen_ok, hi, Sem.run_pure] at hz1
      cases hq : i.zero with
      | none => simp [hq] at hz1
      | some zz => simp [hq] at hz1; rw [hz1]
    have hrun := run_make (P := P) w t e i z hu hi hzz kl kc L C h1 h2 (by rw [← hb]; exact h3) h4
    have hzr := vrels_ofV1 (J := J) (O := Own h J) (w := w) hz2
    rw [← hz3] at hzr
    have hzlen : z.cells.size = (tinfo P e).cells := by
      have := hzr.1
      simp only [Array.length_toList] at this
      omega
    have hlen : (List.replicate L.toNat (tinfo P e).zero).length = L.toNat := by simp
    obtain ⟨r1, r2⟩ := alloc_cells hh e (madeCells z.cells (C.toNat * i.size)) (List.replicate L.toNat (tinfo P e).zero) (tinfo P e).cells C.toNat hpos (by simp; omega) (by simp [size_madeCells, hcs]) (by
      intro j ee hj
      rw [List.getElem?_replicate] at hj
      split at hj
      · injection hj with hj; rw [← hj, hzl]
      · cases hj) (by
      intro j ee c' x hj hx
      rw [List.getElem?_replicate] at hj
      split at hj
      · rename_i hjl
        injection hj with hj
        subst hj
        have hcl : c' < (tinfo P e).cells := by rw [← hzl]; exact (List.getElem?_eq_some_iff.1 hx).1
        have hlt : j * (tinfo P e).cells + c' < C.toNat * i.size := by
          have : (j + 1) * (tinfo P e).cells ≤ C.toNat * (tinfo P e).cells := Nat.mul_le_mul_right _ (by omega)
          rw [Nat.add_mul, Nat.one_mul] at this
          rw [← hcs]
          omega
        have hmod : (j * (tinfo P e).cells + c') % z.cells.size = c' := by
          rw [hzlen, Nat.mul_comm, Nat.mul_add_mod, Nat.mod_eq_of_lt hcl]
        have hv : z.cells.toList[c']? = some (z.cells.toList[c']'(by simp; omega)) := List.getElem?_eq_getElem (by simp; omega)
        refine ⟨z.cells.toList[c']'(by simp; omega), ?_, hz2 _ (List.getElem_mem _), hzr.2 _ _ _ hx hv⟩
        unfold madeCells
        rw [Array.getElem?_map, Array.getElem?_eq_getElem (by simpa using hlt)]
        simp only [Array.getElem_range, Option.map_some, hmod]
        rw [getElem!_pos z.cells c' (by omega)]
        simp
      · cases hj)
    refine ⟨_, _, _, _, _, hrun, r1, ?_, r2, hR⟩
    have := alloc_own hh (List.replicate L.toNat (tinfo P e).zero) (tinfo P e).cells C.toNat (w.alloc (.cells (madeCells z.cells (C.toNat * i.size)) e)) (.cells (tinfo P e).cells (List.replicate L.toNat (tinfo P e).zero)) (by simp; omega)
    rw [hlen] at this
    exact this
  · exact hok.elim

theorem makeMap_steps (hh : HRel gl h J w) {t : TypeId} {r : Option Value} {k e : TypeId} (hk : (tinfo P t).kind = .map k e) (hr : ∀ v ∈ r, ∃ kd n, v = .int kd n) {R : AV → AHeap → Prop} (hR : R (.map h.length) (h ++ [.map []])) :
    Steps1 P gl h J w (Instr.makeMap t r) R := by
  obtain ⟨hu, _⟩ := kind_map hk
  obtain ⟨r1, r2⟩ := hh.alloc (.map #[] 0) ⟨w.heap.size, 0, 1, 0⟩ (.map []) rfl (fun J' O' hm => ⟨#[], 0, heap_alloc_new w _, rfl, by simp, rfl, by simp⟩)
  refine ⟨.map (some w.heap.size), w.alloc (.map #[] 0), _, _, _, ?_, r1, .map _ _ (alloc_last hh _), r2, hR⟩
  cases r with
  | none => simp [Instr.makeMap]
  | some v =>
    obtain ⟨kd, n, rfl⟩ := hr v rfl
    simp [Instr.makeMap, run_underlying hu, asInt, asIntOf]

/-- A map's content, a key set to a value. -/
def aset (kvs : List (AV × AV)) (k v : AV) : List (AV × AV) := match aidx kvs k with
  | some i => kvs.set i (k, v)
  | none => kvs ++ [(k, v)]

theorem sameBits_str (n : Nat) (a b : ByteArray) : Instr.sameBits (n + 1) (.string a) (.string b) = (a == b) := rfl

theorem ceq1_same {x y : AV} {u v : Value} (n : Nat) (hx : VRel J O w x u) (hy : VRel J O w y v) {b : BK} (hc : cok1 b x y) (he : ceq1 x y = true) : Instr.sameBits n u v = true := by
  unfold cok1 at hc
  split at hc
  · cases hx; cases hy
    simp only [ceq1] at he
    subst hc
    unfold Instr.sameBits
    simpa using he
  · cases hx; cases hy
    simp only [ceq1, beq_iff_eq] at he
    subst he
    cases n <;> simp [Instr.sameBits, beq_toListBytes]
  · cases hx; cases hy
    simp only [ceq1] at he
    unfold Instr.sameBits
    simpa using he
  · exact hc.elim

theorem ceq_sameAll (n : Nat) : ∀ (bs : List BK) (xs ys : List AV) (us vs : List Value), cok bs xs ys → VRels J O w xs us → VRels J O w ys vs → ceq xs ys = true → (us.zip vs).all (fun (p : Value × Value) => Instr.sameBits n p.1 p.2) = true
  | [], [], [], us, vs, _, hx, _, _ => by
    have : us = [] := List.eq_nil_of_length_eq_zero hx.1.symm
    subst this; rfl
  | b :: bs, x :: xs, y :: ys, us, vs, hc, hx, hy, he => by
    match us, vs, hx.1, hy.1 with
    | u :: us, v :: vs, _, _ =>
      simp only [cok] at hc
      simp only [ceq, Bool.and_eq_true] at he
      have r1 := hx.2 0 x u rfl rfl
      have r2 := hy.2 0 y v rfl rfl
      simp only [List.zip_cons_cons, List.all_cons, Bool.and_eq_true]
      refine ⟨ceq1_same n r1 r2 hc.1 he.1, ceq_sameAll n bs xs ys us vs hc.2 ⟨by simpa using hx.1, fun i a c h1 h2 => hx.2 (i + 1) a c (by simpa using h1) (by simpa using h2)⟩ ⟨by simpa using hy.1, fun i a c h1 h2 => hy.2 (i + 1) a c (by simpa using h1) (by simpa using h2)⟩ he.2⟩
  | [], [], _ :: _, _, _, h, _, _, _ => by simp [cok] at h
  | [], _ :: _, _, _, _, h, _, _, _ => by simp [cok] at h
  | _ :: _, [], _, _, _, h, _, _, _ => by simp [cok] at h
  | _ :: _, _ :: _, [], _, _, h, _, _, _ => by simp [cok] at h

theorem run_keyStays {t : TypeId} {k p : AV} {u v : Value} {bs : List BK} (hf : flat P 50 t = some bs) (hak : aggFit (tinfo P t) k) (hap : aggFit (tinfo P t) p) (hk : VRel J O w k u) (hp : VRel J O w p v) (hc : cok bs (acells k) (acells p)) (he : ceq (acells k) (acells p) = true) :
    (Instr.keyThatStays v u).run P w = .ok u w := by
  have hsb : Instr.sameBits 10000 v u = true := by
    have hsym : ∀ (bs : List BK) (xs ys : List AV), cok bs xs ys → ceq xs ys = true → cok bs ys xs ∧ ceq ys xs = true := by
      intro bs
      induction bs with
      | nil =>
        intro xs ys h1 h2
        have := cok_len _ _ _ h1
        have e1 : xs = [] := by simpa using this.1
        have e2 : ys = [] := by simpa using this.2
        subst e1; subst e2
        exact ⟨h1, h2⟩
      | cons b bs ih =>
        intro xs ys h1 h2
        cases xs with
        | nil => simp [cok] at h1
        | cons x xs =>
          cases ys with
          | nil => simp [cok] at h1
          | cons y ys =>
            simp only [cok] at h1 ⊢
            simp only [ceq, Bool.and_eq_true] at h2 ⊢
            obtain ⟨i1, i2⟩ := ih xs ys h1.2 h2.2
            have : cok1 b y x ∧ ceq1 y x = true := by
              have h3 := h1.1
              have h4 := h2.1
              unfold cok1 at h3
              split at h3
              · simp only [ceq1, beq_iff_eq] at h4 ⊢; subst h3; subst h4; exact ⟨rfl, rfl⟩
              · simp only [ceq1, beq_iff_eq] at h4 ⊢; subst h4; exact ⟨trivial, rfl⟩
              · simp only [ceq1, beq_iff_eq] at h4 ⊢; subst h4; exact ⟨trivial, rfl⟩
              · exact h3.elim
            exact ⟨⟨this.1, i1⟩, this.2, i2⟩
    obtain ⟨hc', he'⟩ := hsym _ _ _ hc he
    unfold aggFit at hak hap
    cases hag : (tinfo P t).agg with
    | true =>
      rw [hag] at hak hap
      cases k <;> simp only at hak
      cases p <;> simp only at hap
      simp only [acells] at hc' he'
      cases hk with
      | agg _ us hl1 ho1 h1 =>
        cases hp with
        | agg _ vs hl2 ho2 h2 =>
          have := ceq_sameAll (J := J) (O := O) (w := w) 9999 bs _ _ vs us hc' ⟨hl2, h2⟩ ⟨hl1, h1⟩ he'
          have hlen := cok_len _ _ _ hc'
          show (vs.toArray.size == us.toArray.size && (vs.toArray.toList.zip us.toArray.toList).all fun (x, y) => Instr.sameBits 9999 x y) = true
          simp only [List.size_toArray, Bool.and_eq_true, beq_iff_eq]
          exact ⟨by omega, this⟩
    | false =>
      rw [hag] at hak hap
      have hnk : ∀ cs, k ≠ .agg cs := by rintro cs rfl; simp at hak
      have hnp : ∀ cs, p ≠ .agg cs := by rintro cs rfl; simp at hap
      rw [vrel_cells hk hnk, vrel_cells hp hnp] at hc' he'
      obtain ⟨b, rfl⟩ := List.length_eq_one_iff.1 ((cok_len _ _ _ hc').1.symm)
      simp only [cok, and_true] at hc'
      simp only [ceq, Bool.and_true] at he'
      exact ceq1_same 10000 hp hk hc' he'
  simp [Instr.keyThatStays, hsb]

theorem born_push {es : Array MapEntry} {clock : Nat} (hc : clock = es.size) (hb : ∀ (i : Nat) (e : MapEntry), es[i]? = some e → e.born = i) {x : MapEntry} (hx : x.born = clock) : ∀ (i : Nat) (e : MapEntry), (es.push x)[i]? = some e → e.born = i := by
  intro i e hi
  rw [Array.getElem?_push] at hi
  split at hi
  · rename_i hie
    injection hi with hi
    rw [← hi, hx, hc, hie]
  · exact hb i e hi
theorem born_modify {es : Array MapEntry} {j : Nat} {f : MapEntry → MapEntry} (hb : ∀ (i : Nat) (e : MapEntry), es[i]? = some e → e.born = i) (hf : ∀ e, (f e).born = e.born) : ∀ (i : Nat) (e : MapEntry), (es.modify j f)[i]? = some e → e.born = i := by
  intro i e hi
  rw [Array.getElem?_modify] at hi
  split at hi
  · cases hx : es[i]? with
    | none => simp [hx] at hi
    | some x =>
      simp [hx] at hi
      rw [← hi, hf]; exact hb i x hx
  · exact hb i e hi

theorem mapUpdate_steps (hh : HRel gl h J w) {t kt et : TypeId} {b : Nat} {k x : AV} {vm vk vx : Value} (ht : (tinfo P t).kind = .map kt et) (hm : VRel J (Own h J) w (.map b) vm) (hk : VRel J (Own h J) w k vk) (hx : VRel J (Own h J) w x vx)
    (him : isMap h b = true) (hks : keysOk P kt k (hmap h b)) {R : AHeap → Prop} (hR : R (h.set b (.map (aset (hmap h b) k x)))) : Steps0 P gl h J w (Instr.mapUpdate t vm vk vx) R := by
  obtain ⟨hu, _⟩ := kind_map ht
  unfold isMap at him
  split at him
  · rename_i kvs hb
    have hkv : hmap h b = kvs := by simp [hmap, hb]
    rw [hkv] at hks hR
    cases hm with
    | map _ kb hkb =>
      obtain ⟨es, clock, h1, h2, h3, h4c, h4⟩ := hh.obj b kb _ hkb hb
      have hg : (getObj kb.r).run P w = .ok (.map es clock) w := run_getObj' h1 (by intros; simp)
      have hck := check_key (P := P) false hks hk
      have hfk := findKey_sound (P := P) hk hks (es := es.toList) (by simpa using h2) (fun i e p h4 h5 => (h3 i e p (by simpa using h4) h5).1)
      have hlt : kb.r < w.heap.size := hh.lt b kb hkb
      have hset : ∀ o : Obj, (setObj kb.r o).run P w = .ok () { w with heap := w.heap.setIfInBounds kb.r o } := by
        intro o
        simp only [setObj, Sem.run, h1]
      have done : ∀ (o : Obj) (kvs' : List (AV × AV)), aset kvs k x = kvs' → (∀ (O' : Nat → Prop) (w' : World), w'.heap[kb.r]? = some o → (∀ y v, VRel J (Own h J) w y v → VRel J O' w' y v) → ORel J O' w' kb (.map kvs')) →
          (Instr.mapUpdate t (.map (some kb.r)) vk vx).run P w = .ok () { w with heap := w.heap.setIfInBounds kb.r o } → Steps0 P gl h J w (Instr.mapUpdate t (.map (some kb.r)) vk vx) R := by
        intro o kvs' e1 e2 e3
        have hnew : ({ w with heap := w.heap.setIfInBounds kb.r o } : World).heap[kb.r]? = some o := by simp [hlt]
        obtain ⟨r1, r2⟩ := hh.set (o' := .map kvs) (k := kb) (w' := { w with heap := w.heap.setIfInBounds kb.r o }) (.map kvs') hkb hb (by simp) (by simp) (fun r hr => by simp [Array.getElem?_setIfInBounds_ne (Ne.symm hr)]) rfl rfl rfl (fun O' hmm => e2 O' _ hnew hmm)
        exact ⟨_, J, _, e3, r1, r2, by rw [← e1]; exact hR⟩
      cases hidx : aidx kvs k with
      | none =>
        have hfa : foundAt kvs k es.toList 0 = none := by simp [foundAt, hidx]
        rw [hfa] at hfk
        refine done (.map (es.push { key := vk, val := vx, born := clock }) (clock + 1)) (kvs ++ [(k, x)]) (by simp [aset, hidx]) ?_ ?_
        · intro O' w' hw' hmm
          refine ⟨_, _, hw', by simp [h2], ?_, by simp [h4c], born_push h4c h4 rfl⟩
          intro i e p hi hp
          rw [Array.getElem?_push] at hi
          split at hi
          · rename_i hie
            injection hi with hi
            subst hi
            rw [hie, h2, List.getElem?_append_right (Nat.le_refl _), Nat.sub_self] at hp
            simp at hp
            subst hp
            exact ⟨hmm _ _ hk, hmm _ _ hx⟩
          · have hil : i < kvs.length := by rw [← h2]; exact (Array.getElem?_eq_some_iff.1 hi).1
            rw [List.getElem?_append_left hil] at hp
            exact ⟨hmm _ _ (h3 i e p hi hp).1, hmm _ _ (h3 i e p hi hp).2⟩
        · simp [Instr.mapUpdate, run_underlying hu, hg, hck, hfk, hset]
      | some i =>
        have hil := (List.findIdx?_eq_some_iff_getElem.1 hidx)
        obtain ⟨hlt', hceq, _⟩ := hil
        have hie : es[i]? = some (es[i]'(by omega)) := Array.getElem?_eq_getElem (by omega)
        have hfa : foundAt kvs k es.toList 0 = some (i, (es[i]'(by omega)).val) := by
          simp [foundAt, hidx, hie]
        rw [hfa] at hfk
        obtain ⟨ha, bs, hf, hc, hall⟩ := hks
        obtain ⟨hap, hcp⟩ := hall kvs[i] (List.getElem_mem hlt')
        have hkp := (h3 i _ kvs[i] hie (List.getElem?_eq_getElem hlt')).1
        have hst := run_keyStays (P := P) hf ha hap hk hkp hcp hceq
        refine done (.map (es.modify i fun e => { e with key := vk, val := vx }) clock) (kvs.set i (k, x)) (by simp [aset, hidx]) ?_ ?_
        · intro O' w' hw' hmm
          refine ⟨_, _, hw', by simp [h2], ?_, by simp [h4c], born_modify h4 (fun _ => rfl)⟩
          intro j e p hj hp
          rw [Array.getElem?_modify] at hj
          by_cases hij : i = j
          · subst hij
            rw [if_pos rfl, hie] at hj
            simp at hj
            subst hj
            rw [List.getElem?_set_self hlt'] at hp
            injection hp with hp
            subst hp
            exact ⟨hmm _ _ hk, hmm _ _ hx⟩
          · rw [if_neg hij] at hj
            rw [List.getElem?_set_ne hij] at hp
            exact ⟨hmm _ _ (h3 j e p hj hp).1, hmm _ _ (h3 j e p hj hp).2⟩
        · simp [Instr.mapUpdate, run_underlying hu, hg, hck, hfk, hset, hie, hst]
  · cases him
theorem ceq_eq : ∀ (bs : List BK) (xs ys : List AV), cok bs xs ys → ceq xs ys = true → xs = ys
  | [], [], [], _, _ => rfl
  | b :: bs, x :: xs, y :: ys, hc, he => by
    simp only [cok] at hc
    simp only [ceq, Bool.and_eq_true] at he
    have h1 : x = y := by
      obtain ⟨h3, _⟩ := hc
      have h4 := he.1
      unfold cok1 at h3
      split at h3
      · simp only [ceq1, beq_iff_eq] at h4; subst h3; subst h4; rfl
      · simp only [ceq1, beq_iff_eq] at h4; subst h4; rfl
      · simp only [ceq1, beq_iff_eq] at h4; subst h4; rfl
      · exact h3.elim
    rw [h1, ceq_eq bs xs ys hc.2 he.2]
  | [], [], _ :: _, h, _ => by simp [cok] at h
  | [], _ :: _, _, h, _ => by simp [cok] at h
  | _ :: _, [], _, h, _ => by simp [cok] at h
  | _ :: _, _ :: _, [], h, _ => by simp [cok] at h
theorem key_eq {t : TypeId} {k x : AV} {bs : List BK} (a1 : aggFit (tinfo P t) k) (a2 : aggFit (tinfo P t) x) (a3 : cok bs (acells k) (acells x)) (a4 : ceq (acells k) (acells x) = true) : k = x := by
  have e := ceq_eq _ _ _ a3 a4
  unfold aggFit at a1 a2
  cases hag : (tinfo P t).agg with
  | true =>
    rw [hag] at a1 a2
    cases k <;> simp only at a1
    cases x <;> simp only at a2
    simpa [acells] using e
  | false =>
    rw [hag] at a1 a2
    have h1 : acells k = [k] := by cases k <;> first | rfl | exact absurd a1 (by simp)
    have h2 : acells x = [x] := by cases x <;> first | rfl | exact absurd a2 (by simp)
    rw [h1, h2] at e
    exact (List.cons.inj e).1

/-- A map's content with an entry for a key, and the entry's place. -/
def aput (kvs : List (AV × AV)) (k z : AV) : List (AV × AV) := match aidx kvs k with
  | some _ => kvs
  | none => kvs ++ [(k, z)]
def aplace (kvs : List (AV × AV)) (k : AV) : Nat := (aidx kvs k).getD kvs.length
/-- An entry's value is turned. -/
def aentry (kvs : List (AV × AV)) (i : Nat) (x : AV) : List (AV × AV) := match kvs[i]? with
  | some p => kvs.set i (p.1, x)
  | none => kvs
theorem aput_set (kvs : List (AV × AV)) (k z v : AV) (hk : ∀ p ∈ kvs, ceq (acells k) (acells p.1) = true → p.1 = k) : aentry (aput kvs k z) (aplace kvs k) v = aset kvs k v := by
  unfold aput aplace aset
  cases h : aidx kvs k with
  | none => simp [aentry]
  | some i =>
    obtain ⟨hlt, hc, _⟩ := List.findIdx?_eq_some_iff_getElem.1 h
    have := hk kvs[i] (List.getElem_mem hlt) hc
    simp [aentry, List.getElem?_eq_getElem hlt, this]
theorem aplace_lt (kvs : List (AV × AV)) (k z : AV) : aplace kvs k < (aput kvs k z).length := by
  unfold aput aplace
  cases h : aidx kvs k with
  | none => simp
  | some i =>
    obtain ⟨hlt, hc, _⟩ := List.findIdx?_eq_some_iff_getElem.1 h
    simpa using hlt

theorem mapEntry_steps (hh : HRel gl h J w) {t kt et : TypeId} {b : Nat} {k : AV} {vm vk : Value} (ht : (tinfo P t).kind = .map kt et) (hz : zeroOk (tinfo P et)) (hm : VRel J (Own h J) w (.map b) vm) (hk : VRel J (Own h J) w k vk)
    (him : isMap h b = true) (hks : keysOk P kt k (hmap h b)) {R : AV → AHeap → Prop}
    (hR : R (.tup [(alook (hmap h b) k).getD (azero (tinfo P et)), .int .i64 (aplace (hmap h b) k)]) (h.set b (.map (aput (hmap h b) k (azero (tinfo P et)))))) : Steps1 P gl h J w (Instr.mapEntry t vm vk) R := by
  obtain ⟨hu, _⟩ := kind_map ht
  unfold isMap at him
  split at him
  · rename_i kvs hb
    have hkv : hmap h b = kvs := by simp [hmap, hb]
    rw [hkv] at hks hR
    cases hm with
    | map _ kb hkb =>
      obtain ⟨es, clock, h1, h2, h3, h4c, h4⟩ := hh.obj b kb _ hkb hb
      obtain ⟨z, hz1, hz2⟩ := azero_sound (J := J) (O := Own h J) (w := w) hz
      have hg : (getObj kb.r).run P w = .ok (.map es clock) w := run_getObj' h1 (by intros; simp)
      have hck := check_key (P := P) false hks hk
      have hfk := findKey_sound (P := P) hk hks (es := es.toList) (by simpa using h2) (fun i e p h4 h5 => (h3 i e p (by simpa using h4) h5).1)
      have hlt : kb.r < w.heap.size := hh.lt b kb hkb
      have hset : ∀ o : Obj, (setObj kb.r o).run P w = .ok () { w with heap := w.heap.setIfInBounds kb.r o } := by
        intro o
        simp only [setObj, Sem.run, h1]
      have done : ∀ (o : Obj) (x : AV) (v : Value), VRel J (Own h J) w x v → R x (h.set b (.map (aput kvs k (azero (tinfo P et))))) → (∀ (O' : Nat → Prop) (w' : World), w'.heap[kb.r]? = some o → (∀ y v, VRel J (Own h J) w y v → VRel J O' w' y v) → ORel J O' w' kb (.map (aput kvs k (azero (tinfo P et))))) →
          (Instr.mapEntry t (.map (some kb.r)) vk).run P w = .ok v { w with heap := w.heap.setIfInBounds kb.r o } → Steps1 P gl h J w (Instr.mapEntry t (.map (some kb.r)) vk) R := by
        intro o x v hxv hRx e2 e3
        have hnew : ({ w with heap := w.heap.setIfInBounds kb.r o } : World).heap[kb.r]? = some o := by simp [hlt]
        obtain ⟨r1, r2⟩ := hh.set (o' := .map kvs) (k := kb) (w' := { w with heap := w.heap.setIfInBounds kb.r o }) (.map (aput kvs k (azero (tinfo P et)))) hkb hb (by simp) (by simp) (fun r hr => by simp [Array.getElem?_setIfInBounds_ne (Ne.symm hr)]) rfl rfl rfl (fun O' hmm => e2 O' _ hnew hmm)
        exact ⟨v, _, J, x, _, e3, r1, hxv.evo r2, r2, hRx⟩
      cases hidx : aidx kvs k with
      | none =>
        have hfa : foundAt kvs k es.toList 0 = none := by simp [foundAt, hidx]
        rw [hfa] at hfk
        have hal : alook kvs k = none := by
          unfold aidx at hidx
          rw [List.findIdx?_eq_none_iff] at hidx
          unfold alook
          simp only [Option.map_eq_none_iff, List.find?_eq_none]
          intro p hp
          simp [hidx p hp]
        have hap : aput kvs k (azero (tinfo P et)) = kvs ++ [(k, azero (tinfo P et))] := by simp [aput, hidx]
        have hpl : aplace kvs k = kvs.length := by simp [aplace, hidx]
        rw [hal, hpl] at hR
        refine done (.map (es.push { key := vk, val := z, born := clock }) (clock + 1)) _ (.tuple #[z, goInt clock]) ?_ hR ?_ ?_
        · have : VRels J (Own h J) w [azero (tinfo P et), .int .i64 (kvs.length : Int)] [z, goInt clock] := VRels.cons hz2 (VRels.cons (by rw [h4c, h2]; exact .int _ _) .nil)
          exact .tup _ _ this.1 this.2
        · intro O' w' hw' hmm
          rw [hap]
          refine ⟨_, _, hw', by simp [h2], ?_, by simp [h4c], born_push h4c h4 rfl⟩
          intro i e p hi hp
          rw [Array.getElem?_push] at hi
          split at hi
          · rename_i hie
            injection hi with hi
            subst hi
            rw [hie, h2, List.getElem?_append_right (Nat.le_refl _), Nat.sub_self] at hp
            simp at hp
            subst hp
            exact ⟨hmm _ _ hk, hmm _ _ hz2⟩
          · have hil : i < kvs.length := by rw [← h2]; exact (Array.getElem?_eq_some_iff.1 hi).1
            rw [List.getElem?_append_left hil] at hp
            exact ⟨hmm _ _ (h3 i e p hi hp).1, hmm _ _ (h3 i e p hi hp).2⟩
        · simp [Instr.mapEntry, run_underlying hu, hg, hck, hfk, hset, hz1]
      | some i =>
        have hil := (List.findIdx?_eq_some_iff_getElem.1 hidx)
        obtain ⟨hlt', hceq, hfirst⟩ := hil
        have hie : es[i]? = some (es[i]'(by omega)) := Array.getElem?_eq_getElem (by omega)
        have hfa : foundAt kvs k es.toList 0 = some (i, (es[i]'(by omega)).val) := by
          simp [foundAt, hidx, hie]
        rw [hfa] at hfk
        have hal : alook kvs k = some kvs[i].2 := by
          have hf : kvs.find? (fun p => ceq (acells k) (acells p.1)) = some kvs[i] := by
            rw [List.find?_eq_some_iff_getElem]
            exact ⟨hceq, i, hlt', rfl, fun j hj => by simpa using hfirst j hj⟩
          simp [alook, hf]
        have hap : aput kvs k (azero (tinfo P et)) = kvs := by simp [aput, hidx]
        have hpl : aplace kvs k = i := by simp [aplace, hidx]
        rw [hal, hpl] at hR
        obtain ⟨ha, bs, hf, hc, hall⟩ := hks
        obtain ⟨hapk, hcp⟩ := hall kvs[i] (List.getElem_mem hlt')
        have hkp := (h3 i _ kvs[i] hie (List.getElem?_eq_getElem hlt')).1
        have hvp := (h3 i _ kvs[i] hie (List.getElem?_eq_getElem hlt')).2
        have hst := run_keyStays (P := P) hf ha hapk hk hkp hcp hceq
        have hbn := h4 i _ hie
        have hsame : VRel J (Own h J) w kvs[i].1 vk := by
          have hh2 : ∀ {x : AV} {u v : Value}, VRel J (Own h J) w k u → VRel J (Own h J) w x v → aggFit (tinfo P kt) k → aggFit (tinfo P kt) x → cok bs (acells k) (acells x) → ceq (acells k) (acells x) = true → VRel J (Own h J) w x u := by
            intro x u v r1 r2 a1 a2 a3 a4
            have : k = x := key_eq a1 a2 a3 a4
            rw [← this]; exact r1
          exact hh2 hk hkp ha hapk hcp hceq
        refine done (.map (es.modify i fun e => { e with key := vk }) clock) _ (.tuple #[(es[i]'(by omega)).val, goInt i]) ?_ hR ?_ ?_
        · have : VRels J (Own h J) w [kvs[i].2, .int .i64 (i : Int)] [(es[i]'(by omega)).val, goInt i] := VRels.cons hvp (VRels.cons (.int _ _) .nil)
          exact .tup _ _ this.1 this.2
        · intro O' w' hw' hmm
          rw [hap]
          refine ⟨_, _, hw', by simp [h2], ?_, by simp [h4c], born_modify h4 (fun _ => rfl)⟩
          intro j e p hj hp
          rw [Array.getElem?_modify] at hj
          by_cases hij : i = j
          · subst hij
            rw [if_pos rfl, hie] at hj
            simp at hj
            subst hj
            rw [List.getElem?_eq_getElem hlt'] at hp
            injection hp with hp
            subst hp
            exact ⟨hmm _ _ hsame, hmm _ _ hvp⟩
          · rw [if_neg hij] at hj
            exact ⟨hmm _ _ (h3 j e p hj hp).1, hmm _ _ (h3 j e p hj hp).2⟩
        · simp [Instr.mapEntry, run_underlying hu, hg, hck, hfk, hset, hie, hst, hbn]
  · cases him

theorem entryStore_steps (hh : HRel gl h J w) {t : TypeId} {b i : Nat} {x : AV} {vm vx : Value} (hm : VRel J (Own h J) w (.map b) vm) (hx : VRel J (Own h J) w x vx)
    (him : isMap h b = true) (hi : i < (hmap h b).length) {R : AHeap → Prop} (hR : R (h.set b (.map (aentry (hmap h b) i x)))) : Steps0 P gl h J w (Instr.entryStore t vm (.int .i64 i) vx) R := by
  unfold isMap at him
  split at him
  · rename_i kvs hb
    have hkv : hmap h b = kvs := by simp [hmap, hb]
    rw [hkv] at hi hR
    cases hm with
    | map _ kb hkb =>
      obtain ⟨es, clock, h1, h2, h3, h4c, h4⟩ := hh.obj b kb _ hkb hb
      have hg : (getObj kb.r).run P w = .ok (.map es clock) w := run_getObj' h1 (by intros; simp)
      have hlt : kb.r < w.heap.size := hh.lt b kb hkb
      have hset : ∀ o : Obj, (setObj kb.r o).run P w = .ok () { w with heap := w.heap.setIfInBounds kb.r o } := by
        intro o
        simp only [setObj, Sem.run, h1]
      obtain ⟨p0, hp0⟩ : ∃ p0, kvs[i]? = some p0 := ⟨_, List.getElem?_eq_getElem hi⟩
      obtain ⟨hil, hie0⟩ := List.getElem?_eq_some_iff.1 hp0
      have hae : aentry kvs i x = kvs.set i (p0.1, x) := by simp [aentry, hp0]
      rw [hae] at hR
      have hie : es[i]? = some (es[i]'(by omega)) := Array.getElem?_eq_getElem (by omega)
      have hfind : es.findIdx? (fun e => (e.born : Int) == (i : Int)) = some i := by
        rw [Array.findIdx?_eq_some_iff_getElem]
        refine ⟨by omega, ?_, ?_⟩
        · have := h4 i _ hie
          simp [this]
        · intro j hj
          have hje : es[j]? = some (es[j]'(by omega)) := Array.getElem?_eq_getElem (by omega)
          have := h4 j _ hje
          simp [this]; omega
      have hnew : ({ w with heap := w.heap.setIfInBounds kb.r (.map (es.modify i fun e => { e with val := vx }) clock) } : World).heap[kb.r]? = some (.map (es.modify i fun e => { e with val := vx }) clock) := by simp [hlt]
      obtain ⟨r1, r2⟩ := hh.set (o' := .map kvs) (k := kb) (w' := { w with heap := w.heap.setIfInBounds kb.r (.map (es.modify i fun e => { e with val := vx }) clock) }) (.map (kvs.set i (p0.1, x))) hkb hb (by simp) (by simp) (fun r hr => by simp [Array.getElem?_setIfInBounds_ne (Ne.symm hr)]) rfl rfl rfl (fun O' hmm => by
        refine ⟨_, _, hnew, by simp [h2], ?_, by simp [h4c], born_modify h4 (fun _ => rfl)⟩
        intro j e p hj hp
        rw [Array.getElem?_modify] at hj
        by_cases hij : i = j
        · subst hij
          rw [if_pos rfl, hie] at hj
          simp at hj
          subst hj
          rw [List.getElem?_set_self hil] at hp
          injection hp with hp
          subst hp
          exact ⟨hmm _ _ (h3 i _ p0 hie hp0).1, hmm _ _ hx⟩
        · rw [if_neg hij] at hj
          rw [List.getElem?_set_ne hij] at hp
          exact ⟨hmm _ _ (h3 j e p hj hp).1, hmm _ _ (h3 j e p hj hp).2⟩)
      refine ⟨_, J, _, ?_, r1, r2, hR⟩
      simp [Instr.entryStore, hg, asInt, asIntOf, hfind, hset]
  · cases him
end
end Go.Abs
end

section 

namespace Go.Abs
open Go

/-- Where one stands in a string. -/
def strAt (s : List UInt8) (pos : Nat) : AObj := .raw (.stringIter ⟨s.toArray⟩ pos)
/-- The letter at a place, and its bytes. -/
def runeAt (s : List UInt8) (pos : Nat) : Nat × Nat := Utf8.decode ⟨s.toArray⟩ pos

theorem runeAt_ascii {s : List UInt8} {pos : Nat} {c : UInt8} (h : s[pos]? = some c) (hc : c.toNat < 128) : runeAt s pos = (c.toNat, 1) := by
  obtain ⟨hp, hv⟩ := List.getElem?_eq_some_iff.1 h
  have hs : pos < (ByteArray.mk s.toArray).size := by simpa [ByteArray.size] using hp
  have he : (ByteArray.mk s.toArray)[pos]'hs = c := by rw [← hv]; rfl
  have := decode_ascii ⟨s.toArray⟩ pos hs (by rw [he]; exact hc)
  rw [he] at this
  exact this
theorem decode_big (s : ByteArray) (i : Nat) (h : ¬ (s.get! i).toNat < 128) : 128 ≤ (Utf8.decode s i).1 ∧ 1 ≤ (Utf8.decode s i).2 := by
  unfold Utf8.decode
  simp only [Nat.add_zero]
  rw [if_neg h]
  have hr : 128 ≤ Utf8.runeError := by decide
  split
  · split
    · rename_i h1; exact ⟨h1, by omega⟩
    · exact ⟨hr, by omega⟩
  · split
    · split
      · rename_i h1; simp only [ge_iff_le, Bool.and_eq_true, decide_eq_true_eq] at h1; exact ⟨by omega, by omega⟩
      · exact ⟨hr, by omega⟩
    · split
      · split
        · rename_i h1; simp only [ge_iff_le, Bool.and_eq_true, decide_eq_true_eq] at h1; exact ⟨by omega, by omega⟩
        · exact ⟨hr, by omega⟩
      · exact ⟨hr, by omega⟩
theorem runeAt_big {s : List UInt8} {pos : Nat} {c : UInt8} (h : s[pos]? = some c) (hc : ¬ c.toNat < 128) : 128 ≤ (runeAt s pos).1 ∧ 1 ≤ (runeAt s pos).2 := by
  obtain ⟨hp, hv⟩ := List.getElem?_eq_some_iff.1 h
  refine decode_big _ _ ?_
  have : (ByteArray.mk s.toArray).get! pos = c := by
    simp only [ByteArray.get!]
    rw [getElem!_pos s.toArray pos (by simpa using hp)]
    simpa using hv
  rw [this]; exact hc

section
variable {P : Program} {gl : Globs} {J : List Blk} {h : AHeap} {w : World}

theorem range_steps (hh : HRel gl h J w) {t : TypeId} {s : List UInt8} {v : Value} (hk : (tinfo P t).kind = .string) (hx : VRel J (Own h J) w (.str s) v) {R : AV → AHeap → Prop} (hR : R (.obj h.length) (h ++ [strAt s 0])) :
    Steps1 P gl h J w (Instr.range t v) R := by
  obtain ⟨d, hu, hd, _, _⟩ := kind_und hk (by simp)
  have hu' : P.underlying t = some .string := by cases d <;> simp [tkOf] at hd; exact hu
  cases hx
  obtain ⟨r1, r2⟩ := hh.alloc (.stringIter ⟨s.toArray⟩ 0) ⟨w.heap.size, 0, 1, 0⟩ (strAt s 0) rfl (fun J' O' hm => heap_alloc_new w _)
  exact ⟨.pointer (some ⟨w.heap.size, 0, none⟩), _, _, _, _, run_range_string w t _ hu', r1, .obj _ _ (alloc_last hh _), r2, hR⟩

theorem range_map_steps (hh : HRel gl h J w) {t kt et : TypeId} {b : Nat} {kvs : List (AV × AV)} {v : Value} (hk : (tinfo P t).kind = .map kt et) (hb : h[b]? = some (.map kvs)) (hx : VRel J (Own h J) w (.map b) v) {R : AV → AHeap → Prop} (hR : R (.obj h.length) (h ++ [.iter b kvs.length []])) :
    Steps1 P gl h J w (Instr.range t v) R := by
  obtain ⟨d, hu, hd, _, _⟩ := kind_und hk (by simp)
  have hu' : P.underlying t = some (.map kt et) := by
    cases d <;> simp [tkOf] at hd
    obtain ⟨rfl, rfl⟩ := hd; exact hu
  cases hx with
  | map _ k hkb =>
    obtain ⟨es, clock, o1, o2, o3, o4, o5⟩ := hh.obj b k _ hkb hb
    subst o4
    obtain ⟨r1, r2⟩ := hh.alloc (.mapIter (some k.r) es.size #[] es.size) ⟨w.heap.size, 0, 1, 0⟩ (.iter b kvs.length []) rfl (fun J' O' hm => by
      have h1 := hm (.map b) _ (.map b k hkb)
      generalize hv : Value.map (some k.r) = u at h1
      cases h1 with
      | map _ k' hk' =>
        injection hv with hv
        injection hv with hv
        exact ⟨k', hk', by rw [← hv, ← o2]; exact heap_alloc_new w _⟩)
    exact ⟨.pointer (some ⟨w.heap.size, 0, none⟩), _, _, _, _, run_range_map w t kt et k.r es es.size hu' o1, r1, .obj _ _ (alloc_last hh _), r2, hR⟩

theorem entry_steps (hh : HRel gl h J w) {it m i : Nat} {seen : List Nat} {kvs : List (AV × AV)} {p : AV × AV} {v : Value} (hi : h[it]? = some (.iter m kvs.length (seen ++ [i]))) (hb : h[m]? = some (.map kvs)) (hp : kvs[i]? = some p) (hx : VRel J (Own h J) w (.obj it) v) {R : AV → AHeap → Prop} (hR : R (.tup [p.1, p.2]) h) :
    Steps1 P gl h J w (Instr.entry v) R := by
  cases hx with
  | obj _ k hk =>
    obtain ⟨k', hk', o1⟩ := hh.obj it k _ hk hi
    obtain ⟨es, clock, q1, q2, q3, q4, q5⟩ := hh.obj m k' _ hk' hb
    subst q4
    obtain ⟨e, he, _⟩ : ∃ e, es[i]? = some e ∧ True := ⟨_, Array.getElem?_eq_getElem (by have := (List.getElem?_eq_some_iff.1 hp).1; omega), trivial⟩
    have hbn := q5 i e he
    have hnd : (es.toList.map (·.born)).Nodup := by
      have e1 : es.toList.map (·.born) = List.range es.size := by
        refine List.ext_getElem? fun j => ?_
        rw [List.getElem?_map]
        rcases Nat.lt_or_ge j es.size with hj | hj
        · have h1 : es[j]? = some es[j] := Array.getElem?_eq_getElem hj
          rw [Array.getElem?_toList, h1, Option.map_some, q5 j _ h1, List.getElem?_range hj]
        · rw [Array.getElem?_toList, Array.getElem?_eq_none hj, List.getElem?_eq_none (by simpa using hj)]; rfl
      rw [e1]; exact List.nodup_range
    have o1' : w.heap[k.r]? = some (.mapIter (some k'.r) es.size (seen.toArray.push e.born) es.size) := by
      rw [o1, hbn, ← q2]; simp
    have hrun := run_entry_at (P := P) w k.r k'.r es.size seen.toArray es es.size e o1' q1 (by simpa using Array.mem_of_getElem? he) hnd
    obtain ⟨r1, r2⟩ := q3 i e p he hp
    exact ⟨.tuple #[e.key, e.val], w, J, _, h, hrun, hh, .tup _ _ rfl (VRels.cons r1 (VRels.cons r2 .nil)).2, Evo.refl _ _ _, hR⟩

/-- The next entry of a map: whichever it is. -/
theorem next_map (hh : HRel gl h J w) {it m : Nat} {seen : List Nat} {kvs : List (AV × AV)} {v : Value} {ty : TypeId} (hi : h[it]? = some (.iter m kvs.length seen)) (hb : h[m]? = some (.map kvs)) (hx : VRel J (Own h J) w (.obj it) v) :
    (∃ i p, kvs[i]? = some p ∧ i ∉ seen ∧ ∃ u w', (Instr.next v false ty).run P w = .ok u w' ∧ HRel gl (h.set it (.iter m kvs.length (seen ++ [i]))) J w' ∧ VRel J (Own (h.set it (.iter m kvs.length (seen ++ [i]))) J) w' (.tup [.bool true, p.1, p.2]) u ∧ Evo h J w (h.set it (.iter m kvs.length (seen ++ [i]))) J w') ∨
    ((∀ i, i < kvs.length → i ∈ seen) ∧ (Instr.next v false ty).run P w = .ok (.tuple #[.bool false]) w) := by
  cases hx with
  | obj _ k hk =>
    obtain ⟨k', hk', o1⟩ := hh.obj it k _ hk hi
    obtain ⟨es, clock, q1, q2, q3, q4, q5⟩ := hh.obj m k' _ hk' hb
    subst q4
    rw [← q2] at o1
    have hold : ∀ x ∈ es.toList, x.born < es.size := fun x hx => by
      obtain ⟨j, hj⟩ := List.getElem?_of_mem hx
      rw [Array.getElem?_toList] at hj
      rw [q5 j x hj]
      exact (Array.getElem?_eq_some_iff.1 hj).1
    rcases run_next_at (P := P) w ty k.r k'.r es.size es.size seen.toArray es es.size o1 q1 hold (Nat.le_refl _) with ⟨h0, hrun⟩ | ⟨e, he, w1, hal, hrun⟩
    · right
      refine ⟨fun i hi => ?_, hrun⟩
      have hei : es[i]? = some (es[i]'(by omega)) := Array.getElem?_eq_getElem _
      have hemp : leftOf es seen.toArray = #[] := Array.eq_empty_of_size_eq_zero h0
      unfold leftOf at hemp
      rw [Array.filter_eq_empty_iff] at hemp
      have := hemp _ (Array.mem_of_getElem? hei)
      rw [q5 i _ hei] at this
      simpa using this
    · left
      unfold leftOf at he
      rw [Array.toList_filter, List.mem_filter] at he
      obtain ⟨hem, hes⟩ := he
      obtain ⟨i, hi'⟩ := List.getElem?_of_mem hem
      rw [Array.getElem?_toList] at hi'
      have hil := (Array.getElem?_eq_some_iff.1 hi').1
      obtain ⟨p, hp, _⟩ : ∃ p, kvs[i]? = some p ∧ True := ⟨_, List.getElem?_eq_getElem (by omega), trivial⟩
      have hbn := q5 i e hi'
      rw [hbn] at hes hrun
      have hnin : i ∉ seen := by simpa using hes
      have h1 : HRel gl h J w1 ∧ Evo h J w h J w1 := by
        rcases hal with rfl | rfl
        · exact ⟨hh, Evo.refl _ _ _⟩
        · exact hh.drew
      obtain ⟨hh1, ev1⟩ := h1
      have hsz1 : w1.heap = w.heap := by rcases hal with rfl | rfl <;> rfl
      obtain ⟨r1, r2⟩ := hh1.set (w' := Go.ChangeMaps.setBlock w1 k.r (.mapIter (some k'.r) es.size (seen.toArray.push i) es.size)) (.iter m kvs.length (seen ++ [i])) hk hi (by simp) (by simp [Go.ChangeMaps.setBlock])
        (fun r hr => by simp [Go.ChangeMaps.setBlock, Array.getElem?_setIfInBounds, Ne.symm hr]) rfl rfl rfl
        (fun O' hm => ⟨k', hk', by
          show (w1.heap.setIfInBounds k.r _)[k.r]? = _
          rw [Array.getElem?_setIfInBounds_self_of_lt (hh1.lt it k hk), ← q2]; simp⟩)
      obtain ⟨v1, v2⟩ := q3 i e p hi' hp
      refine ⟨i, p, hp, hnin, _, _, hrun, r1, ?_, ev1.trans r2⟩
      exact .tup _ _ rfl (VRels.cons (.bool true) (VRels.cons ((v1.evo ev1).evo r2) (VRels.cons ((v2.evo ev1).evo r2) .nil))).2

theorem next_steps (hh : HRel gl h J w) {b : Nat} {s : List UInt8} {pos : Nat} {v : Value} {ty : TypeId} (hb : h[b]? = some (strAt s pos)) (hx : VRel J (Own h J) w (.obj b) v) {R : AV → AHeap → Prop}
    (hR1 : pos < s.length → R (.tup [.bool true, .int .i64 pos, .int .i32 (runeAt s pos).1]) (h.set b (strAt s (pos + (runeAt s pos).2)))) (hR2 : ¬ pos < s.length → R (.tup [.bool false]) h) :
    Steps1 P gl h J w (Instr.next v true ty) R := by
  cases hx with
  | obj _ k hk =>
    have ho : w.heap[k.r]? = some (.stringIter ⟨s.toArray⟩ pos) := hh.obj b k _ hk hb
    have hsz : (ByteArray.mk s.toArray).size = s.length := by simp [ByteArray.size]
    by_cases hp : pos < s.length
    · obtain ⟨r1, r2⟩ := hh.set (w' := { w with heap := w.heap.setIfInBounds k.r (.stringIter ⟨s.toArray⟩ (pos + (runeAt s pos).2)) }) (strAt s (pos + (runeAt s pos).2)) hk hb (by simp [strAt]) (by simp)
        (fun r hr => by simp [Array.getElem?_setIfInBounds, Ne.symm hr]) rfl rfl rfl
        (fun O' hm => by
          show (w.heap.setIfInBounds k.r _)[k.r]? = _
          rw [Array.getElem?_setIfInBounds_self_of_lt (hh.lt b k hk)])
      refine ⟨.tuple #[.bool true, .int .i64 pos, .int .i32 (runeAt s pos).1], _, _, _, _, ?_, r1, ?_, r2, hR1 hp⟩
      · simp [Instr.next, getObj, setObj, Sem.run, ho, hsz, hp, runeAt, goInt]
      · exact .tup _ _ rfl (VRels.cons (.bool true) (VRels.cons (.int .i64 _) (VRels.cons (.int .i32 _) .nil))).2
    · refine ⟨.tuple #[.bool false], w, J, _, h, ?_, hh, .tup _ _ rfl (VRels.cons (.bool false) .nil).2, Evo.refl _ _ _, hR2 hp⟩
      simp [Instr.next, getObj, Sem.run, ho, hsz, hp]
end
end Go.Abs
end
