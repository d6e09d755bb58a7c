/-
  Operations that turn the abstract heap.
-/
import Derived.Test.YtcbaojkchiphkaaAbsVop
import Derived.Test.YtcbaojkchiphkaaAbsStep
import Derived.Laws.AppendOwn
set_option linter.unusedVariables false
set_option linter.unusedSimpArgs false
namespace Go.Abs
open Go

section
variable {P : Program} {gl : Globs} {J : List Blk} {h : AHeap} {w : World} {O : Nat → Prop} {fr : AFrame} {N : Nat}

/-- What an operation may leave: a value and a world that show one of the outcomes. -/
def Steps1 (P : Program) (gl : Globs) (h : AHeap) (J : List Blk) (w : World) (s : Sem Value) (R : AV → AHeap → Prop) : Prop :=
  ∃ v w' J' x h', s.run P w = .ok v w' ∧ HRel gl h' J' w' ∧ VRel J' (Own h' J') w' x v ∧ Evo h J w h' J' w' ∧ R x h'
def Steps0 (P : Program) (gl : Globs) (h : AHeap) (J : List Blk) (w : World) (s : Sem Unit) (R : AHeap → Prop) : Prop :=
  ∃ w' J' h', s.run P w = .ok () w' ∧ HRel gl h' J' w' ∧ Evo h J w h' J' w' ∧ R h'

theorem alloc_cells (hh : HRel gl h J w) (T : TypeId) (us : Array Value) (es : List (List AV)) (n cap : Nat) (hn : 0 < n) (hcap : es.length ≤ cap) (hsz : cap * n ≤ us.size) (hl : ∀ (i : Nat) (e : List AV), es[i]? = some e → e.length = n)
    (hr : ∀ (i : Nat) (e : List AV) (c : Nat) (x : AV), es[i]? = some e → e[c]? = some x → ∃ v, us[i * n + c]? = some v ∧ v.oneCell' = true ∧ VRel J (Own h J) w x v) :
    HRel gl (h ++ [.cells n es]) (J ++ [⟨w.heap.size, 0, n, cap⟩]) (w.alloc (.cells us T)) ∧ Evo h J w (h ++ [.cells n es]) (J ++ [⟨w.heap.size, 0, n, cap⟩]) (w.alloc (.cells us T)) := by
  refine hh.alloc _ _ _ rfl fun J' O' hm => ⟨rfl, hn, hcap, hl, us, T, heap_alloc_new w _, by simpa using hsz, fun i e c x hi hx => ?_⟩
  obtain ⟨v, h1, h2, h3⟩ := hr i e c x hi hx
  exact ⟨v, by simpa using h1, h2, hm x v h3⟩

theorem alloc_last (hh : HRel gl h J w) (k : Blk) : (J ++ [k])[h.length]? = some k := by
  rw [← hh.len]; simp

/-- A variable of its own. -/
theorem box_steps (hh : HRel gl h J w) {t : TypeId} {x : AV} {u : Value} (hx : VRel J (Own h J) w x u) (hs : x.solid = true) (hl : 0 < (acells x).length) {R : AV → AHeap → Prop} (hR : R (.ptr h.length 0 0) (h ++ [.cells (acells x).length [acells x]])) :
    Steps1 P gl h J w (Instr.box t u) R := by
  obtain ⟨hc1, hc2⟩ := cells_sound hx hs
  have hlen := hc1.1
  obtain ⟨h1, h2⟩ := alloc_cells hh t u.cells [acells x] (acells x).length 1 hl (by simp) (by rw [hlen]; simp) (by intro i e hi; cases i <;> simp at hi; simp [hi]) (by
    intro i e c y hi hy
    cases i with
    | zero =>
      simp at hi
      subst hi
      have hlt : c < u.cells.toList.length := by rw [← hlen]; exact (List.getElem?_eq_some_iff.1 hy).1
      have hu : u.cells.toList[c]? = some (u.cells.toList[c]'hlt) := List.getElem?_eq_getElem hlt
      refine ⟨u.cells.toList[c]'hlt, ?_, hc2 _ (List.getElem_mem hlt), hc1.2 c _ _ hy hu⟩
      rw [Nat.zero_mul, Nat.zero_add, ← hu]
      simp
    | succ i => simp at hi)
  refine ⟨_, _, _, _, _, rfl, h1, ?_, h2, hR⟩
  have := VRel.ptr (J := J ++ [⟨w.heap.size, 0, (acells x).length, 1⟩]) (O := Own (h ++ [.cells (acells x).length [acells x]]) (J ++ [⟨w.heap.size, 0, (acells x).length, 1⟩])) (w := w.alloc (.cells u.cells t)) h.length 0 0 _ (alloc_last hh _)
  simpa using this

theorem alloc_steps (hh : HRel gl h J w) {t : TypeId} (ht : (tinfo P t).ok = true) (hz : (tinfo P t).zok = true) (hl : 0 < (tinfo P t).zero.length) {R : AV → AHeap → Prop} (hR : R (.ptr h.length 0 0) (h ++ [.cells (tinfo P t).zero.length [(tinfo P t).zero]])) :
    Steps1 P gl h J w (Instr.alloc t true (.tuple #[])) R := by
  obtain ⟨z, hz1, hz2, hz3, hz4⟩ := run_zeroValue' ht hz w
  have hzr := vrels_ofV1 (J := J) (O := Own h J) (w := w) hz2
  rw [← hz3] at hzr
  have hlen := hzr.1
  obtain ⟨h1, h2⟩ := alloc_cells hh t z.cells [(tinfo P t).zero] (tinfo P t).zero.length 1 hl (by simp) (by rw [hlen]; simp) (by intro i e hi; cases i <;> simp at hi; simp [hi]) (by
    intro i e c y hi hy
    cases i with
    | zero =>
      simp at hi
      subst hi
      have hlt : c < z.cells.toList.length := by rw [← hlen]; exact (List.getElem?_eq_some_iff.1 hy).1
      have hu : z.cells.toList[c]? = some (z.cells.toList[c]'hlt) := List.getElem?_eq_getElem hlt
      refine ⟨z.cells.toList[c]'hlt, ?_, hz2 _ (List.getElem_mem hlt), hzr.2 c _ _ hy hu⟩
      rw [Nat.zero_mul, Nat.zero_add, ← hu]
      simp
    | succ i => simp at hi)
  refine ⟨.pointer (some ⟨w.heap.size, 0, none⟩), w.alloc (.cells z.cells t), _, _, _, ?_, h1, ?_, h2, hR⟩
  · simp only [Instr.alloc, Sem.run_bind, hz1, Result.andThen_ok]; rfl
  · have := VRel.ptr (J := J ++ [⟨w.heap.size, 0, (tinfo P t).zero.length, 1⟩]) (O := Own (h ++ [.cells (tinfo P t).zero.length [(tinfo P t).zero]]) (J ++ [⟨w.heap.size, 0, (tinfo P t).zero.length, 1⟩])) (w := w.alloc (.cells z.cells t)) h.length 0 0 _ (alloc_last hh _)
    simpa using this

/-! ### Stores -/

theorem run_storeCells' (r off : Nat) (T : TypeId) : ∀ (us : List Value) (i : Nat) (cur : Array Value) (w : World), w.heap[r]? = some (.cells cur T (0, 0)) → off + i + us.length ≤ cur.size → (∀ v ∈ us, v.oneCell' = true) →
    ∃ (w' : World) (new : Array Value), (storeCells ⟨r, off, none⟩ us i).run P w = .ok () w' ∧ w'.heap[r]? = some (.cells new T (0, 0)) ∧ new.size = cur.size ∧
      (∀ j, new[j]? = if off + i ≤ j ∧ j < off + i + us.length then us[j - (off + i)]? else cur[j]?) ∧ (∀ b, b ≠ r → w'.heap[b]? = w.heap[b]?) ∧ w'.heap.size = w.heap.size ∧ w'.os = w.os ∧ w'.tape = w.tape ∧ w'.output = w.output
  | [], i, cur, w, hw, _, _ => ⟨w, cur, rfl, hw, rfl, fun j => by rw [if_neg (by simp only [List.length_nil]; omega)], fun _ _ => rfl, rfl, rfl, rfl, rfl⟩
  | v :: us, i, cur, w, hw, hle, h1 => by
    simp only [List.length_cons] at hle
    have hlt : off + i < cur.size := by omega
    have hcell : w.cell? ⟨r, off + i, none⟩ = some cur[off + i] := by rw [cell_of_heap hw]; exact Array.getElem?_eq_getElem hlt
    have hfz : w.frozen? ⟨r, off + i, none⟩ = false := frozen_of_row w r (off + i) cur T hw
    have hst : (store ⟨r, off + i, none⟩ v).run P w = .ok () (w.setCell ⟨r, off + i, none⟩ v) := by
      rw [run_store P w _ v _ (h1 v (by simp)), hcell, hfz]; rfl
    have hw1 := heap_setCell_same w r (off + i) cur T v hw
    obtain ⟨w', new, e1, e2, e3, e4, e5, e6, e7, e8, e9⟩ := run_storeCells' r off T us (i + 1) (cur.setIfInBounds (off + i) v) (w.setCell ⟨r, off + i, none⟩ v) hw1 (by simp; omega) (fun u hu => h1 u (by simp [hu]))
    refine ⟨w', new, ?_, e2, by rw [e3]; simp, ?_, ?_, by rw [e6]; simp, by rw [e7]; rfl, by rw [e8]; rfl, by rw [e9]; rfl⟩
    · simp only [storeCells, add_mk, Sem.run_bind, hst, Result.andThen_ok, e1]
    · intro j
      rw [e4 j]
      by_cases hj : off + (i + 1) ≤ j ∧ j < off + (i + 1) + us.length
      · rw [if_pos hj, if_pos (by simp; omega), show j - (off + i) = (j - (off + (i + 1))) + 1 by omega, List.getElem?_cons_succ]
      · rw [if_neg hj]
        by_cases hj2 : off + i = j
        · subst hj2
          rw [if_pos (by simp), Array.getElem?_setIfInBounds_self_of_lt hlt]
          simp
        · rw [if_neg (by simp; omega), Array.getElem?_setIfInBounds_ne hj2]
    · intro b hb
      rw [e5 b hb, heap_setCell_other w _ b v hb]

/-- A block's content, some cells of one element written. -/
def hput (h : AHeap) (b i c : Nat) (cs : List AV) : AHeap := h.set b (.cells (hsz h b) ((hcells h b).set i (splice ((hcells h b).getD i []) c cs)))

theorem idx_ne {i i' n c c' : Nat} (hc : c < n) (hc' : c' < n) (h : i ≠ i') : i * n + c ≠ i' * n + c' := by
  intro e
  rcases Nat.lt_or_gt_of_ne h with hlt | hlt
  · have : (i + 1) * n ≤ i' * n := Nat.mul_le_mul_right n hlt
    rw [Nat.add_mul] at this
    omega
  · have : (i' + 1) * n ≤ i * n := Nat.mul_le_mul_right n hlt
    rw [Nat.add_mul] at this
    omega

theorem store_steps (hh : HRel gl h J w) {t : TypeId} {b i c : Nat} {x : AV} {p u : Value} (ht : (tinfo P t).ok = true) (hp : VRel J (Own h J) w (.ptr b i c) p) (hx : VRel J (Own h J) w x u) (hs : x.solid = true)
    (hl : (acells x).length = (tinfo P t).cells) (hi : i < (hcells h b).length) (hc : c + (tinfo P t).cells ≤ ((hcells h b).getD i []).length) {R : AHeap → Prop} (hR : R (hput h b i c (acells x))) :
    Steps0 P gl h J w (Instr.storeAt t p u) R := by
  obtain ⟨hc1, hc2⟩ := cells_sound hx hs
  have hlen := hc1.1
  have hg : (hcells h b)[i]? = some ((hcells h b).getD i []) := by simp [List.getD, List.getElem?_eq_getElem hi]
  obtain ⟨k, hk, rfl, hkl, _⟩ := erow_ptr hh hp hg
  have hp0 : 0 < hsz h b := by
    unfold hcells at hi
    unfold hsz
    split at hi
    · rename_i n' es he'
      obtain ⟨hkn, hn, _⟩ := hh.obj b k _ hk he'
      first | omega | (simp only [he']; omega)
    · simp at hi
  obtain ⟨es, he, hsz0, hes⟩ := hsz_n hh hk hp0
  rw [hes] at hi hc hg hkl
  obtain ⟨_, hn, hcap, hlens, vs, T, hheap, hsz, hcell⟩ := hh.obj b k _ hk he
  have hle : i * k.n + k.n ≤ k.cap * k.n := by
    have h1 : (i + 1) * k.n ≤ k.cap * k.n := Nat.mul_le_mul_right k.n (by omega)
    rwa [Nat.add_mul, Nat.one_mul] at h1
  obtain ⟨w', new, e1, e2, e3, e4, e5, e6, e7, e8, e9⟩ := run_storeCells' (P := P) k.r (k.base + (i * k.n + c)) T u.cells.toList 0 vs w hheap (by rw [← hlen]; omega) hc2
  have hput_eq : hput h b i c (acells x) = h.set b (.cells k.n (es.set i (splice (es.getD i []) c (acells x)))) := by simp [hput, hes, hsz0]
  have hsl : c + (acells x).length ≤ (es.getD i []).length := by omega
  obtain ⟨r1, r2⟩ := hh.set (o' := .cells k.n es) (k := k) (w' := w') (.cells k.n (es.set i (splice (es.getD i []) c (acells x)))) hk he (by simp) e6 e5 e7 e8 e9 (by
    intro O' hm
    refine ⟨rfl, hn, by simpa using hcap, ?_, new, T, e2, by omega, ?_⟩
    · intro i' e hi'
      by_cases hii : i = i'
      · subst hii
        rw [List.getElem?_set_self hi] at hi'
        injection hi' with hi'
        rw [← hi', length_splice' _ _ _ hsl]
        exact hkl
      · rw [List.getElem?_set_ne hii] at hi'
        exact hlens i' e hi'
    · intro i' e c' y hi' hy
      by_cases hii : i = i'
      · subst hii
        rw [List.getElem?_set_self hi] at hi'
        injection hi' with hi'
        subst hi'
        rw [getElem?_splice _ _ _ hsl] at hy
        split at hy
        · rename_i hcc
          have hlt : c' - c < u.cells.toList.length := by rw [← hlen]; omega
          have hu : u.cells.toList[c' - c]? = some (u.cells.toList[c' - c]'hlt) := List.getElem?_eq_getElem hlt
          refine ⟨u.cells.toList[c' - c]'hlt, ?_, hc2 _ (List.getElem_mem hlt), hm _ _ (hc1.2 _ _ _ hy hu)⟩
          rw [e4, if_pos (by rw [← hlen]; omega), ← hu]
          congr 1
          omega
        · rename_i hcc
          have hlt' : c' < k.n := by
            have h1 := (List.getElem?_eq_some_iff.1 hy).1
            omega
          obtain ⟨v, p1, p2, p3⟩ := hcell i _ c' y hg hy
          refine ⟨v, ?_, p2, hm _ _ p3⟩
          rw [e4, if_neg (by rw [← hlen]; omega)]
          exact p1
      · rw [List.getElem?_set_ne hii] at hi'
        obtain ⟨v, p1, p2, p3⟩ := hcell i' e c' y hi' hy
        refine ⟨v, ?_, p2, hm _ _ p3⟩
        have hlt' : c' < k.n := by
          rw [← hlens i' e hi']
          exact (List.getElem?_eq_some_iff.1 hy).1
        rw [e4, if_neg ?_]
        · exact p1
        · intro hcc
          rw [← hlen] at hcc
          have h2 : c + (acells x).length ≤ k.n := by omega
          have := idx_ne (i := i) (i' := i') (n := k.n) (c := k.base + (i' * k.n + c') - (k.base + (i * k.n))) (c' := c') (by omega) hlt' hii
          omega)
  refine ⟨w', J, _, ?_, by rw [hput_eq]; exact r1, by rw [hput_eq]; exact r2, hR⟩
  have hsc : (storeCells ((⟨k.r, k.base + i * k.n, none⟩ : Addr).add c) u.cells.toList).run P w = .ok () w' := by
    rw [add_mk, show k.base + i * k.n + c = k.base + (i * k.n + c) by omega]
    exact e1
  have hss : u.cells.size = (tinfo P t).cells := by rw [← hl, hlen]; simp
  simp only [Instr.storeAt, Instr.sureAddr, Sem.run_bind, Sem.run_pure, Result.andThen_ok, storeVar, run_sizeOf' ht, hss]
  simp only [ne_eq, not_true_eq_false, if_false]
  exact hsc
end
end Go.Abs
