/-
  Slices that are made and that grow.
-/
import Derived.Test.YtcbaojkchiphkaaAbsHop
set_option linter.unusedVariables false
set_option linter.unusedSimpArgs false
namespace Go.Abs
open Go

section
variable {P : Program} {gl : Globs} {J : List Blk} {h : AHeap} {w : World} {O : Nat → Prop} {fr : AFrame} {N : Nat}

theorem alloc_own (hh : HRel gl h J w) (es : List (List AV)) (n cap : Nat) (w' : World) (o : AObj) (hcap : es.length ≤ cap) : VRel (J ++ [⟨w.heap.size, 0, n, cap⟩]) (Own (h ++ [o]) (J ++ [⟨w.heap.size, 0, n, cap⟩])) w' (.own h.length 0 es.length) (.slice (some ⟨w.heap.size, 0, none⟩) es.length cap) :=
  .own _ _ _ ⟨w.heap.size, 0, n, cap⟩ _ _ (alloc_last hh _) (fun _ => by simp) hcap (by simp)

/-- The parts of a slice's literal, from 's' on. -/
def partsOk (n : Nat) : Nat → List (Nat × AV) → Prop
  | _, [] => True
  | s, (i, x) :: ps => i = s ∧ x.solid = true ∧ (acells x).length = n ∧ partsOk n (s + 1) ps

theorem abuildA_get {n : Nat} : ∀ (ps : List (Nat × AV)) (s : Nat) (cs : List AV), partsOk n s ps → (s + ps.length) * n ≤ cs.length → ∀ i c, c < n → i < s + ps.length →
    (abuildA n ps cs)[i * n + c]? = if i < s then cs[i * n + c]? else ((ps[i - s]?).map fun p => acells p.2).bind (·[c]?)
  | [], s, cs, _, _, i, c, hc, hi => by simp only [List.length_nil, Nat.add_zero] at hi; rw [if_pos hi]; rfl
  | (i0, x) :: ps, s, cs, hok, hl, i, c, hc, hi => by
    obtain ⟨rfl, hs, hlen, hok'⟩ := hok
    simp only [List.length_cons] at hl hi
    have hfit : i0 * n + (acells x).length ≤ cs.length := by
      rw [hlen]
      have : (i0 + 1) * n ≤ (i0 + (ps.length + 1)) * n := Nat.mul_le_mul_right n (by omega)
      rw [Nat.add_mul, Nat.one_mul] at this
      omega
    have hl' : (i0 + 1 + ps.length) * n ≤ (splice cs (i0 * n) (acells x)).length := by
      rw [length_splice' _ _ _ hfit, show i0 + 1 + ps.length = i0 + (ps.length + 1) by omega]; exact hl
    have ih := abuildA_get ps (i0 + 1) (splice cs (i0 * n) (acells x)) hok' hl' i c hc (by omega)
    simp only [abuildA]
    rw [ih]
    by_cases h1 : i < i0
    · rw [if_pos (by omega), if_pos h1, getElem?_splice _ _ _ hfit, if_neg ?_]
      have : (i + 1) * n ≤ i0 * n := Nat.mul_le_mul_right n h1
      rw [Nat.add_mul, Nat.one_mul] at this
      omega
    · by_cases h2 : i = i0
      · subst h2
        rw [if_pos (by omega), if_neg (by omega), getElem?_splice _ _ _ hfit, if_pos (by omega)]
        simp
      · rw [if_neg (by omega), if_neg h1, show i - i0 = (i - (i0 + 1)) + 1 by omega, List.getElem?_cons_succ]

theorem partsA {n : Nat} : ∀ (ps : List (Nat × AV)) (s : Nat) (total : Nat), partsOk n s ps → (s + ps.length) * n ≤ total → buildAOk n total ps
  | [], _, _, _, _ => trivial
  | (i, x) :: ps, s, total, hok, hl => by
    obtain ⟨rfl, hs, hlen, hok'⟩ := hok
    simp only [List.length_cons] at hl
    have : (i + 1) * n ≤ (i + (ps.length + 1)) * n := Nat.mul_le_mul_right n (by omega)
    rw [Nat.add_mul, Nat.one_mul] at this
    exact ⟨hs, hlen, by omega, partsA ps (i + 1) total hok' (by rw [show i + 1 + ps.length = i + (ps.length + 1) by omega]; exact hl)⟩

theorem parts_len {n : Nat} : ∀ (ps : List (Nat × AV)) (s : Nat), partsOk n s ps → ∀ (i : Nat) (e : List AV), (ps.map fun p => acells p.2)[i]? = some e → e.length = n
  | [], _, _, i, e, h => by simp at h
  | (j, x) :: ps, s, hok, i, e, h => by
    obtain ⟨rfl, hs, hlen, hok'⟩ := hok
    cases i with
    | zero => simp at h; rw [← h]; exact hlen
    | succ i => exact parts_len ps (j + 1) hok' i e (by simpa using h)

theorem zeros_get (z : Array Value) (m j : Nat) (hj : j < m) : ((Array.range m).map (z[· % z.size]!))[j]? = some (z[j % z.size]!) := by
  simp [hj]

/-- What is asked of a slice's literal. -/
def buildSliceOk (P : Program) (t : TypeId) (len : Nat) (ps : List (Nat × AV)) : Prop := match (tinfo P t).kind with
  | .slice e => zeroOk (tinfo P e) ∧ 0 < (tinfo P e).cells ∧ ps.length = len ∧ len * (tinfo P e).cells ≤ 16777216 ∧ partsOk (tinfo P e).cells 0 ps
  | _ => False

theorem buildSlice_steps (hh : HRel gl h J w) {t : TypeId} {len : Nat} {ps : List (Nat × AV)} {qs : Array (Nat × Value)} (hps : PRels J (Own h J) w ps qs.toList) (hok : buildSliceOk P t len ps) {R : AV → AHeap → Prop}
    (hR : R (.own h.length 0 len) (h ++ [.cells (elemCells P t) (ps.map fun p => acells p.2)])) : Steps1 P gl h J w (Instr.buildSlice t len qs) R := by
  unfold buildSliceOk at hok
  split at hok
  · rename_i e hk
    obtain ⟨hz, hpos, hlen, hsz, hpo⟩ := hok
    have hec : elemCells P t = (tinfo P e).cells := by simp [elemCells, hk]
    rw [hec] at hR
    obtain ⟨hu, _⟩ := kind_slice hk
    obtain ⟨heok, hezok, hzl⟩ := hz
    obtain ⟨z, hz1, hz2, hz3, hz4⟩ := run_zeroValue' heok hezok w
    have hzlen : z.cells.size = (tinfo P e).zero.length := by rw [hz3]; simp
    have hzpos : 0 < z.cells.size := by
      rw [hzlen, hzl]
      exact hpos
    -- the zeros
    have hzero : ∀ j, (z.cells[j % z.cells.size]!).oneCell' = true ∧ VRel J (Own h J) w (ofV1 (z.cells[j % z.cells.size]!)) (z.cells[j % z.cells.size]!) := by
      intro j
      have hlt : j % z.cells.size < z.cells.size := Nat.mod_lt _ hzpos
      have hm : (z.cells[j % z.cells.size]!) ∈ z.cells.toList := by
        rw [getElem!_pos z.cells (j % z.cells.size) hlt]
        exact Array.getElem_mem_toList hlt
      exact ⟨hz2 _ hm, vrel_ofV1 (hz2 _ hm)⟩
    let zs : Array Value := (Array.range (len * (tinfo P e).cells)).map (z.cells[· % z.cells.size]!)
    have hzs : VRels J (Own h J) w (zs.toList.map ofV1) zs.toList ∧ ∀ v ∈ zs.toList, v.oneCell' = true := by
      have h1 : ∀ v ∈ zs.toList, v.oneCell' = true := by
        intro v hv
        simp only [zs, Array.toList_map, List.mem_map] at hv
        obtain ⟨j, _, rfl⟩ := hv
        exact (hzero j).1
      exact ⟨vrels_ofV1 h1, h1⟩
    have hzslen : (zs.toList.map ofV1).length = len * (tinfo P e).cells := by simp [zs]
    obtain ⟨vs', e1, e2, e3⟩ := fillA_sound (place := fun i => some (i * (tinfo P e).cells, (tinfo P e).cells)) (n := (tinfo P e).cells) (cells := len * (tinfo P e).cells) (fun i => rfl) ps qs.toList _ zs.toList hps hzs.1 hzs.2 hzslen
      (partsA ps 0 _ hpo (by rw [Nat.zero_add, hlen]; exact Nat.le_refl _))
    have hvl : vs'.length = len * (tinfo P e).cells := by
      rw [← e2.1]
      -- the length of abuildA
      have : ∀ (ps : List (Nat × AV)) (cs : List AV), buildAOk (tinfo P e).cells cs.length ps → (abuildA (tinfo P e).cells ps cs).length = cs.length := by
        intro ps
        induction ps with
        | nil => intro cs _; rfl
        | cons p ps ih =>
          intro cs hb
          obtain ⟨i, x⟩ := p
          obtain ⟨b1, b2, b3, b4⟩ := hb
          simp only [abuildA]
          have hs := length_splice' cs (i * (tinfo P e).cells) (acells x) (by omega)
          rw [ih _ (by rw [hs]; exact b4), hs]
      rw [this ps _ (by rw [hzslen]; exact partsA ps 0 _ hpo (by rw [Nat.zero_add, hlen]; exact Nat.le_refl _)), hzslen]
    have hes : (ps.map fun p => acells p.2).length = len := by simp [hlen]
    obtain ⟨r1, r2⟩ := alloc_cells hh e vs'.toArray (ps.map fun p => acells p.2) (tinfo P e).cells len hpos (by omega) (by simp [hvl]) (parts_len ps 0 hpo) (by
      intro i ee c x hi hx
      have hcl : c < (tinfo P e).cells := by
        rw [← parts_len ps 0 hpo i ee hi]
        exact (List.getElem?_eq_some_iff.1 hx).1
      have hil : i < len := by
        rw [← hes]
        exact (List.getElem?_eq_some_iff.1 hi).1
      have hg := abuildA_get ps 0 (zs.toList.map ofV1) hpo (by rw [hzslen, Nat.zero_add, hlen]; exact Nat.le_refl _) i c hcl (by omega)
      rw [if_neg (by omega), Nat.sub_zero] at hg
      have hg2 : (abuildA (tinfo P e).cells ps (zs.toList.map ofV1))[i * (tinfo P e).cells + c]? = some x := by
        rw [hg]
        rw [List.getElem?_map] at hi
        rw [hi]
        exact hx
      have hlt : i * (tinfo P e).cells + c < vs'.length := by rw [← e2.1]; exact (List.getElem?_eq_some_iff.1 hg2).1
      have hv : vs'[i * (tinfo P e).cells + c]? = some (vs'[i * (tinfo P e).cells + c]'hlt) := List.getElem?_eq_getElem hlt
      exact ⟨_, by rw [List.getElem?_toArray]; exact hv, e3 _ (List.getElem_mem hlt), e2.2 _ _ _ hg2 hv⟩)
    refine ⟨.slice (some ⟨w.heap.size, 0, none⟩) len len, _, _, _, _, ?_, r1, ?_, r2, hR⟩
    · have hif : ¬ (len * (tinfo P e).cells > 2 ^ 24) := by omega
      simp only [Instr.buildSlice, Sem.run_bind, run_underlying hu, Result.andThen_ok, run_sizeOf' heok, Sem.run_ite, if_neg hif, Sem.run_pure]
      have hzz : (if len * (tinfo P e).cells = 0 then (pure #[] : Sem (Array Value)) else do pure (← zeroValue e).cells).run P w = .ok (if len * (tinfo P e).cells = 0 then #[] else z.cells) w := by
        split <;> simp [hz1]
      simp only [Sem.run_ite, Sem.run_pure, Sem.run_bind, hz1, Result.andThen_ok]
      by_cases h0 : len * (tinfo P e).cells = 0
      · have hl0 : len = 0 := by
          rcases Nat.mul_eq_zero.1 h0 with h | h
          · exact h
          · omega
        subst hl0
        have hp0 : ps = [] := List.eq_nil_of_length_eq_zero hlen
        subst hp0
        cases hq : qs.toList with
        | cons q l => rw [hq] at hps; exact hps.elim
        | nil =>
          have hv0 : vs' = [] := List.eq_nil_of_length_eq_zero (by rw [hvl]; omega)
          subst hv0
          simp only [if_pos h0, Result.andThen_ok]
          simp only [h0, Array.range_zero', Instr.fill, List.map_toArray, Array.map_empty]
          rfl
      · simp only [if_neg h0, Result.andThen_ok]
        have e1' : Instr.fill (fun i => some (i * (tinfo P e).cells, (tinfo P e).cells)) ((Array.range (len * (tinfo P e).cells)).map (z.cells[· % z.cells.size]!)) qs.toList = some vs'.toArray := by
          have : zs.toList.toArray = zs := by simp
          rw [this] at e1
          exact e1
        rw [e1']
        rfl
    · have := alloc_own hh (ps.map fun p => acells p.2) (tinfo P e).cells len (w.alloc (.cells vs'.toArray e)) (.cells (tinfo P e).cells (ps.map fun p => acells p.2)) (by omega)
      rw [hes] at this
      exact this
  · exact hok.elim
end
end Go.Abs
