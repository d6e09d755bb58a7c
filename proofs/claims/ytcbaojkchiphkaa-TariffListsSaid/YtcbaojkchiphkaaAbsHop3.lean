/-
  'append', 'make', and what a slice shows.
-/
import Derived.Test.YtcbaojkchiphkaaAbsHop2
import Derived.Laws.MakeOwn
set_option linter.unusedVariables false
set_option linter.unusedSimpArgs false
namespace Go.Abs
open Go

section
variable {P : Program} {gl : Globs} {J : List Blk} {h : AHeap} {w : World} {O : Nat → Prop} {fr : AFrame} {N : Nat}

/-- A slice (or a string) that is looked at whole. -/
def slOk (h : AHeap) : AV → Prop
  | .nil | .e0 | .ro _ | .str _ => True
  | .own b off len => off + len ≤ (hcells h b).length
  | _ => False

theorem rowsV {a : Addr} {es : List (List AV)} {size : Nat} (hsz : 0 < size) (hl : ∀ y ∈ es, y.length = size)
    (hc : ∀ (i : Nat) (e : List AV) (c : Nat) (y : AV), es[i]? = some e → e[c]? = some y → ∃ v, w.cell? (a.add (i * size + c)) = some v ∧ v.oneCell' = true ∧ VRel J O w y v) :
    ∃ us : List Value, (loadCells a (es.length * size)).run P w = .ok us.toArray w ∧ us.length = es.length * size ∧ (∀ v ∈ us, v.oneCell' = true) ∧
      ∀ (i : Nat) (e : List AV) (c : Nat) (y : AV), es[i]? = some e → e[c]? = some y → ∃ v, us[i * size + c]? = some v ∧ VRel J O w y v := by
  let f : Nat → Value := fun j => (w.cell? (a.add j)).getD undef
  have hf : ∀ j, j < es.length * size → ∃ v, w.cell? (a.add j) = some v ∧ v.oneCell' = true := by
    intro j hj
    have h1 : j / size < es.length := (Nat.div_lt_iff_lt_mul hsz).2 hj
    have h2 : j % size < size := Nat.mod_lt _ hsz
    have hi : es[j / size]? = some es[j / size] := List.getElem?_eq_getElem h1
    have hlen := hl _ (List.getElem_mem h1)
    have hy : es[j / size][j % size]? = some (es[j / size][j % size]'(by omega)) := List.getElem?_eq_getElem (by omega)
    obtain ⟨v, p1, p2, p3⟩ := hc _ _ _ _ hi hy
    refine ⟨v, ?_, p2⟩
    rw [← p1, Nat.mul_comm (j / size) size, Nat.div_add_mod]
  refine ⟨(List.range (es.length * size)).map f, ?_, by simp, ?_, ?_⟩
  · rw [run_loadCells w a _ f (fun j hj => by obtain ⟨v, p1, _⟩ := hf j hj; simp [f, p1])]
  · intro v hv
    obtain ⟨j, hj, rfl⟩ := List.mem_map.1 hv
    obtain ⟨v, p1, p2⟩ := hf j (List.mem_range.1 hj)
    simp [f, p1, p2]
  · intro i e c y hi hy
    obtain ⟨v, p1, p2, p3⟩ := hc i e c y hi hy
    have hil : i < es.length := (List.getElem?_eq_some_iff.1 hi).1
    have hcl : c < size := by
      rw [← hl e (List.mem_of_getElem? hi)]
      exact (List.getElem?_eq_some_iff.1 hy).1
    have hlt : i * size + c < es.length * size := by
      have : (i + 1) * size ≤ es.length * size := Nat.mul_le_mul_right size hil
      rw [Nat.add_mul, Nat.one_mul] at this
      omega
    refine ⟨v, ?_, p3⟩
    simp [f, hlt, p1]

theorem elems_sound (hh : HRel gl h J w) {x : AV} {u : Value} {size : Nat} (hsz : 0 < size) (hx : VRel J (Own h J) w x u) (hk : slOk h x) (hl : ∀ y ∈ aelems h x, y.length = size) :
    ∃ us : List Value, (Builtin.lenOf u).run P w = .ok (aelems h x).length w ∧ (Builtin.firstCells size (aelems h x).length u).run P w = .ok us.toArray w ∧ us.length = (aelems h x).length * size ∧ (∀ v ∈ us, v.oneCell' = true) ∧
      ∀ (i : Nat) (e : List AV) (c : Nat) (y : AV), (aelems h x)[i]? = some e → e[c]? = some y → ∃ v, us[i * size + c]? = some v ∧ VRel J (Own h J) w y v := by
  unfold slOk at hk
  split at hk
  · cases hx
    exact ⟨[], rfl, rfl, by simp [aelems], by simp, by simp [aelems]⟩
  · cases hx with
    | e0 a =>
      refine ⟨[], rfl, ?_, by simp [aelems], by simp, by simp [aelems]⟩
      cases a with
      | none => rfl
      | some a => simp [Builtin.firstCells, aelems, loadCells, loadCellsFrom]
  · rename_i es
    simp only [aelems] at hl ⊢
    cases hx with
    | roNil => exact ⟨[], rfl, rfl, by simp, by simp, by simp⟩
    | ro _ a n cap f hcap hn hO hl0 hc h1 hr =>
      by_cases hes : es = []
      · subst hes
        refine ⟨[], rfl, ?_, by simp, by simp, by simp⟩
        simp [Builtin.firstCells, loadCells, loadCellsFrom]
      · have hns : n = size := by
          obtain ⟨y, ys, rfl⟩ := List.exists_cons_of_ne_nil hes
          rw [← hl y (by simp), hl0 0 y rfl]
        subst hns
        obtain ⟨us, p1, p2, p3, p4⟩ := rowsV (P := P) (J := J) (O := Own h J) (w := w) (a := a) hn hl (fun i e c y hi hy => ⟨f i c, hc i e c y hi hy, h1 i e c y hi hy, hr i e c y hi hy⟩)
        exact ⟨us, rfl, by simp only [Builtin.firstCells]; exact p1, p2, p3, p4⟩
  · rename_i s
    simp only [aelems] at hl ⊢
    cases hx
    have hs1 : size = 1 ∨ s = [] := by
      cases s with
      | nil => exact .inr rfl
      | cons c s => left; have := hl [.int .u8 (c.toNat : Int)] (by simp); simpa using this.symm
    refine ⟨s.map fun c => Value.int .u8 (c.toNat : Int), ?_, ?_, ?_, ?_, ?_⟩
    · simp [Builtin.lenOf, ByteArray.size]
    · simp only [Builtin.firstCells, Sem.run_pure, List.length_map]
      congr 1
      have : (⟨s.toArray⟩ : ByteArray).extract 0 s.length = ⟨s.toArray⟩ := by
        apply ByteArray.ext
        simp [ByteArray.data_extract]
      rw [this]
      simp
    · rcases hs1 with rfl | rfl <;> simp
    · intro v hv
      obtain ⟨c, _, rfl⟩ := List.mem_map.1 hv
      rfl
    · intro i e c y hi hy
      simp only [List.getElem?_map, Option.map_eq_some_iff] at hi
      obtain ⟨b, hb, rfl⟩ := hi
      cases c with
      | succ c => simp at hy
      | zero =>
        simp at hy
        subst hy
        rcases hs1 with rfl | rfl
        · exact ⟨_, by simp [hb], .int _ _⟩
        · simp at hb
  · rename_i b off len
    simp only [aelems] at hl ⊢
    have hlen : (((hcells h b).drop off).take len).length = len := by simp; omega
    cases hx with
    | own _ _ _ k a cap hb ha hle hcap =>
      by_cases hl0 : len = 0
      · subst hl0
        refine ⟨[], by simp [Builtin.lenOf], ?_, by simp, by simp, by simp⟩
        simp [Builtin.firstCells, loadCells, loadCellsFrom]
      · have ha' := ha (by omega)
        have h0 : 0 < (hcells h b).length := by omega
        obtain ⟨n0, es, he, hes⟩ : ∃ n0 es, h[b]? = some (.cells n0 es) ∧ hcells h b = es := by
          unfold hcells at h0 ⊢
          split at h0
          · rename_i n0 es he; exact ⟨n0, es, he, by simp [he]⟩
          · simp at h0
        rw [hes] at hl hlen h0 hk ⊢
        obtain ⟨_, hn, hcap', hlens, vs, T, hheap, hvsz, hcell⟩ := hh.obj b k _ hb he
        have sub : ∀ (i : Nat) (e : List AV), ((es.drop off).take len)[i]? = some e → es[off + i]? = some e := by
          intro i e hi
          rw [List.getElem?_take] at hi
          split at hi
          · rwa [List.getElem?_drop] at hi
          · cases hi
        have hns : k.n = size := by
          have hg : ((es.drop off).take len)[0]? = some (es[off]'(by omega)) := by
            rw [List.getElem?_take_of_lt (by omega), List.getElem?_drop, Nat.add_zero]
            exact List.getElem?_eq_getElem (by omega)
          rw [← hl _ (List.mem_of_getElem? hg), hlens off _ (sub 0 _ hg)]
        obtain ⟨us, p1, p2, p3, p4⟩ := rowsV (P := P) (J := J) (O := Own h J) (w := w) (a := a) (es := (es.drop off).take len) hsz hl (fun i e c y hi hy => by
          obtain ⟨v, q1, q2, q3⟩ := hcell (off + i) e c y (sub i e hi) hy
          refine ⟨v, ?_, q2, q3⟩
          rw [ha', add_mk, cell_of_heap hheap, ← q1, hns, Nat.add_mul]
          congr 1
          omega)
        refine ⟨us, by simp [Builtin.lenOf, hlen], ?_, p2, p3, p4⟩
        simp only [Builtin.firstCells]
        exact p1
  · exact hk.elim

/-- What is asked of 'append'. -/
def appendOk (P : Program) (h : AHeap) (ts : List TypeId) (s x : AV) : Prop := match ts with
  | [t, u] => (match (tinfo P u).kind with | .int _ => False | _ => True) ∧ (tinfo P u).ok = true ∧ match (tinfo P t).kind with
    | .slice e => zeroOk (tinfo P e) ∧ 0 < (tinfo P e).cells ∧ (match s with | .own b _ _ => hsz h b = (tinfo P e).cells | _ => True) ∧ slOk h s ∧ slOk h x ∧ (∀ y ∈ aelems h s, y.length = (tinfo P e).cells) ∧ (∀ y ∈ aelems h x, y.length = (tinfo P e).cells) ∧
      ((aelems h s).length + (aelems h x).length) * (tinfo P e).bytes ≤ 140737488355328 ∧ (aelems h s).length + (aelems h x).length ≤ 140737488355328
    | _ => False
  | _ => False
/-- What 'append' leaves. -/
def appendK (n : Nat) (h : AHeap) (s x : AV) (k : AV → AHeap → Prop) : Prop := match s with
  | .nil => (aelems h x = [] → k .nil h) ∧ (aelems h x ≠ [] → k (.own h.length 0 (aelems h x).length) (h ++ [.cells n (aelems h x)]))
  | .e0 => (aelems h x = [] → k .e0 h) ∧ (aelems h x ≠ [] → k (.own h.length 0 (aelems h x).length) (h ++ [.cells n (aelems h x)]))
  | .own b _ _ => k (.own h.length 0 ((aelems h s).length + (aelems h x).length)) (h.set b .dead ++ [.cells n (aelems h s ++ aelems h x)])
  | _ => False

theorem append_rel {es ys : List (List AV)} {us vs zs : List Value} {n : Nat} (hu : us.length = es.length * n) (h1 : ∀ v ∈ us, v.oneCell' = true) (h2 : ∀ v ∈ vs, v.oneCell' = true) (hes : ∀ y ∈ es, y.length = n)
    (he : ∀ (i : Nat) (e : List AV) (c : Nat) (y : AV), es[i]? = some e → e[c]? = some y → ∃ v, us[i * n + c]? = some v ∧ VRel J O w y v)
    (hy : ∀ (i : Nat) (e : List AV) (c : Nat) (y : AV), ys[i]? = some e → e[c]? = some y → ∃ v, vs[i * n + c]? = some v ∧ VRel J O w y v) :
    ∀ (i : Nat) (e : List AV) (c : Nat) (y : AV), (es ++ ys)[i]? = some e → e[c]? = some y → ∃ v, (us ++ (vs ++ zs))[i * n + c]? = some v ∧ v.oneCell' = true ∧ VRel J O w y v := by
  intro i e c y hi hx
  rcases Nat.lt_or_ge i es.length with h | h
  · rw [List.getElem?_append_left h] at hi
    obtain ⟨v, p1, p2⟩ := he i e c y hi hx
    exact ⟨v, by rw [List.getElem?_append_left (List.getElem?_eq_some_iff.1 p1).1]; exact p1, h1 _ (List.mem_of_getElem? p1), p2⟩
  · rw [List.getElem?_append_right h] at hi
    obtain ⟨v, p1, p2⟩ := hy _ e c y hi hx
    refine ⟨v, ?_, h2 _ (List.mem_of_getElem? p1), p2⟩
    have e1 : i * n + c = us.length + ((i - es.length) * n + c) := by
      rw [hu]
      have : i * n = es.length * n + (i - es.length) * n := by rw [← Nat.add_mul]; congr 1; omega
      omega
    rw [e1, List.getElem?_append_right (by omega), Nat.add_sub_cancel_left, List.getElem?_append_left (List.getElem?_eq_some_iff.1 p1).1]
    exact p1

/-- 'append' where it must grow. -/
theorem grow_steps (hh : HRel gl h J w) {e : TypeId} (hz : zeroOk (tinfo P e)) (hpos : 0 < (tinfo P e).cells) {s x : AV} {us ux : Value} {h1 : AHeap} (hh1 : HRel gl h1 J w.drew) (ev1 : Evo h J w h1 J w.drew)
    (hs : VRel J (Own h J) w s us) (hx : VRel J (Own h J) w x ux) (hks : slOk h s) (hkx : slOk h x) (hls : ∀ y ∈ aelems h s, y.length = (tinfo P e).cells) (hlx : ∀ y ∈ aelems h x, y.length = (tinfo P e).cells)
    (cap : Nat) (hcap : (aelems h s).length + (aelems h x).length ≤ cap) :
    ∃ (olds news : Array Value) (z : Value), (Builtin.firstCells (tinfo P e).cells (aelems h s).length us).run P w.drew = .ok olds w.drew ∧ (Builtin.firstCells (tinfo P e).cells (aelems h x).length ux).run P w.drew = .ok news w.drew ∧ (zeroValue e).run P w.drew = .ok z w.drew ∧
      HRel gl (h1 ++ [.cells (tinfo P e).cells (aelems h s ++ aelems h x)]) (J ++ [⟨w.heap.size, 0, (tinfo P e).cells, cap⟩]) (w.drew.alloc (.cells (olds ++ news ++ Builtin.zeroCells z.cells (cap - ((aelems h s).length + (aelems h x).length))) e)) ∧
      Evo h J w (h1 ++ [.cells (tinfo P e).cells (aelems h s ++ aelems h x)]) (J ++ [⟨w.heap.size, 0, (tinfo P e).cells, cap⟩]) (w.drew.alloc (.cells (olds ++ news ++ Builtin.zeroCells z.cells (cap - ((aelems h s).length + (aelems h x).length))) e)) := by
  obtain ⟨hd, evd⟩ := hh.drew
  obtain ⟨os, _, o2, o3, o4, o5⟩ := elems_sound (P := P) hd hpos (hs.evo evd) hks hls
  obtain ⟨ns, _, n2, n3, n4, n5⟩ := elems_sound (P := P) hd hpos (hx.evo evd) hkx hlx
  obtain ⟨heok, hezok, hzl⟩ := hz
  obtain ⟨z, hz1, hz2, hz3, hz4⟩ := run_zeroValue' heok hezok w.drew
  have hcz : z.cells.size = (tinfo P e).cells := by
    have e1 : z.cells.size = (tinfo P e).zero.length := by rw [hz3]; simp
    rw [e1, hzl]
  have hlen : ((aelems h s ++ aelems h x)).length = (aelems h s).length + (aelems h x).length := by simp
  have hlenA : ∀ (i : Nat) (ee : List AV), (aelems h s ++ aelems h x)[i]? = some ee → ee.length = (tinfo P e).cells := by
    intro i ee hi
    rcases List.mem_append.1 (List.mem_of_getElem? hi) with h | h
    · exact hls _ h
    · exact hlx _ h
  have hcells : os.toArray ++ ns.toArray ++ Builtin.zeroCells z.cells (cap - ((aelems h s).length + (aelems h x).length)) = (os ++ (ns ++ (Builtin.zeroCells z.cells (cap - ((aelems h s).length + (aelems h x).length))).toList)).toArray := by
    apply Array.ext'
    simp
  have hsize : cap * (tinfo P e).cells ≤ (os.toArray ++ ns.toArray ++ Builtin.zeroCells z.cells (cap - ((aelems h s).length + (aelems h x).length))).size := by
    simp only [Array.size_append, List.size_toArray, size_zeroCells, hcz, o3, n3]
    rw [← Nat.add_mul, ← Nat.add_mul]
    exact Nat.mul_le_mul_right _ (by omega)
  have hvm : ∀ y v, VRel J (Own h J) w.drew y v → VRel J (Own h1 J) w.drew y v := by
    intro y v hv
    exact VRel.mono (J := J) (J' := J) (O := Own h J) (O' := Own h1 J) (w := w.drew) (w' := w.drew) ⟨[], by simp⟩ (Nat.le_refl _) (fun r hr hn => ⟨rfl, (ev1.keep r hr hn).2⟩) hv
  obtain ⟨r1, r2⟩ := alloc_cells hh1 e (os.toArray ++ ns.toArray ++ Builtin.zeroCells z.cells (cap - ((aelems h s).length + (aelems h x).length))) (aelems h s ++ aelems h x) (tinfo P e).cells cap hpos (by omega) hsize hlenA (by
    intro i ee c y hi hy
    obtain ⟨v, p1, p2, p3⟩ := append_rel (zs := (Builtin.zeroCells z.cells (cap - ((aelems h s).length + (aelems h x).length))).toList) o3 o4 n4 hls o5 n5 i ee c y hi hy
    exact ⟨v, by rw [hcells, List.getElem?_toArray]; exact p1, p2, hvm _ _ p3⟩)
  exact ⟨os.toArray, ns.toArray, z, o2, n2, hz1, r1, ev1.trans r2⟩
end
end Go.Abs
