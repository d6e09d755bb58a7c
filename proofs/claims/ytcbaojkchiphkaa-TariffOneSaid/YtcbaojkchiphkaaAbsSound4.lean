/-
  Soundness of the operations that only compute or read: the last of them, and all together.
-/
import Derived.Test.YtcbaojkchiphkaaAbsMap
set_option linter.unusedVariables false
set_option linter.unusedSimpArgs false
namespace Go.Abs
open Go

section
variable {P : Program} {gl : Globs} {J : List Blk} {h : AHeap} {w : World} {O : Nat → Prop} {fr : AFrame}

theorem run_getObj' {r : Nat} {o : Obj} (hr : w.heap[r]? = some o) (hn : ∀ c e f, o ≠ .cells c e f) : (getObj r).run P w = .ok o w := by
  simp only [getObj, Sem.run, hr]

theorem map_of (hh : HRel gl h J w) {b : Nat} {v : Value} (hv : VRel J (Own h J) w (.map b) v) (hm : isMap h b = true) :
    ∃ (r : Nat) (es : Array MapEntry) (clock : Nat), v = .map (some r) ∧ w.heap[r]? = some (.map es clock) ∧ es.size = (hmap h b).length ∧
      ∀ (i : Nat) (e : MapEntry) (p : AV × AV), es[i]? = some e → (hmap h b)[i]? = some p → VRel J (Own h J) w p.1 e.key ∧ VRel J (Own h J) w p.2 e.val := by
  unfold isMap at hm
  split at hm
  · rename_i kvs hb
    cases hv with
    | map _ k hk =>
      obtain ⟨es, clock, h1, h2, h3⟩ := hh.obj b k _ hk hb
      have e : hmap h b = kvs := by simp [hmap, hb]
      rw [e]
      exact ⟨k.r, es, clock, rfl, h1, h2, h3⟩
  · cases hm

theorem alook_found {kvs : List (AV × AV)} {k : AV} {es : List MapEntry} (hl : es.length = kvs.length) (hr : ∀ (i : Nat) (e : MapEntry) (p : AV × AV), es[i]? = some e → kvs[i]? = some p → VRel J O w p.2 e.val) :
    (alook kvs k = none ∧ foundAt kvs k es 0 = none) ∨ ∃ x i u, alook kvs k = some x ∧ foundAt kvs k es 0 = some (i, u) ∧ VRel J O w x u := by
  unfold alook foundAt aidx
  cases hx : kvs.findIdx? (fun p => ceq (acells k) (acells p.1)) with
  | none =>
    left
    refine ⟨?_, rfl⟩
    rw [List.findIdx?_eq_none_iff] at hx
    simp only [Option.map_eq_none_iff, List.find?_eq_none]
    intro p hp
    simp [hx p hp]
  | some j =>
    right
    have hj := List.findIdx?_eq_some_iff_getElem.1 hx
    obtain ⟨hlt, h1, h2⟩ := hj
    have hf : kvs.find? (fun p => ceq (acells k) (acells p.1)) = some kvs[j] := by
      rw [List.find?_eq_some_iff_getElem]
      exact ⟨h1, j, hlt, rfl, fun i hi => by simpa using h2 i hi⟩
    have he : es[j]? = some (es[j]'(by omega)) := List.getElem?_eq_getElem (by omega)
    refine ⟨kvs[j].2, j, (es[j]'(by omega)).val, by simp [hf], by simp [he], hr j _ _ he (List.getElem?_eq_getElem hlt)⟩

theorem lookup_yields (hh : HRel gl h J w) {t : TypeId} {x k : AV} {u v : Value} (ok : Bool) (hx : VRel J (Own h J) w x u) (hk : VRel J (Own h J) w k v) (hok : lookOk P h (tinfo P t).kind x k) :
    Yields1 P J (Own h J) w (Instr.lookup t u v ok) (lookV P h (tinfo P t).kind x k ok) := by
  unfold lookOk at hok
  unfold lookV
  split at hok
  · rename_i kt et b hkd
    obtain ⟨hu, _⟩ := kind_map hkd
    obtain ⟨hm, hz, hks⟩ := hok
    obtain ⟨r, es, clock, rfl, h1, h2, h3⟩ := map_of hh hx hm
    obtain ⟨z, hz1, hz2⟩ := azero_sound (J := J) (O := Own h J) (w := w) hz
    have hg : (getObj r).run P w = .ok (.map es clock) w := run_getObj' h1 (by intros; simp)
    have hck := check_key (P := P) es.isEmpty hks hk
    have hfk := findKey_sound (P := P) hk hks (es := es.toList) (by simpa using h2) (fun i e p h4 h5 => (h3 i e p (by simpa using h4) h5).1)
    have hal := alook_found (J := J) (O := Own h J) (w := w) (k := k) (kvs := hmap h b) (es := es.toList) (by simpa using h2) (fun i e p h4 h5 => (h3 i e p (by simpa using h4) h5).2)
    rcases hal with ⟨e1, e2⟩ | ⟨y, i, uy, e1, e2, e3⟩
    · simp only [e1, Option.getD_none, Option.isSome_none]
      cases ok with
      | true =>
        refine ⟨_, ?_, .tup [azero (tinfo P et), .bool false] [z, .bool false] rfl (VRels.cons hz2 (VRels.cons (.bool _) .nil)).2⟩
        simp [Instr.lookup, run_underlying hu, hg, hck, hfk, e2, hz1]
      | false =>
        refine ⟨_, ?_, hz2⟩
        simp [Instr.lookup, run_underlying hu, hg, hck, hfk, e2, hz1]
    · simp only [e1, Option.getD_some, Option.isSome_some]
      cases ok with
      | true =>
        refine ⟨_, ?_, .tup [y, .bool true] [uy, .bool true] rfl (VRels.cons e3 (VRels.cons (.bool _) .nil)).2⟩
        simp [Instr.lookup, run_underlying hu, hg, hck, hfk, e2]
      | false =>
        refine ⟨_, ?_, e3⟩
        simp [Instr.lookup, run_underlying hu, hg, hck, hfk, e2]
  · rename_i kt et hkd
    obtain ⟨hu, _⟩ := kind_map hkd
    obtain ⟨hz, hks⟩ := hok
    cases hx
    obtain ⟨z, hz1, hz2⟩ := azero_sound (J := J) (O := Own h J) (w := w) hz
    have hck := check_key (P := P) true hks hk
    have hfk := findKey_sound (P := P) hk hks (es := []) rfl (by simp)
    have hfa : foundAt [] k [] 0 = none := rfl
    rw [hfa] at hfk
    cases ok with
    | true =>
      refine ⟨_, ?_, .tup [azero (tinfo P et), .bool false] [z, .bool false] rfl (VRels.cons hz2 (VRels.cons (.bool _) .nil)).2⟩
      simp [Instr.lookup, run_underlying hu, hck, hfk, hz1]
    | false =>
      refine ⟨_, ?_, hz2⟩
      simp [Instr.lookup, run_underlying hu, hck, hfk, hz1]
  · exact hok.elim

theorem extract_yields {i : Nat} {x : AV} {u : Value} (hx : VRel J O w x u) (hok : extractOk i x) : Yields1 P J O w (Instr.extract u i) (extractV i x) := by
  unfold extractOk at hok
  unfold extractV
  split at hok
  · rename_i l
    cases hx with
    | tup _ vs hl hr =>
      have e1 : l[i]? = some l[i] := List.getElem?_eq_getElem hok
      have e2 : vs[i]? = some (vs[i]'(by omega)) := List.getElem?_eq_getElem (by omega)
      refine ⟨vs[i]'(by omega), ?_, ?_⟩
      · simp [Instr.extract, e2]
      · simpa [List.getD, e1] using hr i _ _ e1 e2
  · exact hok.elim

theorem getD_map_int (o : Option Int) : (o.map Int.toNat).getD 0 = hiOf o 0 := by cases o <;> rfl

theorem slice_yields (hh : HRel gl h J w) {t : TypeId} {x : AV} {u : Value} {lo hi : Option Value} {l' h' : Option Int} (hx : VRel J (Own h J) w x u) (hl : ∀ v ∈ lo, ∃ k n, v = .int k n ∧ l' = some n) (hln : lo = none → l' = none)
    (hhi : ∀ v ∈ hi, ∃ k n, v = .int k n ∧ h' = some n) (hhn : hi = none → h' = none) (hok : sliceTOk P h (tinfo P t).kind x l' h') : Yields1 P J (Own h J) w (Instr.sliceAt t u lo hi none) (aslice x l' h') := by
  unfold sliceTOk at hok
  split at hok
  · rename_i s hk
    obtain ⟨hu, _⟩ := kind_string hk
    cases hx
    obtain ⟨hb, b1, b2⟩ := run_bounds (P := P) (w := w) (isSlice := false) (cap := s.length) (Nat.le_refl _) (fun _ => rfl) hl hln hhi hhn hok
    refine ⟨_, ?_, .str _⟩
    have hsz : (⟨s.toArray⟩ : ByteArray).size = s.length := by simp [ByteArray.size]
    simp only [Instr.sliceAt, Instr.slice, Sem.run_bind, run_underlying hu, Result.andThen_ok, hsz]
    simp only [Option.isSome_none, Bool.false_eq_true, if_false, Sem.run_bind, Sem.run_pure, Result.andThen_ok, hb]
    congr 2
    apply ByteArray.ext
    show _ = ((s.take (hiOf h' s.length)).drop ((l'.map Int.toNat).getD 0)).toArray
    simp only [ByteArray.data_extract, List.extract_toArray, List.extract_eq_take_drop]
    congr 1
    rw [List.drop_take]
  · rename_i e es hk
    obtain ⟨hu, _⟩ := kind_slice hk
    obtain ⟨he, hlen, hsl⟩ := hok
    cases hx with
    | roNil =>
      obtain ⟨hb, b1, b2⟩ := run_bounds (P := P) (w := w) (isSlice := true) (cap := 0) (Nat.le_refl _) (fun _ => rfl) hl hln hhi hhn hsl
      have e1 : (l'.map Int.toNat).getD 0 = 0 := by simp at b2; omega
      have e2 : hiOf h' 0 = 0 := by simpa using b2
      refine ⟨.slice none 0 0, ?_, by simpa [aslice] using VRel.roNil⟩
      have hb' : (Instr.sliceBounds true 0 0 lo hi none).run P w = .ok ((l'.map Int.toNat).getD 0, hiOf h' 0, 0) w := hb
      rw [e1, e2] at hb'
      simp only [Instr.sliceAt, Instr.slice, Sem.run_bind, run_underlying hu, Result.andThen_ok, hb', run_sizeOf' he, Sem.run_pure, if_true, Nat.sub_zero]
    | ro _ a n cap f hcap hn hO hl0 hc h1 hr =>
      obtain ⟨hb, b1, b2⟩ := run_bounds (P := P) (w := w) (isSlice := true) (cap := cap) hcap (by simp) hl hln hhi hhn hsl
      have hrun : (Instr.sliceAt t (.slice (some a) es.length cap) lo hi none).run P w = .ok (.slice (if cap = (l'.map Int.toNat).getD 0 then some a else (some a).map (·.add ((l'.map Int.toNat).getD 0 * (tinfo P e).cells))) (hiOf h' es.length - (l'.map Int.toNat).getD 0) (cap - (l'.map Int.toNat).getD 0)) w := by
        simp only [Instr.sliceAt, Instr.slice, Sem.run_bind, run_underlying hu, Result.andThen_ok, hb, run_sizeOf' he, Sem.run_pure]
      refine ⟨_, hrun, ?_⟩
      generalize hlo : (l'.map Int.toNat).getD 0 = L at *
      simp only [aslice, hlo]
      generalize hiOf h' es.length = H at *
      have hlen' : ((es.take H).drop L).length = H - L := by simp; omega
      by_cases hcl : cap = L
      · have : H - L = 0 := by omega
        rw [if_pos hcl, this]
        have hnil : (es.take H).drop L = [] := List.eq_nil_of_length_eq_zero (by omega)
        rw [hnil]
        exact VRel.ro [] a 1 (cap - L) (fun _ _ => undef) (by simp) (by omega) (.inl rfl) (by simp) (by simp) (by simp) (by simp)
      · rw [if_neg hcl]
        simp only [Option.map_some]
        rw [← hlen']
        by_cases hes : es = []
        · subst hes
          simp only [List.take_nil, List.drop_nil]
          exact VRel.ro [] _ 1 (cap - L) (fun _ _ => undef) (by simp) (by omega) (.inl rfl) (by simp) (by simp) (by simp) (by simp)
        · have hcn : (tinfo P e).cells = n := by
            obtain ⟨y, ys, rfl⟩ := List.exists_cons_of_ne_nil hes
            rw [← hlen y (by simp), hl0 0 y rfl]
          rw [hcn]
          have sub : ∀ (i : Nat) (e : List AV), ((es.take H).drop L)[i]? = some e → es[L + i]? = some e := by
            intro i e hi
            rw [List.getElem?_drop, List.getElem?_take] at hi
            split at hi
            · exact hi
            · cases hi
          refine VRel.ro _ (a.add (L * n)) n (cap - L) (fun i c => f (L + i) c) (by rw [hlen']; omega) hn ?_ ?_ ?_ ?_ ?_
          · right
            rw [add_block]
            exact hO.resolve_left hes
          · intro i e hi; exact hl0 _ e (sub i e hi)
          · intro i e c x hi hx
            rw [add_add', show L * n + (i * n + c) = (L + i) * n + c by rw [Nat.add_mul]; omega]
            exact hc _ e c x (sub i e hi) hx
          · intro i e c x hi hx; exact h1 _ e c x (sub i e hi) hx
          · intro i e c x hi hx; exact hr _ e c x (sub i e hi) hx
  · rename_i e b off len hk
    obtain ⟨hu, _⟩ := kind_slice hk
    obtain ⟨he, h0, h1, hsl⟩ := hok
    cases hx with
    | own _ _ _ kb a cap hb ha hlen hcap =>
      obtain ⟨es, _, hn, _⟩ := hsz_n hh hb h0
      have hcn : (tinfo P e).cells = kb.n := by rw [← h1, hn]
      obtain ⟨hbd, b1, b2⟩ := run_bounds (P := P) (w := w) (isSlice := true) (cap := cap) hlen (by simp) hl hln hhi hhn hsl
      have hrun : (Instr.sliceAt t (.slice (some a) len cap) lo hi none).run P w = .ok (.slice (if cap = (l'.map Int.toNat).getD 0 then some a else (some a).map (·.add ((l'.map Int.toNat).getD 0 * (tinfo P e).cells))) (hiOf h' len - (l'.map Int.toNat).getD 0) (cap - (l'.map Int.toNat).getD 0)) w := by
        simp only [Instr.sliceAt, Instr.slice, Sem.run_bind, run_underlying hu, Result.andThen_ok, hbd, run_sizeOf' he, Sem.run_pure]
      refine ⟨_, hrun, ?_⟩
      generalize hlo : (l'.map Int.toNat).getD 0 = L at *
      simp only [aslice, hlo]
      generalize hiOf h' len = H at *
      by_cases hcl : cap = L
      · rw [if_pos hcl]
        exact .own b (off + L) (H - L) kb a (cap - L) hb (by omega) (by omega) (by omega)
      · rw [if_neg hcl]
        simp only [Option.map_some]
        refine .own b (off + L) (H - L) kb _ (cap - L) hb (fun hpos' => ?_) (by omega) (by omega)
        rw [ha (by omega), hcn, add_mk, show kb.base + off * kb.n + L * kb.n = kb.base + (off + L) * kb.n by rw [Nat.add_mul]; omega]
  · rename_i e hk
    obtain ⟨hu, _⟩ := kind_slice hk
    obtain ⟨he, hsl⟩ := hok
    cases hx
    obtain ⟨hb, b1, b2⟩ := run_bounds (P := P) (w := w) (isSlice := true) (cap := 0) (Nat.le_refl _) (fun _ => rfl) hl hln hhi hhn hsl
    refine ⟨.slice none 0 0, ?_, .nil⟩
    have e2 : hiOf h' 0 = 0 := by omega
    have e1 : (l'.map Int.toNat).getD 0 = 0 := by omega
    simp only [Instr.sliceAt, Instr.slice, Sem.run_bind, run_underlying hu, Result.andThen_ok, hb, run_sizeOf' he, Sem.run_pure, e1, e2, if_true, Nat.sub_zero]
  · rename_i e hk
    obtain ⟨hu, _⟩ := kind_slice hk
    obtain ⟨he, hsl⟩ := hok
    cases hx with
    | e0 a =>
      obtain ⟨hb, b1, b2⟩ := run_bounds (P := P) (w := w) (isSlice := true) (cap := 0) (Nat.le_refl _) (fun _ => rfl) hl hln hhi hhn hsl
      refine ⟨.slice a 0 0, ?_, .e0 a⟩
      have e2 : hiOf h' 0 = 0 := by omega
      have e1 : (l'.map Int.toNat).getD 0 = 0 := by omega
      simp only [Instr.sliceAt, Instr.slice, Sem.run_bind, run_underlying hu, Result.andThen_ok, hb, run_sizeOf' he, Sem.run_pure, e1, e2, if_true, Nat.sub_zero]
  · exact hok.elim

/-! ### Rows of cells written part by part -/

theorem getElem?_splice {α : Type} (e : List α) (c : Nat) (cs : List α) (h : c + cs.length ≤ e.length) (i : Nat) :
    (splice e c cs)[i]? = if c ≤ i ∧ i < c + cs.length then cs[i - c]? else e[i]? := by
  unfold splice
  have hl : (e.take c).length = c := by simp; omega
  by_cases h1 : i < c
  · rw [if_neg (by omega), List.append_assoc, List.getElem?_append_left (by omega), List.getElem?_take_of_lt h1]
  · by_cases h2 : i < c + cs.length
    · rw [if_pos ⟨by omega, h2⟩, List.append_assoc, List.getElem?_append_right (by omega), List.getElem?_append_left (by omega), hl]
    · rw [if_neg (by omega), List.append_assoc, List.getElem?_append_right (by omega), List.getElem?_append_right (by omega), hl, List.getElem?_drop]
      congr 1
      omega
theorem length_splice' {α : Type} (e : List α) (c : Nat) (cs : List α) (h : c + cs.length ≤ e.length) : (splice e c cs).length = e.length := by
  simp [splice]; omega

theorem foldl_set (off : Nat) : ∀ (l : List Value) (k : Nat) (cs : Array Value) (i : Nat),
    ((l.zipIdx k).foldl (fun (cs : Array Value) (p : Value × Nat) => cs.setIfInBounds (off + p.2) p.1) cs)[i]? = if off + k ≤ i ∧ i < off + k + l.length ∧ i < cs.size then l[i - (off + k)]? else cs[i]?
  | [], k, cs, i => by simp; omega
  | v :: l, k, cs, i => by
    simp only [List.zipIdx_cons, List.foldl_cons]
    rw [foldl_set off l (k + 1) (cs.setIfInBounds (off + k) v) i]
    simp only [Array.size_setIfInBounds, List.length_cons]
    by_cases h1 : off + (k + 1) ≤ i ∧ i < off + (k + 1) + l.length ∧ i < cs.size
    · rw [if_pos h1, if_pos (by omega)]
      rw [show i - (off + k) = (i - (off + (k + 1))) + 1 by omega, List.getElem?_cons_succ]
    · rw [if_neg h1]
      by_cases h2 : off + k = i
      · subst h2
        by_cases h3 : off + k < cs.size
        · rw [if_pos (by omega), Array.getElem?_setIfInBounds_self_of_lt h3]
          simp
        · rw [if_neg (by omega)]
          rw [Array.getElem?_eq_none (by simp; omega), Array.getElem?_eq_none (by omega)]
      · rw [if_neg (by omega), Array.getElem?_setIfInBounds_ne h2]

theorem fill_splice (off : Nat) (vs : Array Value) (cs : List Value) (h : off + vs.size ≤ cs.length) :
    (vs.zipIdx.foldl (fun (cs : Array Value) (p : Value × Nat) => cs.setIfInBounds (off + p.2) p.1) cs.toArray) = (splice cs off vs.toList).toArray := by
  apply Array.ext_getElem?
  intro i
  have e : vs.zipIdx.foldl (fun (cs : Array Value) (p : Value × Nat) => cs.setIfInBounds (off + p.2) p.1) cs.toArray = (vs.toList.zipIdx 0).foldl (fun (cs : Array Value) (p : Value × Nat) => cs.setIfInBounds (off + p.2) p.1) cs.toArray := by
    rw [← Array.foldl_toList]
    congr 1
    simp
  rw [e, foldl_set off vs.toList 0 cs.toArray i]
  have hg := getElem?_splice cs off vs.toList (by simpa using h) i
  simp only [List.getElem?_toArray, Array.length_toList, Nat.add_zero] at hg ⊢
  rw [hg]
  by_cases h1 : off ≤ i ∧ i < off + vs.size
  · rw [if_pos ⟨h1.1, h1.2, by simp; omega⟩, if_pos h1]
  · rw [if_neg (by omega), if_neg h1]

theorem VRels.splice {xs ys : List AV} {us vs : List Value} {c : Nat} (h1 : VRels J O w xs us) (h2 : VRels J O w ys vs) (hc : c + ys.length ≤ xs.length) : VRels J O w (splice xs c ys) (splice us c vs) := by
  have hl1 := h1.1
  have hl2 := h2.1
  refine ⟨by rw [length_splice' _ _ _ hc, length_splice' _ _ _ (by omega)]; exact hl1, fun i x v hx hv => ?_⟩
  rw [getElem?_splice _ _ _ hc] at hx
  rw [getElem?_splice _ _ _ (by omega), ← hl2] at hv
  split at hx
  · rename_i h; rw [if_pos h] at hv; exact h2.2 _ _ _ hx hv
  · rename_i h; rw [if_neg h] at hv; exact h1.2 _ _ _ hx hv

theorem mem_splice {α : Type} {e cs : List α} {c : Nat} {x : α} (h : x ∈ splice e c cs) : x ∈ e ∨ x ∈ cs := by
  unfold splice at h
  simp only [List.mem_append] at h
  rcases h with (h | h) | h
  · exact .inl (List.mem_of_mem_take h)
  · exact .inr h
  · exact .inl (List.mem_of_mem_drop h)

/-- The cells of a value. -/
theorem cells_sound {x : AV} {v : Value} (hv : VRel J O w x v) (hs : x.solid = true) : VRels J O w (acells x) v.cells.toList ∧ ∀ u ∈ v.cells.toList, u.oneCell' = true := by
  cases hv <;> first
    | (simp [AV.solid] at hs; done)
    | skip
  case agg cs vs hl h1 hh => simp only [acells, Value.cells]; exact ⟨⟨hl, hh⟩, by simpa using h1⟩
  case lit =>
    rename_i h
    cases v <;> first
      | (simp [Value.oneCell'] at h; done)
      | exact ⟨VRels.cons (.lit _ rfl) .nil, by simp [Value.cells, Value.oneCell']⟩
  all_goals
    refine ⟨VRels.cons ?_ .nil, by simp [Value.cells, Value.oneCell']⟩
    first
      | exact .bool _
      | exact .int _ _
      | exact .str _
      | exact .nil
      | exact .e0 _
      | exact .roNil
      | exact .ro _ _ _ _ _ ‹_› ‹_› ‹_› ‹_› ‹_› ‹_› ‹_›
      | exact .rop _ _ _ _ _ _ ‹_› ‹_› ‹_› ‹_› ‹_› ‹_›
      | exact .own _ _ _ _ _ _ ‹_› ‹_› ‹_› ‹_›
      | exact .ptr _ _ _ _ ‹_›
      | exact .fn _ _ _ _ _ ‹_› ‹_› ‹_› ‹_›
      | exact .map _ _ ‹_›
      | exact .obj _ _ ‹_›
      | exact .iface _ _ _ ‹_›
end
end Go.Abs
