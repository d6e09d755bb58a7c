/-
  'make' of a slice and of a map; a store into a map; 'delete'; 'copy'.
-/
import Derived.Test.YtcbaojkchiphkaaAbsHop4
set_option linter.unusedVariables false
set_option linter.unusedSimpArgs false
namespace Go.Abs
open Go

section
variable {P : Program} {gl : Globs} {J : List Blk} {h : AHeap} {w : World} {O : Nat → Prop} {fr : AFrame} {N : Nat}

def makeSliceOk (P : Program) (t : TypeId) (l c : AV) : Prop := match (tinfo P t).kind with
  | .slice e => zeroOk (tinfo P e) ∧ 0 < (tinfo P e).cells ∧ isInt l ∧ isInt c ∧ 0 ≤ aint l ∧ aint l ≤ aint c ∧ ((tinfo P e).bytes : Int) * aint c ≤ 281474976710656 ∧ aint c ≤ 9223372036854775807
  | _ => False
def elemZero (P : Program) (t : TypeId) : List AV := match (tinfo P t).kind with
  | .slice e => (tinfo P e).zero
  | _ => []

theorem makeSlice_steps (hh : HRel gl h J w) {t : TypeId} {l c : AV} {vl vc : Value} (hl : VRel J (Own h J) w l vl) (hc : VRel J (Own h J) w c vc) (hok : makeSliceOk P t l c) {R : AV → AHeap → Prop}
    (hR : R (.own h.length 0 (aint l).toNat) (h ++ [.cells (elemCells P t) (List.replicate (aint l).toNat (elemZero P t))])) : Steps1 P gl h J w (Instr.makeSlice t vl vc) R := by
  unfold makeSliceOk at hok
  split at hok
  · rename_i e hk
    obtain ⟨hz, hpos, il, ic, h1, h2, h3, h4⟩ := hok
    have hec : elemCells P t = (tinfo P e).cells := by simp [elemCells, hk]
    have hez : elemZero P t = (tinfo P e).zero := by simp [elemZero, hk]
    rw [hec, hez] at hR
    obtain ⟨hu, _⟩ := kind_slice hk
    obtain ⟨heok, hezok, hzl⟩ := hz
    obtain ⟨kl, rfl⟩ := int_of hl il
    obtain ⟨kc, rfl⟩ := int_of hc ic
    generalize aint l = L at *
    generalize aint c = C at *
    obtain ⟨z, hz1, hz2, hz3, hz4⟩ := run_zeroValue' heok hezok w
    obtain ⟨de, i, hde, hi, eqe⟩ := tinfo_ok heok
    have hb : (tinfo P e).bytes = i.bytes := by rw [eqe]
    have hcs : (tinfo P e).cells = i.size := by rw [eqe]
    have hzz : i.zero = some z := by
      simp only [zeroValue, typeInfo, Sem.run_bind, run_program, Result.andThen_ok, hi, Sem.run_pure] at hz1
      cases hq : i.zero with
      | none => simp [hq] at hz1
      | some zz => simp [hq] at hz1; rw [hz1]
    have hrun := run_make (P := P) w t e i z hu hi hzz kl kc L C h1 h2 (by rw [← hb]; exact h3) h4
    have hzr := vrels_ofV1 (J := J) (O := Own h J) (w := w) hz2
    rw [← hz3] at hzr
    have hzlen : z.cells.size = (tinfo P e).cells := by
      have := hzr.1
      simp only [Array.length_toList] at this
      omega
    have hlen : (List.replicate L.toNat (tinfo P e).zero).length = L.toNat := by simp
    obtain ⟨r1, r2⟩ := alloc_cells hh e (madeCells z.cells (C.toNat * i.size)) (List.replicate L.toNat (tinfo P e).zero) (tinfo P e).cells C.toNat hpos (by simp; omega) (by simp [size_madeCells, hcs]) (by
      intro j ee hj
      rw [List.getElem?_replicate] at hj
      split at hj
      · injection hj with hj; rw [← hj, hzl]
      · cases hj) (by
      intro j ee c' x hj hx
      rw [List.getElem?_replicate] at hj
      split at hj
      · rename_i hjl
        injection hj with hj
        subst hj
        have hcl : c' < (tinfo P e).cells := by rw [← hzl]; exact (List.getElem?_eq_some_iff.1 hx).1
        have hlt : j * (tinfo P e).cells + c' < C.toNat * i.size := by
          have : (j + 1) * (tinfo P e).cells ≤ C.toNat * (tinfo P e).cells := Nat.mul_le_mul_right _ (by omega)
          rw [Nat.add_mul, Nat.one_mul] at this
          rw [← hcs]
          omega
        have hmod : (j * (tinfo P e).cells + c') % z.cells.size = c' := by
          rw [hzlen, Nat.mul_comm, Nat.mul_add_mod, Nat.mod_eq_of_lt hcl]
        have hv : z.cells.toList[c']? = some (z.cells.toList[c']'(by simp; omega)) := List.getElem?_eq_getElem (by simp; omega)
        refine ⟨z.cells.toList[c']'(by simp; omega), ?_, hz2 _ (List.getElem_mem _), hzr.2 _ _ _ hx hv⟩
        unfold madeCells
        rw [Array.getElem?_map, Array.getElem?_eq_getElem (by simpa using hlt)]
        simp only [Array.getElem_range, Option.map_some, hmod]
        rw [getElem!_pos z.cells c' (by omega)]
        simp
      · cases hj)
    refine ⟨_, _, _, _, _, hrun, r1, ?_, r2, hR⟩
    have := alloc_own hh (List.replicate L.toNat (tinfo P e).zero) (tinfo P e).cells C.toNat (w.alloc (.cells (madeCells z.cells (C.toNat * i.size)) e)) (.cells (tinfo P e).cells (List.replicate L.toNat (tinfo P e).zero)) (by simp; omega)
    rw [hlen] at this
    exact this
  · exact hok.elim

theorem makeMap_steps (hh : HRel gl h J w) {t : TypeId} {r : Option Value} {k e : TypeId} (hk : (tinfo P t).kind = .map k e) (hr : ∀ v ∈ r, ∃ kd n, v = .int kd n) {R : AV → AHeap → Prop} (hR : R (.map h.length) (h ++ [.map []])) :
    Steps1 P gl h J w (Instr.makeMap t r) R := by
  obtain ⟨hu, _⟩ := kind_map hk
  obtain ⟨r1, r2⟩ := hh.alloc (.map #[] 0) ⟨w.heap.size, 0, 1, 0⟩ (.map []) rfl (fun J' O' hm => ⟨#[], 0, heap_alloc_new w _, rfl, by simp⟩)
  refine ⟨.map (some w.heap.size), w.alloc (.map #[] 0), _, _, _, ?_, r1, .map _ _ (alloc_last hh _), r2, hR⟩
  cases r with
  | none => simp [Instr.makeMap]
  | some v =>
    obtain ⟨kd, n, rfl⟩ := hr v rfl
    simp [Instr.makeMap, run_underlying hu, asInt, asIntOf]

/-- A map's content, a key set to a value. -/
def aset (kvs : List (AV × AV)) (k v : AV) : List (AV × AV) := match aidx kvs k with
  | some i => kvs.set i (k, v)
  | none => kvs ++ [(k, v)]

theorem sameBits_str (n : Nat) (a b : ByteArray) : Instr.sameBits (n + 1) (.string a) (.string b) = (a == b) := rfl

theorem ceq1_same {x y : AV} {u v : Value} (n : Nat) (hx : VRel J O w x u) (hy : VRel J O w y v) {b : BK} (hc : cok1 b x y) (he : ceq1 x y = true) : Instr.sameBits n u v = true := by
  unfold cok1 at hc
  split at hc
  · cases hx; cases hy
    simp only [ceq1] at he
    subst hc
    unfold Instr.sameBits
    simpa using he
  · cases hx; cases hy
    simp only [ceq1, beq_iff_eq] at he
    subst he
    cases n <;> simp [Instr.sameBits, beq_toListBytes]
  · cases hx; cases hy
    simp only [ceq1] at he
    unfold Instr.sameBits
    simpa using he
  · exact hc.elim

theorem ceq_sameAll (n : Nat) : ∀ (bs : List BK) (xs ys : List AV) (us vs : List Value), cok bs xs ys → VRels J O w xs us → VRels J O w ys vs → ceq xs ys = true → (us.zip vs).all (fun (p : Value × Value) => Instr.sameBits n p.1 p.2) = true
  | [], [], [], us, vs, _, hx, _, _ => by
    have : us = [] := List.eq_nil_of_length_eq_zero hx.1.symm
    subst this; rfl
  | b :: bs, x :: xs, y :: ys, us, vs, hc, hx, hy, he => by
    match us, vs, hx.1, hy.1 with
    | u :: us, v :: vs, _, _ =>
      simp only [cok] at hc
      simp only [ceq, Bool.and_eq_true] at he
      have r1 := hx.2 0 x u rfl rfl
      have r2 := hy.2 0 y v rfl rfl
      simp only [List.zip_cons_cons, List.all_cons, Bool.and_eq_true]
      refine ⟨ceq1_same n r1 r2 hc.1 he.1, ceq_sameAll n bs xs ys us vs hc.2 ⟨by simpa using hx.1, fun i a c h1 h2 => hx.2 (i + 1) a c (by simpa using h1) (by simpa using h2)⟩ ⟨by simpa using hy.1, fun i a c h1 h2 => hy.2 (i + 1) a c (by simpa using h1) (by simpa using h2)⟩ he.2⟩
  | [], [], _ :: _, _, _, h, _, _, _ => by simp [cok] at h
  | [], _ :: _, _, _, _, h, _, _, _ => by simp [cok] at h
  | _ :: _, [], _, _, _, h, _, _, _ => by simp [cok] at h
  | _ :: _, _ :: _, [], _, _, h, _, _, _ => by simp [cok] at h

theorem run_keyStays {t : TypeId} {k p : AV} {u v : Value} {bs : List BK} (hf : flat P 50 t = some bs) (hak : aggFit (tinfo P t) k) (hap : aggFit (tinfo P t) p) (hk : VRel J O w k u) (hp : VRel J O w p v) (hc : cok bs (acells k) (acells p)) (he : ceq (acells k) (acells p) = true) :
    (Instr.keyThatStays v u).run P w = .ok u w := by
  have hsb : Instr.sameBits 10000 v u = true := by
    have hsym : ∀ (bs : List BK) (xs ys : List AV), cok bs xs ys → ceq xs ys = true → cok bs ys xs ∧ ceq ys xs = true := by
      intro bs
      induction bs with
      | nil =>
        intro xs ys h1 h2
        have := cok_len _ _ _ h1
        have e1 : xs = [] := by simpa using this.1
        have e2 : ys = [] := by simpa using this.2
        subst e1; subst e2
        exact ⟨h1, h2⟩
      | cons b bs ih =>
        intro xs ys h1 h2
        cases xs with
        | nil => simp [cok] at h1
        | cons x xs =>
          cases ys with
          | nil => simp [cok] at h1
          | cons y ys =>
            simp only [cok] at h1 ⊢
            simp only [ceq, Bool.and_eq_true] at h2 ⊢
            obtain ⟨i1, i2⟩ := ih xs ys h1.2 h2.2
            have : cok1 b y x ∧ ceq1 y x = true := by
              have h3 := h1.1
              have h4 := h2.1
              unfold cok1 at h3
              split at h3
              · simp only [ceq1, beq_iff_eq] at h4 ⊢; subst h3; subst h4; exact ⟨rfl, rfl⟩
              · simp only [ceq1, beq_iff_eq] at h4 ⊢; subst h4; exact ⟨trivial, rfl⟩
              · simp only [ceq1, beq_iff_eq] at h4 ⊢; subst h4; exact ⟨trivial, rfl⟩
              · exact h3.elim
            exact ⟨⟨this.1, i1⟩, this.2, i2⟩
    obtain ⟨hc', he'⟩ := hsym _ _ _ hc he
    unfold aggFit at hak hap
    cases hag : (tinfo P t).agg with
    | true =>
      rw [hag] at hak hap
      cases k <;> simp only at hak
      cases p <;> simp only at hap
      simp only [acells] at hc' he'
      cases hk with
      | agg _ us hl1 ho1 h1 =>
        cases hp with
        | agg _ vs hl2 ho2 h2 =>
          have := ceq_sameAll (J := J) (O := O) (w := w) 9999 bs _ _ vs us hc' ⟨hl2, h2⟩ ⟨hl1, h1⟩ he'
          have hlen := cok_len _ _ _ hc'
          show (vs.toArray.size == us.toArray.size && (vs.toArray.toList.zip us.toArray.toList).all fun (x, y) => Instr.sameBits 9999 x y) = true
          simp only [List.size_toArray, Bool.and_eq_true, beq_iff_eq]
          exact ⟨by omega, this⟩
    | false =>
      rw [hag] at hak hap
      have hnk : ∀ cs, k ≠ .agg cs := by rintro cs rfl; simp at hak
      have hnp : ∀ cs, p ≠ .agg cs := by rintro cs rfl; simp at hap
      rw [vrel_cells hk hnk, vrel_cells hp hnp] at hc' he'
      obtain ⟨b, rfl⟩ := List.length_eq_one_iff.1 ((cok_len _ _ _ hc').1.symm)
      simp only [cok, and_true] at hc'
      simp only [ceq, Bool.and_true] at he'
      exact ceq1_same 10000 hp hk hc' he'
  simp [Instr.keyThatStays, hsb]

theorem mapUpdate_steps (hh : HRel gl h J w) {t kt et : TypeId} {b : Nat} {k x : AV} {vm vk vx : Value} (ht : (tinfo P t).kind = .map kt et) (hm : VRel J (Own h J) w (.map b) vm) (hk : VRel J (Own h J) w k vk) (hx : VRel J (Own h J) w x vx)
    (him : isMap h b = true) (hks : keysOk P kt k (hmap h b)) {R : AHeap → Prop} (hR : R (h.set b (.map (aset (hmap h b) k x)))) : Steps0 P gl h J w (Instr.mapUpdate t vm vk vx) R := by
  obtain ⟨hu, _⟩ := kind_map ht
  unfold isMap at him
  split at him
  · rename_i kvs hb
    have hkv : hmap h b = kvs := by simp [hmap, hb]
    rw [hkv] at hks hR
    cases hm with
    | map _ kb hkb =>
      obtain ⟨es, clock, h1, h2, h3⟩ := hh.obj b kb _ hkb hb
      have hg : (getObj kb.r).run P w = .ok (.map es clock) w := run_getObj' h1 (by intros; simp)
      have hck := check_key (P := P) false hks hk
      have hfk := findKey_sound (P := P) hk hks (es := es.toList) (by simpa using h2) (fun i e p h4 h5 => (h3 i e p (by simpa using h4) h5).1)
      have hlt : kb.r < w.heap.size := hh.lt b kb hkb
      have hset : ∀ o : Obj, (setObj kb.r o).run P w = .ok () { w with heap := w.heap.setIfInBounds kb.r o } := by
        intro o
        simp only [setObj, Sem.run, h1]
      have done : ∀ (o : Obj) (kvs' : List (AV × AV)), aset kvs k x = kvs' → (∀ (O' : Nat → Prop) (w' : World), w'.heap[kb.r]? = some o → (∀ y v, VRel J (Own h J) w y v → VRel J O' w' y v) → ORel J O' w' kb (.map kvs')) →
          (Instr.mapUpdate t (.map (some kb.r)) vk vx).run P w = .ok () { w with heap := w.heap.setIfInBounds kb.r o } → Steps0 P gl h J w (Instr.mapUpdate t (.map (some kb.r)) vk vx) R := by
        intro o kvs' e1 e2 e3
        have hnew : ({ w with heap := w.heap.setIfInBounds kb.r o } : World).heap[kb.r]? = some o := by simp [hlt]
        obtain ⟨r1, r2⟩ := hh.set (o' := .map kvs) (k := kb) (w' := { w with heap := w.heap.setIfInBounds kb.r o }) (.map kvs') hkb hb (by simp) (by simp) (fun r hr => by simp [Array.getElem?_setIfInBounds_ne (Ne.symm hr)]) rfl rfl rfl (fun O' hmm => e2 O' _ hnew hmm)
        exact ⟨_, J, _, e3, r1, r2, by rw [← e1]; exact hR⟩
      cases hidx : aidx kvs k with
      | none =>
        have hfa : foundAt kvs k es.toList 0 = none := by simp [foundAt, hidx]
        rw [hfa] at hfk
        refine done (.map (es.push { key := vk, val := vx, born := clock }) (clock + 1)) (kvs ++ [(k, x)]) (by simp [aset, hidx]) ?_ ?_
        · intro O' w' hw' hmm
          refine ⟨_, _, hw', by simp [h2], ?_⟩
          intro i e p hi hp
          rw [Array.getElem?_push] at hi
          split at hi
          · rename_i hie
            injection hi with hi
            subst hi
            rw [hie, h2, List.getElem?_append_right (Nat.le_refl _), Nat.sub_self] at hp
            simp at hp
            subst hp
            exact ⟨hmm _ _ hk, hmm _ _ hx⟩
          · have hil : i < kvs.length := by rw [← h2]; exact (Array.getElem?_eq_some_iff.1 hi).1
            rw [List.getElem?_append_left hil] at hp
            exact ⟨hmm _ _ (h3 i e p hi hp).1, hmm _ _ (h3 i e p hi hp).2⟩
        · simp [Instr.mapUpdate, run_underlying hu, hg, hck, hfk, hset]
      | some i =>
        have hil := (List.findIdx?_eq_some_iff_getElem.1 hidx)
        obtain ⟨hlt', hceq, _⟩ := hil
        have hie : es[i]? = some (es[i]'(by omega)) := Array.getElem?_eq_getElem (by omega)
        have hfa : foundAt kvs k es.toList 0 = some (i, (es[i]'(by omega)).val) := by
          simp [foundAt, hidx, hie]
        rw [hfa] at hfk
        obtain ⟨ha, bs, hf, hc, hall⟩ := hks
        obtain ⟨hap, hcp⟩ := hall kvs[i] (List.getElem_mem hlt')
        have hkp := (h3 i _ kvs[i] hie (List.getElem?_eq_getElem hlt')).1
        have hst := run_keyStays (P := P) hf ha hap hk hkp hcp hceq
        refine done (.map (es.modify i fun e => { e with key := vk, val := vx }) clock) (kvs.set i (k, x)) (by simp [aset, hidx]) ?_ ?_
        · intro O' w' hw' hmm
          refine ⟨_, _, hw', by simp [h2], ?_⟩
          intro j e p hj hp
          rw [Array.getElem?_modify] at hj
          by_cases hij : i = j
          · subst hij
            rw [if_pos rfl, hie] at hj
            simp at hj
            subst hj
            rw [List.getElem?_set_self hlt'] at hp
            injection hp with hp
            subst hp
            exact ⟨hmm _ _ hk, hmm _ _ hx⟩
          · rw [if_neg hij] at hj
            rw [List.getElem?_set_ne hij] at hp
            exact ⟨hmm _ _ (h3 j e p hj hp).1, hmm _ _ (h3 j e p hj hp).2⟩
        · simp [Instr.mapUpdate, run_underlying hu, hg, hck, hfk, hset, hie, hst]
  · cases him
end
end Go.Abs
