/-
  The library's sort by a comparison of numbers: the kit's contract, told over the abstract state.
  The library's sort by a comparison of numbers where elements may be alike: some order of them, sorted.
-/
import Derived.Test.YtiidghfioofpkaaGreatAbsStr
import Derived.Test.YtiidghfioofpkaaGreatAbsMore
import Derived.Shelf.SlSortCmp.NoneTotal
set_option linter.unusedVariables false
set_option linter.unusedSimpArgs false

section 

namespace Go.Abs
open Go Go.Proofs Go.Shelf Go.RowKit Go.Lib Go.Sort

/-- Elements of plain numbers: their cells and their values. -/
structure EncV {β : Type} (k : Nat) (enc : β → List AV) (encV : β → List Value) : Prop where
  pos : 0 < k
  len : ∀ x, (enc x).length = k
  lenV : ∀ x, (encV x).length = k
  one : ∀ x, ∀ v ∈ encV x, v.oneCell' = true
  rel : ∀ x (c : Nat) y, (enc x)[c]? = some y → ∃ u, (encV x)[c]? = some u ∧ (∀ J O w, VRel J O w y u) ∧ ∀ J O w v, VRel J O w y v → v = u

theorem key_le {β : Type} (key : β → Int) (x y : β) : (!(ltOf (fun x y : β => key x - key y) y x)) = decide (key x ≤ key y) := by
  simp only [ltOf]
  by_cases h : key x ≤ key y
  · rw [decide_eq_true h, decide_eq_false (by omega)]; rfl
  · rw [decide_eq_false h, decide_eq_true (by omega)]; rfl

theorem sortf_ls {P : Program} {ρ : Ren} {gl : Globs} {h : AHeap} (L : SlLaysF0.n6 P ρ) {β : Type} (k : Nat) (aE : ∀ w, (isAgg (ρ.t 24)).run P w = .ok true w) (zE : ∀ w, (Go.sizeOf (ρ.t 24)).run P w = .ok k w) (enc : β → List AV) (encV : β → List Value) (hE : EncV k enc encV)
    (key : β → Int) (g : Nat) (eg : ∀ args w, (callFunc g args).run P w = .ok (.enter g args) w) (rows : List β)
    (hcmp : ∀ x ∈ rows, ∀ y ∈ rows, ∀ W, Calls P g #[.agg (encV x).toArray, .agg (encV y).toArray] W fun e w' => e = .returned (.int .i64 (key x - key y)) ∧ ∃ q os', w' = grow (W.drewN q) os')
    (hnd : (rows.map key).Nodup) (hl : rows.length < 4611686018427387904) {lo : Nat} {x : AV} (hx : Ls k lo h x (rows.map enc)) :
    ACalls P gl (ρ.f 6) [x, .fn (.func g) [] []] h fun v h' => v = .tup [] ∧ Ls k lo h' x ((rows.mergeSort fun a b => decide (key a ≤ key b)).map enc) ∧ h'.length = h.length ∧ ∀ (b : Nat) (o : AObj), h[b]? = some o → (∀ off len, x ≠ .own b off len) → h'[b]? = some o := by
  refine ⟨?_, fun J w vs hh hv => ?_⟩
  · obtain ⟨nm, hn, hf⟩ := L.f6
    exact ⟨_, hf, rfl, hn⟩
  · obtain ⟨hvl, hvr⟩ := hv
    match vs, hvl with
    | [v, vf], _ =>
      have hr := hvr 0 _ v rfl rfl
      have hrf := hvr 1 _ vf rfl rfl
      have hvf : vf = .func (.func g) #[] #[] := by
        cases hrf with
        | fn _ _ _ a c h1 h2 _ _ =>
          obtain rfl := List.length_eq_zero_iff.1 h1.symm
          obtain rfl := List.length_eq_zero_iff.1 h2.symm
          rfl
      subst hvf
      by_cases h0 : rows = []
      · subst h0
        obtain ⟨base, cap, hv0⟩ : ∃ base cap, v = .slice base 0 cap := by
          rcases hx.1 with ⟨rfl, _⟩ | ⟨b, rfl, _⟩
          · cases hr; exact ⟨none, 0, rfl⟩
          · cases hr with
            | own _ _ _ k a cap _ _ _ _ => exact ⟨some a, cap, rfl⟩
        subst hv0
        refine Calls.mono' (AnyF.slices_SortFunc_none L base cap (.func (.func g) #[] #[]) w) ?_
        rintro e w' ⟨rfl, rfl⟩
        exact ⟨.tup [], _, J, h, rfl, hh, .tup [] [] rfl (by simp), Evo.refl _ _ _, rfl, by simpa using hx, rfl, fun _ _ ho _ => ho⟩
      · have hpos : 0 < rows.length := List.length_pos_iff.2 h0
        rcases hx.1 with ⟨_, he⟩ | ⟨b, rfl, hlb, hb⟩
        · simp at he; exact absurd he h0
        cases hr with
        | own _ _ _ kb a cap hk ha hle hcap =>
          rw [List.length_map] at hle
          have ha' := ha (by omega)
          subst ha'
          obtain ⟨o1, o2, o3, o4, vs0, T, o5, o6, o7⟩ := hh.obj b kb _ hk hb
          have hkn : kb.n = k := o1
          obtain ⟨x0, hx0⟩ : ∃ x0, x0 ∈ rows := List.exists_mem_of_ne_nil _ h0
          let α := {x : β // x ∈ rows}
          haveI : Inhabited α := ⟨⟨x0, hx0⟩⟩
          have hmul : ∀ i c, i < rows.length → c < k → i * k + c < rows.length * k := fun i c hi hc => by
            have : (i + 1) * k ≤ rows.length * k := Nat.mul_le_mul_right k hi
            rw [Nat.add_mul, Nat.one_mul] at this; omega
          have cellv : ∀ (i c : Nat) (s : β), rows[i]? = some s → c < k → vs0[kb.base + (i * k + c)]? = some (encV s)[c]! := fun i c s hs hc => by
            have hcl : c < (enc s).length := by rw [hE.len]; exact hc
            have hy : (enc s)[c]? = some ((enc s)[c]) := List.getElem?_eq_getElem hcl
            obtain ⟨u, p1, p2, p3⟩ := o7 i (enc s) c _ (by rw [List.getElem?_map, hs]; rfl) hy
            obtain ⟨u', q1, q2, q3⟩ := hE.rel s c _ hy
            have e1 := q3 _ _ _ _ p3
            subst e1
            rw [hkn] at p1
            rw [p1, List.getElem!_eq_getElem?_getD, q1]; rfl
          have hd : (rows.attach.toArray : Array α).size = rows.length := by simp
          have hat : ∀ i, i < rows.length → ∃ s, rows[i]? = some s ∧ ((rows.attach.toArray : Array α)[i]!).1 = s := fun i hi => by
            refine ⟨rows[i], List.getElem?_eq_getElem hi, ?_⟩
            rw [getElem!_pos _ i (by rw [hd]; exact hi)]
            simp
          let encA : α → List Value := fun x => encV x.1
          have hH : HoldsK encA k w kb.r (kb.base + 0 * kb.n) (rows.attach.toArray : Array α) := fun t ht => by
            rw [size_flatK, hd] at ht
            rw [get_flatK _ _ _ _ (by rw [hd]; exact ht)]
            have hi : t / k < rows.length := (Nat.div_lt_iff_lt_mul hE.pos).2 ht
            obtain ⟨s, hs, hs'⟩ := hat (t / k) hi
            have hc : t % k < k := Nat.mod_lt _ hE.pos
            refine ⟨?_, by simp [World.frozen?, o5]⟩
            rw [cell_of_heap o5, Nat.zero_mul, Nat.add_zero]
            have := cellv (t / k) (t % k) s hs hc
            rw [Nat.mul_comm, Nat.div_add_mod] at this
            rw [this]
            show _ = some ((encV ((rows.attach.toArray : Array α)[t / k]!).1)[t % k]!)
            rw [hs']
          have hswo : SWO (ltOf fun x y : α => key x.1 - key y.1) := by
            refine ⟨fun x => ?_, fun x y z h1 h2 => ?_, fun x y z h1 h2 => ?_⟩ <;> simp only [ltOf, decide_eq_true_eq, decide_eq_false_iff_not] at * <;> omega
          have hT : ∀ x y : α, (ltOf fun x y : α => key x.1 - key y.1) x y = false → (ltOf fun x y : α => key x.1 - key y.1) y x = false → x = y := by
            rintro ⟨x, hx⟩ ⟨y, hy⟩ h1 h2
            simp only [ltOf, decide_eq_false_iff_not] at h1 h2
            have hk : key x = key y := by omega
            obtain ⟨i, hi⟩ := List.getElem?_of_mem hx
            obtain ⟨j, hj⟩ := List.getElem?_of_mem hy
            have e : i = j := by
              have a1 : (rows.map key)[i]? = some (key x) := by rw [List.getElem?_map, hi]; rfl
              have a2 : (rows.map key)[j]? = some (key x) := by rw [List.getElem?_map, hj, hk]; rfl
              exact nodup_get hnd a1 a2
            subst e
            rw [hi] at hj
            exact Subtype.ext (Option.some.inj hj)
          have hlays : CmpLays P g #[] encA k (fun x y : α => key x.1 - key y.1) kb.r (kb.base + 0 * kb.n) (rows.attach.toArray : Array α).size w := fun m os dk hdk x y => hcmp x.1 x.2 y.1 y.2 _
          have hcall := AnyQ.slices_SortFunc_total L k aE zE encA (fun x => hE.lenV x.1) (fun x => hE.one x.1) (fun x y : α => key x.1 - key y.1) hswo g #[] kb.r (kb.base + 0 * kb.n) cap (rows.attach.toArray : Array α) w eg hlays hH (hh.lt b kb hk) (by rw [hd]; exact hl) hT
          rw [hd] at hcall
          rw [List.length_map] at *
          refine Calls.mono' hcall ?_
          rintro e w' ⟨rfl, n, os, rfl⟩
          obtain ⟨srt, hsrt⟩ : ∃ srt, srt = rows.mergeSort fun a b => decide (key a ≤ key b) := ⟨_, rfl⟩
          obtain ⟨dl, hdl⟩ : ∃ dl : List α, dl = rows.attach.mergeSort fun x y => !(ltOf (fun x y : α => key x.1 - key y.1) y x) := ⟨_, rfl⟩
          have hmap : dl.map Subtype.val = srt := by
            rw [hdl, hsrt, List.map_mergeSort (r := fun x y : α => !(ltOf (fun x y : α => key x.1 - key y.1) y x)) (s := fun a b => decide (key a ≤ key b)), List.attach_map_subtype_val]
            intro a _ b _
            simp only [ltOf]
            by_cases h : key a.1 ≤ key b.1
            · rw [decide_eq_true h, decide_eq_false (by omega)]; rfl
            · rw [decide_eq_false h, decide_eq_true (by omega)]; rfl
          have hdll : dl.length = rows.length := by rw [hdl, List.length_mergeSort, List.length_attach]
          have hsl : srt.length = rows.length := by rw [hsrt, List.length_mergeSort]
          rw [show (rows.attach.toArray : Array α).toList = rows.attach by simp, ← hdl, ← hsrt]
          have hw1 : (putRowK encA k (Sort.ahead w n) kb.r (kb.base + 0 * kb.n) dl.toArray).heap[kb.r]? = some (.cells (Sort.putCells id (kb.base + 0 * kb.n) (flatK encA k dl.toArray) vs0) T (0, 0)) := by
            show (w.heap.modify kb.r _)[kb.r]? = _
            rw [Array.getElem?_modify, if_pos rfl, o5]; rfl
          have keyr := hh.set (w' := putRowK encA k (Sort.ahead w n) kb.r (kb.base + 0 * kb.n) dl.toArray) (.cells k (srt.map enc)) hk hb (by simp) (by show (w.heap.modify kb.r _).size = _; rw [Array.size_modify]) (fun r hr => by
              show (w.heap.modify kb.r _)[r]? = _
              rw [Array.getElem?_modify, if_neg (Ne.symm hr)]) rfl rfl rfl (fun O' hm => by
            refine ⟨hkn, by omega, by rw [List.length_map, hsl]; simpa using o3, fun i e he => ?_, _, T, hw1, ?_, fun i e c y he hy => ?_⟩
            · obtain ⟨s, _, rfl⟩ := List.mem_map.1 (List.mem_of_getElem? he)
              rw [hE.len, hkn]
            · rw [Sort.putCells, Array.size_mapIdx]; exact o6
            · rw [List.getElem?_map, Option.map_eq_some_iff] at he
              obtain ⟨s, hs, rfl⟩ := he
              have hil := (List.getElem?_eq_some_iff.1 hs).1
              have hc : c < k := by rw [← hE.len s]; exact (List.getElem?_eq_some_iff.1 hy).1
              obtain ⟨u, q1, q2, q3⟩ := hE.rel s c y hy
              refine ⟨u, ?_, hE.one s u (List.mem_of_getElem? q1), q2 _ _ _⟩
              have hlt := hmul i c (by omega) hc
              obtain ⟨s0, hs0, _⟩ := hat i (by omega)
              rw [Sort.putCells, Array.getElem?_mapIdx, hkn, cellv i c s0 hs0 hc, Option.map_some, size_flatK, if_pos (by simp [hdll]; exact hlt)]
              have e1 : kb.base + (i * k + c) - (kb.base + 0 * k) = i * k + c := by omega
              rw [e1, get_flatK _ _ _ _ (by simp [hdll]; exact hlt)]
              have e2 : (i * k + c) / k = i := by rw [Nat.mul_comm, Nat.mul_add_div hE.pos, Nat.div_eq_of_lt hc, Nat.add_zero]
              have e3 : (i * k + c) % k = c := by rw [Nat.mul_comm, Nat.mul_add_mod, Nat.mod_eq_of_lt hc]
              rw [e2, e3]
              show some (id ((encV (dl.toArray[i]!).1)[c]!)) = some u
              have e4 : (dl.toArray[i]!).1 = s := by
                rw [getElem!_pos dl.toArray i (by simp; omega)]
                have := hs
                rw [← hmap, List.getElem?_map, Option.map_eq_some_iff] at this
                obtain ⟨z, hz, rfl⟩ := this
                simp only [List.getElem_toArray]
                rw [(List.getElem?_eq_some_iff.1 hz).2]
              rw [e4, List.getElem!_eq_getElem?_getD, q1]; rfl)
          obtain ⟨r1, ev1⟩ := keyr
          obtain ⟨r2, ev2⟩ := grow_rel r1 os
          refine ⟨.tup [], _, J, _, rfl, r2, .tup [] [] rfl (by simp), ev1.trans ev2, rfl, ?_, by simp, fun b' o' ho hne => ?_⟩
          · refine Ls.own (List.getElem?_set_self (List.getElem?_eq_some_iff.1 hb).1) hlb (by simp [hsl]) fun e he => ?_
            obtain ⟨s, _, rfl⟩ := List.mem_map.1 he
            exact hE.len s
          · rw [List.getElem?_set_ne (by rintro rfl; exact hne _ _ rfl)]; exact ho
end Go.Abs
end

section 

namespace Go.Abs
open Go Go.Proofs Go.Shelf Go.RowKit Go.Lib Go.Sort

/-- The library's sort where elements may have the same key: some order of the elements, sorted. -/
theorem sortf_any {P : Program} {ρ : Ren} {gl : Globs} {h : AHeap} (L : SlLaysF0.n6 P ρ) {β : Type} (k : Nat) (aE : ∀ w, (isAgg (ρ.t 24)).run P w = .ok true w) (zE : ∀ w, (Go.sizeOf (ρ.t 24)).run P w = .ok k w) (enc : β → List AV) (encV : β → List Value) (hE : EncV k enc encV)
    (key : β → Int) (cf : β → β → Int) (hcf : ∀ x y, cf x y < 0 ↔ key x < key y) (g : Nat) (eg : ∀ args w, (callFunc g args).run P w = .ok (.enter g args) w) (rows : List β)
    (hcmp : ∀ x ∈ rows, ∀ y ∈ rows, ∀ W, Calls P g #[.agg (encV x).toArray, .agg (encV y).toArray] W fun e w' => e = .returned (.int .i64 (cf x y)) ∧ ∃ q os', w' = grow (W.drewN q) os')
    (hl : rows.length < 4611686018427387904) {lo : Nat} {x : AV} (hx : Ls k lo h x (rows.map enc)) :
    ACalls P gl (ρ.f 6) [x, .fn (.func g) [] []] h fun v h' => v = .tup [] ∧ (∃ srt : List β, srt.Perm rows ∧ (srt.Pairwise fun a b => key a ≤ key b) ∧ Ls k lo h' x (srt.map enc)) ∧ h'.length = h.length ∧ ∀ (b : Nat) (o : AObj), h[b]? = some o → (∀ off len, x ≠ .own b off len) → h'[b]? = some o := by
  refine ⟨?_, fun J w vs hh hv => ?_⟩
  · obtain ⟨nm, hn, hf⟩ := L.f6
    exact ⟨_, hf, rfl, hn⟩
  · obtain ⟨hvl, hvr⟩ := hv
    match vs, hvl with
    | [v, vf], _ =>
      have hr := hvr 0 _ v rfl rfl
      have hrf := hvr 1 _ vf rfl rfl
      have hvf : vf = .func (.func g) #[] #[] := by
        cases hrf with
        | fn _ _ _ a c h1 h2 _ _ =>
          obtain rfl := List.length_eq_zero_iff.1 h1.symm
          obtain rfl := List.length_eq_zero_iff.1 h2.symm
          rfl
      subst hvf
      by_cases h0 : rows = []
      · subst h0
        obtain ⟨base, cap, hv0⟩ : ∃ base cap, v = .slice base 0 cap := by
          rcases hx.1 with ⟨rfl, _⟩ | ⟨b, rfl, _⟩
          · cases hr; exact ⟨none, 0, rfl⟩
          · cases hr with
            | own _ _ _ k a cap _ _ _ _ => exact ⟨some a, cap, rfl⟩
        subst hv0
        refine Calls.mono' (AnyF.slices_SortFunc_none L base cap (.func (.func g) #[] #[]) w) ?_
        rintro e w' ⟨rfl, rfl⟩
        exact ⟨.tup [], _, J, h, rfl, hh, .tup [] [] rfl (by simp), Evo.refl _ _ _, rfl, ⟨[], .refl _, .nil, by simpa using hx⟩, rfl, fun _ _ ho _ => ho⟩
      · have hpos : 0 < rows.length := List.length_pos_iff.2 h0
        rcases hx.1 with ⟨_, he⟩ | ⟨b, rfl, hlb, hb⟩
        · simp at he; exact absurd he h0
        cases hr with
        | own _ _ _ kb a cap hk ha hle hcap =>
          rw [List.length_map] at hle
          have ha' := ha (by omega)
          subst ha'
          obtain ⟨o1, o2, o3, o4, vs0, T, o5, o6, o7⟩ := hh.obj b kb _ hk hb
          have hkn : kb.n = k := o1
          obtain ⟨x0, hx0⟩ : ∃ x0, x0 ∈ rows := List.exists_mem_of_ne_nil _ h0
          let α := {x : β // x ∈ rows}
          haveI : Inhabited α := ⟨⟨x0, hx0⟩⟩
          have hmul : ∀ i c, i < rows.length → c < k → i * k + c < rows.length * k := fun i c hi hc => by
            have : (i + 1) * k ≤ rows.length * k := Nat.mul_le_mul_right k hi
            rw [Nat.add_mul, Nat.one_mul] at this; omega
          have cellv : ∀ (i c : Nat) (s : β), rows[i]? = some s → c < k → vs0[kb.base + (i * k + c)]? = some (encV s)[c]! := fun i c s hs hc => by
            have hcl : c < (enc s).length := by rw [hE.len]; exact hc
            have hy : (enc s)[c]? = some ((enc s)[c]) := List.getElem?_eq_getElem hcl
            obtain ⟨u, p1, p2, p3⟩ := o7 i (enc s) c _ (by rw [List.getElem?_map, hs]; rfl) hy
            obtain ⟨u', q1, q2, q3⟩ := hE.rel s c _ hy
            have e1 := q3 _ _ _ _ p3
            subst e1
            rw [hkn] at p1
            rw [p1, List.getElem!_eq_getElem?_getD, q1]; rfl
          have hd : (rows.attach.toArray : Array α).size = rows.length := by simp
          have hat : ∀ i, i < rows.length → ∃ s, rows[i]? = some s ∧ ((rows.attach.toArray : Array α)[i]!).1 = s := fun i hi => by
            refine ⟨rows[i], List.getElem?_eq_getElem hi, ?_⟩
            rw [getElem!_pos _ i (by rw [hd]; exact hi)]
            simp
          let encA : α → List Value := fun x => encV x.1
          have hH : HoldsK encA k w kb.r (kb.base + 0 * kb.n) (rows.attach.toArray : Array α) := fun t ht => by
            rw [size_flatK, hd] at ht
            rw [get_flatK _ _ _ _ (by rw [hd]; exact ht)]
            have hi : t / k < rows.length := (Nat.div_lt_iff_lt_mul hE.pos).2 ht
            obtain ⟨s, hs, hs'⟩ := hat (t / k) hi
            have hc : t % k < k := Nat.mod_lt _ hE.pos
            refine ⟨?_, by simp [World.frozen?, o5]⟩
            rw [cell_of_heap o5, Nat.zero_mul, Nat.add_zero]
            have := cellv (t / k) (t % k) s hs hc
            rw [Nat.mul_comm, Nat.div_add_mod] at this
            rw [this]
            show _ = some ((encV ((rows.attach.toArray : Array α)[t / k]!).1)[t % k]!)
            rw [hs']
          have hswo : SWO (ltOf fun x y : α => cf x.1 y.1) := by
            refine ⟨fun x => ?_, fun x y z h1 h2 => ?_, fun x y z h1 h2 => ?_⟩ <;> simp only [ltOf, decide_eq_true_eq, decide_eq_false_iff_not, hcf] at * <;> omega
          have hlays : CmpLays P g #[] encA k (fun x y : α => cf x.1 y.1) kb.r (kb.base + 0 * kb.n) (rows.attach.toArray : Array α).size w := fun m os dk hdk x y => hcmp x.1 x.2 y.1 y.2 _
          have hcall := AnyQ.slices_SortFunc L k aE zE encA (fun x => hE.lenV x.1) (fun x => hE.one x.1) (fun x y : α => cf x.1 y.1) hswo g #[] kb.r (kb.base + 0 * kb.n) cap (rows.attach.toArray : Array α) w eg hlays hH (hh.lt b kb hk) (by rw [hd]; exact hl)
          rw [hd] at hcall
          rw [List.length_map] at *
          refine Calls.mono' hcall ?_
          rintro e w' ⟨rfl, d', n, os, hP, hS, rfl⟩
          obtain ⟨hsz, _, hperm⟩ := hP
          have e1 : d'.extract 0 rows.length = d' := by rw [← hd, ← hsz]; exact Array.extract_size
          have e2 : (rows.attach.toArray : Array α).extract 0 rows.length = rows.attach.toArray := by rw [← hd]; exact Array.extract_size
          rw [e1, e2] at hperm
          obtain ⟨dl, rfl⟩ : ∃ dl : List α, d' = dl.toArray := ⟨d'.toList, by simp⟩
          have hdp : dl.Perm rows.attach := by simpa using hperm
          obtain ⟨srt, hsrt⟩ : ∃ srt, srt = dl.map Subtype.val := ⟨_, rfl⟩
          have hmap : dl.map Subtype.val = srt := hsrt.symm
          have hdll : dl.length = rows.length := by rw [hdp.length_eq, List.length_attach]
          have hsl : srt.length = rows.length := by rw [hsrt, List.length_map, hdll]
          have hsp : srt.Perm rows := by rw [hsrt]; have := hdp.map Subtype.val; rwa [List.attach_map_subtype_val] at this
          have hpw : srt.Pairwise fun a b => key a ≤ key b := by
            rw [List.pairwise_iff_getElem]
            intro i j hi hj hij
            have h1 := hS i j (Nat.zero_le _) hij (by omega)
            rw [getElem!_pos dl.toArray j (by simp; omega), getElem!_pos dl.toArray i (by simp; omega)] at h1
            simp only [ltOf, decide_eq_false_iff_not, hcf, List.getElem_toArray] at h1
            simp only [hsrt, List.getElem_map]
            omega
          have hw1 : (putRowK encA k (Sort.ahead w n) kb.r (kb.base + 0 * kb.n) dl.toArray).heap[kb.r]? = some (.cells (Sort.putCells id (kb.base + 0 * kb.n) (flatK encA k dl.toArray) vs0) T (0, 0)) := by
            show (w.heap.modify kb.r _)[kb.r]? = _
            rw [Array.getElem?_modify, if_pos rfl, o5]; rfl
          have keyr := hh.set (w' := putRowK encA k (Sort.ahead w n) kb.r (kb.base + 0 * kb.n) dl.toArray) (.cells k (srt.map enc)) hk hb (by simp) (by show (w.heap.modify kb.r _).size = _; rw [Array.size_modify]) (fun r hr => by
              show (w.heap.modify kb.r _)[r]? = _
              rw [Array.getElem?_modify, if_neg (Ne.symm hr)]) rfl rfl rfl (fun O' hm => by
            refine ⟨hkn, by omega, by rw [List.length_map, hsl]; simpa using o3, fun i e he => ?_, _, T, hw1, ?_, fun i e c y he hy => ?_⟩
            · obtain ⟨s, _, rfl⟩ := List.mem_map.1 (List.mem_of_getElem? he)
              rw [hE.len, hkn]
            · rw [Sort.putCells, Array.size_mapIdx]; exact o6
            · rw [List.getElem?_map, Option.map_eq_some_iff] at he
              obtain ⟨s, hs, rfl⟩ := he
              have hil := (List.getElem?_eq_some_iff.1 hs).1
              have hc : c < k := by rw [← hE.len s]; exact (List.getElem?_eq_some_iff.1 hy).1
              obtain ⟨u, q1, q2, q3⟩ := hE.rel s c y hy
              refine ⟨u, ?_, hE.one s u (List.mem_of_getElem? q1), q2 _ _ _⟩
              have hlt := hmul i c (by omega) hc
              obtain ⟨s0, hs0, _⟩ := hat i (by omega)
              rw [Sort.putCells, Array.getElem?_mapIdx, hkn, cellv i c s0 hs0 hc, Option.map_some, size_flatK, if_pos (by simp [hdll]; exact hlt)]
              have e1 : kb.base + (i * k + c) - (kb.base + 0 * k) = i * k + c := by omega
              rw [e1, get_flatK _ _ _ _ (by simp [hdll]; exact hlt)]
              have e2 : (i * k + c) / k = i := by rw [Nat.mul_comm, Nat.mul_add_div hE.pos, Nat.div_eq_of_lt hc, Nat.add_zero]
              have e3 : (i * k + c) % k = c := by rw [Nat.mul_comm, Nat.mul_add_mod, Nat.mod_eq_of_lt hc]
              rw [e2, e3]
              show some (id ((encV (dl.toArray[i]!).1)[c]!)) = some u
              have e4 : (dl.toArray[i]!).1 = s := by
                rw [getElem!_pos dl.toArray i (by simp; omega)]
                have := hs
                rw [← hmap, List.getElem?_map, Option.map_eq_some_iff] at this
                obtain ⟨z, hz, rfl⟩ := this
                simp only [List.getElem_toArray]
                rw [(List.getElem?_eq_some_iff.1 hz).2]
              rw [e4, List.getElem!_eq_getElem?_getD, q1]; rfl)
          obtain ⟨r1, ev1⟩ := keyr
          obtain ⟨r2, ev2⟩ := grow_rel r1 os
          refine ⟨.tup [], _, J, _, rfl, r2, .tup [] [] rfl (by simp), ev1.trans ev2, rfl, ⟨srt, hsp, hpw, ?_⟩, by simp, fun b' o' ho hne => ?_⟩
          · refine Ls.own (List.getElem?_set_self (List.getElem?_eq_some_iff.1 hb).1) hlb (by simp [hsl]) fun e he => ?_
            obtain ⟨s, _, rfl⟩ := List.mem_map.1 he
            exact hE.len s
          · rw [List.getElem?_set_ne (by rintro rfl; exact hne _ _ rfl)]; exact ho
end Go.Abs
end
