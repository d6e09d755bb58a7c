/-
  The library's sort of texts: the kit's contract, told over the abstract state.
-/
import Derived.Test.YtmdenljmfeejfaaAbsMore
import Derived.Shelf.SortM.Plain
import Derived.Shelf.SortM.SortNone
set_option linter.unusedVariables false
set_option linter.unusedSimpArgs false
namespace Go.Abs
open Go Go.Proofs Go.Shelf


theorem grow_rel {gl : Globs} {h : AHeap} {J : List Blk} {w : World} (hh : HRel gl h J w) (os : Array Obj) : HRel gl h J (Sort.grow w os) ∧ Evo h J w h J (Sort.grow w os) := by
  have hk : ∀ r, r < w.heap.size → (Sort.grow w os).heap[r]? = w.heap[r]? := fun r hr => by
    show (w.heap ++ os)[r]? = _
    rw [Array.getElem?_append_left hr]
  have ev : Evo h J w h J (Sort.grow w os) := ⟨⟨[], by simp⟩, by simp [Sort.grow], fun r hr n => ⟨hk r hr, n⟩, rfl, rfl, rfl⟩
  exact ⟨hh.step ev hh.len hh.inj (fun b k hb => Nat.lt_of_lt_of_le (hh.lt b k hb) ev.size) (fun b k o h1 h2 _ => .inl ⟨h1, h2, hk _ (hh.lt b k h1)⟩), ev⟩

theorem sort_str {P : Program} {ρ : Ren} {gl : Globs} {h : AHeap} (Ly : SlLaysM.n6 P ρ) (b : Nat) (ss : List (List UInt8)) (hb : h[b]? = some (.cells 1 (ss.map encT))) (hl : ss.length < 4611686018427387904) :
    ACalls P gl (ρ.f 6) [.own b 0 ss.length] h fun v h' => v = .tup [] ∧ h' = h.set b (.cells 1 ((sortT ss).map encT)) := by
  refine ⟨?_, fun J w vs hh hv => ?_⟩
  · obtain ⟨nm, hn, hf⟩ := Ly.f6
    exact ⟨_, hf, rfl, hn⟩
  · obtain ⟨hvl, hvr⟩ := hv
    match vs, hvl with
    | [v], _ =>
      have hr := hvr 0 _ v rfl rfl
      cases hr with
      | own _ _ _ k a cap hk ha hle hcap =>
        by_cases h0 : ss = []
        · subst h0
          refine Calls.mono' (AnyM.slices_Sort_string_none Ly (some a) cap w) ?_
          rintro e w' ⟨rfl, rfl⟩
          have hset : h.set b (.cells 1 ((sortT []).map encT)) = h := by
            refine List.ext_getElem? fun i => ?_
            rw [List.getElem?_set]
            split
            · rename_i e; subst e
              rw [if_pos (List.getElem?_eq_some_iff.1 hb).1, hb, show sortT [] = [] from List.mergeSort_nil]
            · rfl
          exact ⟨.tup [], _, J, h, rfl, hh, .tup [] [] rfl (by simp), Evo.refl _ _ _, rfl, hset.symm⟩
        · have hpos : 0 < ss.length := List.length_pos_iff.2 h0
          have ha' := ha (by omega)
          subst ha'
          obtain ⟨o1, o2, o3, o4, vs0, T, o5, o6, o7⟩ := hh.obj b k _ hk hb
          have hkn : k.n = 1 := o1
          have cellv : ∀ (i : Nat) (s : List UInt8), ss[i]? = some s → vs0[k.base + i]? = some (encStr s) := fun i s hs => by
            obtain ⟨u, p1, p2, p3⟩ := o7 i (encT s) 0 (.str s) (by rw [List.getElem?_map, hs]; rfl) rfl
            rw [hkn] at p1
            cases p3
            simpa using p1
          have hH : Sort.Holds encStr w k.r (k.base + 0 * k.n) ss.toArray := fun j hj => by
            have hj' : j < ss.length := by simpa using hj
            obtain ⟨s, hs, hs'⟩ : ∃ s, ss[j]? = some s ∧ ss[j] = s := ⟨_, List.getElem?_eq_getElem hj', rfl⟩
            have e : ss.toArray[j]! = s := by rw [getElem!_pos ss.toArray j hj]; simpa using hs'
            rw [e, Nat.zero_mul, Nat.add_zero]
            refine ⟨?_, ?_⟩
            · rw [cell_of_heap o5]; exact cellv j s hs
            · simp [World.frozen?, o5]
          refine Calls.mono' (AnyM.slices_Sort_string Ly k.r (k.base + 0 * k.n) cap ss w hH (hh.lt b k hk) hl) ?_
          rintro e w' ⟨rfl, n, os, rfl⟩
          obtain ⟨d, hd⟩ : ∃ d, d = sortT ss := ⟨_, rfl⟩
          have hdl : d.length = ss.length := by rw [hd, sortT, List.length_mergeSort]
          rw [show (ss.mergeSort fun x y => decide (x ≤ y)) = d from hd.symm, ← hd]
          have hw1 : (Sort.putRow encStr (Sort.ahead w n) k.r (k.base + 0 * k.n) d.toArray).heap[k.r]? = some (.cells (Sort.putCells encStr (k.base + 0 * k.n) d.toArray vs0) T (0, 0)) := by
            show (w.heap.modify k.r _)[k.r]? = _
            rw [Array.getElem?_modify, if_pos rfl, o5]; rfl
          have key := hh.set (w' := Sort.putRow encStr (Sort.ahead w n) k.r (k.base + 0 * k.n) d.toArray) (.cells 1 (d.map encT)) hk hb (by simp) (by show (w.heap.modify k.r _).size = _; rw [Array.size_modify]) (fun r hr => by
              show (w.heap.modify k.r _)[r]? = _
              rw [Array.getElem?_modify, if_neg (Ne.symm hr)]) rfl rfl rfl (fun O' hm => by
            refine ⟨hkn, by omega, by rw [List.length_map, hdl]; simpa using o3, fun i e he => ?_, _, T, hw1, ?_, fun i e c x he hx => ?_⟩
            · obtain ⟨s, _, rfl⟩ := List.mem_map.1 (List.mem_of_getElem? he)
              exact hkn.symm
            · rw [Sort.putCells, Array.size_mapIdx]; exact o6
            · rw [List.getElem?_map, Option.map_eq_some_iff] at he
              obtain ⟨s, hs, rfl⟩ := he
              have hil := (List.getElem?_eq_some_iff.1 hs).1
              cases c with
              | zero =>
                obtain rfl := Option.some.inj hx
                refine ⟨encStr s, ?_, rfl, .str s⟩
                obtain ⟨s0, hs0, _⟩ : ∃ s0, ss[i]? = some s0 ∧ True := ⟨_, List.getElem?_eq_getElem (by omega), trivial⟩
                rw [Sort.putCells, Array.getElem?_mapIdx, hkn, show k.base + (i * 1 + 0) = k.base + i by omega, cellv i s0 hs0, Option.map_some, if_pos (by simp; omega)]
                have e1 : k.base + i - (k.base + 0 * 1) = i := by omega
                have e2 : d.toArray[i]! = s := by
                  rw [getElem!_pos d.toArray i (by simpa using hil)]
                  simpa using (List.getElem?_eq_some_iff.1 hs).2
                rw [e1, e2]
              | succ c => simp [encT] at hx)
          obtain ⟨r1, ev1⟩ := key
          obtain ⟨r2, ev2⟩ := grow_rel r1 os
          exact ⟨.tup [], _, J, _, rfl, r2, .tup [] [] rfl (by simp), ev1.trans ev2, rfl, rfl⟩

/-- The same, of a list of the call's own. -/
theorem sort_ls {P : Program} {ρ : Ren} {gl : Globs} {h : AHeap} (Ly : SlLaysM.n6 P ρ) {lo : Nat} {x : AV} (ss : List (List UInt8)) (hx : Ls 1 lo h x (ss.map encT)) (hl : ss.length < 4611686018427387904) :
    ACalls P gl (ρ.f 6) [x] h fun v h' => v = .tup [] ∧ Ls 1 lo h' x ((sortT ss).map encT) ∧ h'.length = h.length ∧ ∀ (b : Nat) (o : AObj), h[b]? = some o → (∀ off len, x ≠ .own b off len) → h'[b]? = some o := by
  rcases hx.1 with ⟨rfl, he⟩ | ⟨b, rfl, hlb, hb⟩
  · have he : ss = [] := by simpa using he
    subst he
    refine ⟨?_, fun J w vs hh hv => ?_⟩
    · obtain ⟨nm, hn, hf⟩ := Ly.f6
      exact ⟨_, hf, rfl, hn⟩
    · obtain ⟨hvl, hvr⟩ := hv
      match vs, hvl with
      | [v], _ =>
        have hr := hvr 0 _ v rfl rfl
        cases hr with
        | nil =>
          refine Calls.mono' (AnyM.slices_Sort_string_none Ly none 0 w) ?_
          rintro e w' ⟨rfl, rfl⟩
          exact ⟨.tup [], _, J, h, rfl, hh, .tup [] [] rfl (by simp), Evo.refl _ _ _, rfl, by rw [show sortT [] = [] from List.mergeSort_nil]; simpa using Ls.nil, rfl, fun _ _ ho _ => ho⟩
  · rw [List.length_map] at *
    refine (sort_str Ly b ss hb hl).mono ?_
    rintro v h' ⟨rfl, rfl⟩
    refine ⟨rfl, ?_, by simp, fun b' o ho hne => ?_⟩
    · refine Ls.own (List.getElem?_set_self (List.getElem?_eq_some_iff.1 hb).1) hlb (by simp [sortT]) fun e he => ?_
      obtain ⟨s, _, rfl⟩ := List.mem_map.1 he
      rfl
    · rw [List.getElem?_set_ne (by rintro rfl; exact hne _ _ rfl)]; exact ho
end Go.Abs
