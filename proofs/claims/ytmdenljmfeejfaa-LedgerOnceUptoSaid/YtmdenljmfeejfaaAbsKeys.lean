/-
  The keys of a map, sorted: the kit's contracts on maps.Keys and slices.Sorted, told over the abstract state.
-/
import Derived.Test.YtmdenljmfeejfaaAbsStr
import Derived.Shelf.SlIter.Nil
import Derived.Shelf.SlIter.Sorted
set_option linter.unusedVariables false
set_option linter.unusedSimpArgs false
namespace Go.Abs
open Go Go.Proofs Go.Shelf Go.RowKit Go.Maps

section
variable {P : Program} {gl : Globs} {h : AHeap}

theorem keys_abs {ρ : Ren} (K : SlLaysZ.n7 P ρ) (b : Nat) : ACalls P gl (ρ.f 7) [.map b] h fun v h' => v = .fn (.func (ρ.f 10)) [] [.obj h.length] ∧ h' = h ++ [.pin (.map b)] := by
  refine ⟨?_, fun J w vs hh hv => ?_⟩
  · obtain ⟨nm, hn, hf⟩ := K.f7
    exact ⟨_, hf, rfl, hn⟩
  · obtain ⟨hvl, hvr⟩ := hv
    match vs, hvl with
    | [v], _ =>
      have hr := hvr 0 _ v rfl rfl
      cases hr with
      | map _ k hk =>
        refine Calls.mono' ((callsIn_wide (n := 5)).1 (AnyZ.keys_in K Fence.wide 5 trivial rfl (some k.r) w)) ?_
        rintro e w' ⟨rfl, rfl⟩
        obtain ⟨r1, r2⟩ := hh.alloc (.cells #[.map (some k.r)] (ρ.t 23)) ⟨w.heap.size, 0, 1, 1⟩ (.pin (.map b)) rfl (fun J' O' hm => ⟨_, _, heap_alloc_new w _, hm (.map b) _ (.map b k hk)⟩)
        exact ⟨.fn (.func (ρ.f 10)) [] [.obj h.length], _, _, _, rfl, r1, .fn _ [] [.obj h.length] [] [.pointer (some ⟨w.heap.size, 0, none⟩)] rfl rfl (by simp) (fun i x v hx hv => by
          cases i with
          | zero =>
            simp at hx hv; subst hx; subst hv
            exact .obj _ ⟨w.heap.size, 0, 1, 1⟩ (alloc_last hh _)
          | succ i => simp at hx), r2, rfl, rfl⟩

theorem insert_perm {H : Type} (x : Lit × DataW H) : ∀ l : List (Lit × DataW H), (DataW.insert x l).Perm (x :: l)
  | [] => .refl _
  | y :: l => by
    rw [DataW.insert]
    split
    · exact .refl _
    · exact ((insert_perm x l).cons y).trans (.swap x y l)
theorem sorted_perm {H : Type} : ∀ l : List (Lit × DataW H), (l.foldr DataW.insert []).Perm l
  | [] => .refl _
  | x :: l => by
    rw [List.foldr_cons]
    exact (insert_perm x _).trans ((sorted_perm l).cons x)
theorem sortT_perm {l l' : List (List UInt8)} (h : l.Perm l') : sortT l = sortT l' := mergeSort_of_perm h

/-- The form in which the kit reads a map whose keys are texts. -/
theorem owns_sM {α : Type} {J : List Blk} {w : World} (enc : α → AV) (hh : HRel gl h J w) (b : Nat) (k : Blk) (m : List (List UInt8 × α)) (hk : J[b]? = some k) (hb : h[b]? = some (.map (sM enc m))) (hnd : (m.map (·.1)).Nodup) (hlen : ∀ p ∈ m, p.1.length ≤ maxLen) (hsz : m.length ≤ maxLen)
    {t : TypeId} (ht : P.underlying t = some .string) :
    ∃ D0 : DataW Unit, w.ownsMap P t (fun _ => some (.nil, [])) k.r m.length D0 ∧ (strKeys D0).Perm (m.map (·.1)) ∧ Maps.size D0 = m.length := by
  obtain ⟨es, clock, o1, o2, o3, o4, o5⟩ := hh.obj b k _ hk hb
  subst o4
  have o2' : es.size = m.length := by rw [o2, sM_len]
  have key : ∀ (i : Nat) (e : MapEntry), es[i]? = some e → ∃ p : List UInt8 × α, m[i]? = some p ∧ e.key = encStr p.1 := fun i e he => by
    have hil := (Array.getElem?_eq_some_iff.1 he).1
    obtain ⟨p, hp, _⟩ : ∃ p, m[i]? = some p ∧ True := ⟨_, List.getElem?_eq_getElem (by omega), trivial⟩
    refine ⟨p, hp, ?_⟩
    have := (o3 i e (.str p.1, enc p.2) he (by rw [sM, List.getElem?_map, hp]; rfl)).1
    generalize e.key = u at this
    cases this
    rfl
  have keys : es.toList.map (·.key) = (m.map (·.1)).map encStr := by
    refine List.ext_getElem? fun i => ?_
    rw [List.getElem?_map, List.getElem?_map, List.getElem?_map, Array.getElem?_toList]
    rcases Nat.lt_or_ge i es.size with hi | hi
    · have he : es[i]? = some es[i] := Array.getElem?_eq_getElem hi
      obtain ⟨p, hp, e1⟩ := key i _ he
      rw [he, hp, Option.map_some, Option.map_some, Option.map_some, e1]
    · rw [Array.getElem?_eq_none hi, List.getElem?_eq_none (by omega)]; rfl
  have rds : ∀ e : MapEntry, e ∈ es.toList → ∃ p : List UInt8 × α, p ∈ m ∧ e.key = encStr p.1 := fun e he => by
    obtain ⟨i, hi⟩ := List.getElem?_of_mem he
    rw [Array.getElem?_toList] at hi
    obtain ⟨p, hp, e1⟩ := key i e hi
    exact ⟨p, List.mem_of_getElem? hp, e1⟩
  have rd : ∀ e : MapEntry, e ∈ es.toList → ∃ p : List UInt8 × α, p ∈ m ∧ e.key = encStr p.1 ∧ Go.WideElems.rd (H := Unit) P t (fun _ => some (.nil, [])) e = some (.string p.1, .nil) := fun e he => by
    obtain ⟨p, hp, e1⟩ := rds e he
    refine ⟨p, hp, e1, ?_⟩
    have hl := hlen p hp
    simp [Go.WideElems.rd, keyOf, ht, mapKey, e1, encStr, ByteArray.size, hl]
  have F : Go.WideElems.Fit (H := Unit) P t (fun _ => some (.nil, [])) es es.size := by
    refine ⟨by omega, ⟨fun x hx => ?_, ?_, ?_⟩, fun x hx => ?_⟩
    · obtain ⟨j, hj⟩ := List.getElem?_of_mem hx
      rw [Array.getElem?_toList] at hj
      rw [o5 j x hj]
      exact (Array.getElem?_eq_some_iff.1 hj).1
    · have e1 : es.toList.map (·.born) = List.range es.size := by
        refine List.ext_getElem? fun j => ?_
        rw [List.getElem?_map]
        rcases Nat.lt_or_ge j es.size with hj | hj
        · have h1 : es[j]? = some es[j] := Array.getElem?_eq_getElem hj
          rw [Array.getElem?_toList, h1, Option.map_some, o5 j _ h1, List.getElem?_range hj]
        · rw [Array.getElem?_toList, Array.getElem?_eq_none hj, List.getElem?_eq_none (by simpa using hj)]; rfl
      rw [e1]; exact List.nodup_range
    · rw [keys]
      exact List.pairwise_map.2 (hnd.imp fun {a b} hne e => hne (encStr_inj e))
    · obtain ⟨p, _, _, e2⟩ := rd x hx
      exact ⟨_, e2⟩
  refine ⟨_, ⟨es, es.size, o1, F, by omega, rfl⟩, ?_, ?_⟩
  · have hp := (sorted_perm (es.toList.map (Go.WideElems.rg (H := Unit) P t fun _ => some (.nil, [])))).map fun p => strOf p.1
    refine hp.trans ?_
    have e : (es.toList.map (Go.WideElems.rg (H := Unit) P t fun _ => some (.nil, []))).map (fun p => strOf p.1) = m.map (·.1) := by
      have e1 : (es.toList.map (Go.WideElems.rg (H := Unit) P t fun _ => some (.nil, []))).map (fun p => strOf p.1) = (es.toList.map (·.key)).map (fun v => match v with | .string s => s.data.toList | _ => []) := by
        rw [List.map_map, List.map_map]
        refine List.map_congr_left fun x hx => ?_
        obtain ⟨p, _, e2, e3⟩ := rd x hx
        simp [Go.WideElems.rg, e3, e2, strOf, encStr]
      rw [e1, keys, List.map_map]
      simp [Function.comp_def, encStr]
    rw [e]
  · have := (sorted_perm (es.toList.map (Go.WideElems.rg (H := Unit) P t fun _ => some (.nil, [])))).length_eq
    show (List.foldr DataW.insert [] _).length = _
    rw [this]; simp [o2']

theorem sorted_abs {α : Type} {ρk ρs ρm : Ren} (K : SlLaysZ.n7 P ρk) (S : SlLaysZ.n6 P ρs) (M : SlLaysM.n6 P ρm) (e9 : ρs.f 9 = ρm.f 6) (et : P.underlying (ρk.t 26) = some .string) (enc : α → AV) (b p : Nat) (m : List (List UInt8 × α))
    (hp : h[p]? = some (.pin (.map b))) (hb : h[b]? = some (.map (sM enc m))) (hnd : (m.map (·.1)).Nodup) (hlen : ∀ q ∈ m, q.1.length ≤ maxLen) (hsz : m.length ≤ 1000000) :
    ACalls P gl (ρs.f 6) [.fn (.func (ρk.f 10)) [] [.obj p]] h fun v h' => v = .ro ((sortT (m.map (·.1))).map encT) ∧ h' = h := by
  refine ⟨?_, fun J w vs hh hv => ?_⟩
  · obtain ⟨nm, hn, hf⟩ := S.f6
    exact ⟨_, hf, rfl, hn⟩
  · obtain ⟨hvl, hvr⟩ := hv
    match vs, hvl with
    | [v], _ =>
      have hr := hvr 0 _ v rfl rfl
      cases hr with
      | fn _ _ _ vf vc hf hc h1 h2 =>
        match vf, hf, vc, hc with
        | [], _, [c], _ =>
          have hc1 := h2 0 _ c rfl rfl
          cases hc1 with
          | obj _ kp hkp =>
            obtain ⟨pv, T, p1, p2⟩ := hh.obj p kp _ hkp hp
            cases p2 with
            | map _ k hk =>
              obtain ⟨D0, own, perm, size⟩ := owns_sM (P := P) enc hh b k m hk hb hnd hlen (Nat.le_trans hsz (by decide)) et
              have hcell : w.cell? ⟨kp.r, 0, none⟩ = some (.map (some k.r)) := by rw [cell_of_heap p1]; rfl
              have hsorts : AnyZ.SortsIn P ρs Fence.wide 4 := by
                refine ⟨fun blk off cap ss W hH hblk hsz => ?_, fun q cap W => ?_⟩
                · rw [e9]; exact callsIn_wide.2 (AnyM.slices_Sort_string M blk off cap ss W hH hblk hsz)
                · rw [e9]; exact callsIn_wide.2 (AnyM.slices_Sort_string_none M q cap W)
              have hent : ∀ args w, (callFunc (ρs.f 9) args).run P w = .ok (.enter (ρs.f 9) args) w := by
                rw [e9]; exact M.f6.enters rfl
              have hseq := AnyZ.keys_gives { K with } Fence.wide 2 trivial rfl (by omega) kp.r k.r m.length D0 w (hh.lt p kp hkp) hcell own
              refine Calls.mono' ((callsIn_wide (n := 5)).1 (AnyZ.sorted_in S Fence.wide 5 trivial trivial trivial trivial rfl (by omega) hsorts hent (ρk.f 10) #[.pointer (some ⟨kp.r, 0, none⟩)] trivial (K.f10.enters rfl) _ _ (by rw [size]; exact Nat.le_trans hsz (by decide)) (by rw [size]; omega) w hseq)) ?_
              rintro e w' ⟨v, ss, rfl, hS, hrow, hnil, hbel⟩
              have hss : ss.mergeSort (fun x y => decide (x ≤ y)) = sortT (m.map (·.1)) := sortT_perm (hS.trans perm)
              rw [hss] at hrow
              have hl : ss.length = (sortT (m.map (·.1))).length := by rw [← hss, List.length_mergeSort]
              generalize sortT (m.map (·.1)) = L at *
              have ev : Evo h J w h J w' := ⟨⟨[], by simp⟩, hbel.size, fun r hr hn => ⟨hbel.block r hr, hn⟩, hbel.os, hbel.tape, hbel.output⟩
              have hh' : HRel gl h J w' := hh.step ev hh.len hh.inj (fun b k hk => Nat.lt_of_lt_of_le (hh.lt b k hk) hbel.size) (fun b k o hk ho _ => .inl ⟨hk, ho, hbel.block _ (hh.lt b k hk)⟩)
              refine ⟨.ro (L.map encT), v, J, h, rfl, hh', ?_, ev, rfl, rfl⟩
              obtain ⟨_, hrow⟩ := hrow
              rcases hrow with ⟨rfl, hz⟩ | ⟨g, cap, cur, rfl, hg1, hg2, hg3, hg4, hg5, hg6⟩
              · have : L = [] := List.eq_nil_of_length_eq_zero (by omega)
                subst this
                exact .roNil
              · have hcur : ∀ (i : Nat) (s : List UInt8), L[i]? = some s → cur[i]? = some (encStr s) := fun i s hs => by
                  have hi := (List.getElem?_eq_some_iff.1 hs).1
                  have : (cur.toList.take (ss.length * 1))[i]? = some (encStr s) := by rw [hg6, List.getElem?_map, hs]; rfl
                  rw [List.getElem?_take_of_lt (by omega), Array.getElem?_toList] at this
                  exact this
                have hro := VRel.ro (J := J) (O := Own h J) (w := w') (L.map encT) ⟨g, 0, none⟩ 1 cap (fun i _ => encStr (L.getD i [])) (by simp; omega) (by omega) (.inr ⟨(Array.getElem?_eq_some_iff.1 hg2).1, fun ⟨b', k', o', q1, q2, q3, q4⟩ => by
                    have := hh.lt b' k' q1
                    show False
                    have : k'.r = g := q4
                    omega⟩) (fun i e he => by obtain ⟨s, _, rfl⟩ := List.mem_map.1 (List.mem_of_getElem? he); rfl) (fun i e c x he hx => ?_) (fun i e c x he hx => rfl) (fun i e c x he hx => ?_)
                · rw [List.length_map, ← hl] at hro
                  exact hro
                · rw [List.getElem?_map, Option.map_eq_some_iff] at he
                  obtain ⟨s, hs, rfl⟩ := he
                  cases c with
                  | zero =>
                    rw [show (⟨g, 0, none⟩ : Addr).add (i * 1 + 0) = ⟨g, i, none⟩ by simp [Addr.add]; omega, cell_of_heap hg2, List.getD_eq_getElem?_getD, hs]
                    exact hcur i s hs
                  | succ c => simp [encT] at hx
                · rw [List.getElem?_map, Option.map_eq_some_iff] at he
                  obtain ⟨s, hs, rfl⟩ := he
                  cases c with
                  | zero =>
                    obtain rfl := Option.some.inj hx
                    rw [List.getD_eq_getElem?_getD, hs]
                    exact .str s
                  | succ c => simp [encT] at hx
end
end Go.Abs
