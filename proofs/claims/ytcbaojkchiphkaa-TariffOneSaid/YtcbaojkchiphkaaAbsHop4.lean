/-
  'append', whole; 'make'; maps.
-/
import Derived.Test.YtcbaojkchiphkaaAbsHop3
set_option linter.unusedVariables false
set_option linter.unusedSimpArgs false
namespace Go.Abs
open Go

section
variable {P : Program} {gl : Globs} {J : List Blk} {h : AHeap} {w : World} {O : Nat → Prop} {fr : AFrame} {N : Nat}

theorem run_append_in {t u e : TypeId} {d : TypeDesc} {ty : TypeId} (ht : P.underlying t = some (.slice e)) (hu : P.underlying u = some d) (hd : ∀ k, d ≠ .int k) {size : Nat} (hsz : (sizeOf e).run P w = .ok size w)
    {base : Option Addr} {sLen sCap n : Nat} {xv : Value} {news : Array Value} {w' : World} (hn : (Builtin.lenOf xv).run P w = .ok n w) (hf : (Builtin.firstCells size n xv).run P w = .ok news w) (hroom : sLen + n ≤ sCap)
    (hst : (match base with | some a => storeCells (a.add (sLen * size)) news.toList | none => (pure () : Sem Unit)).run P w = .ok () w') :
    (Builtin.append_ #[t, u] ty #[.slice base sLen sCap, xv]).run P w = .ok (.slice base (sLen + n) sCap) w' := by
  have hint : (match d with | .int _ => true | _ => false) = false := by cases d <;> first | rfl | exact absurd rfl (hd _)
  cases base with
  | none =>
    simp only [Sem.run_pure] at hst
    injection hst with _ hst
    subst hst
    simp [Builtin.append_, run_underlying ht, run_underlying hu, hsz, hn, hf, hroom, hint]
  | some a => simp [Builtin.append_, run_underlying ht, run_underlying hu, hsz, hn, hf, hroom, hint, hst]

theorem run_append_out {t u e : TypeId} {d : TypeDesc} {ty : TypeId} (ht : P.underlying t = some (.slice e)) (hu : P.underlying u = some d) (hd : ∀ k, d ≠ .int k) (he : (tinfo P e).ok = true)
    {base : Option Addr} {sLen sCap n : Nat} {xv : Value} {olds news : Array Value} {z : Value} (hn : (Builtin.lenOf xv).run P w = .ok n w) (hg : sCap < sLen + n) (hfit : (sLen + n) * (tinfo P e).bytes ≤ 140737488355328) (h63 : sLen + n ≤ 140737488355328)
    (ho : (Builtin.firstCells (tinfo P e).cells sLen (.slice base sLen sCap)).run P w.drew = .ok olds w.drew) (hf : (Builtin.firstCells (tinfo P e).cells n xv).run P w.drew = .ok news w.drew) (hz : (zeroValue e).run P w.drew = .ok z w.drew) :
    (Builtin.append_ #[t, u] ty #[.slice base sLen sCap, xv]).run P w = .ok (.slice (some ⟨w.heap.size, 0, none⟩) (sLen + n) (grownCap w (sLen + n) sCap e))
      (w.drew.alloc (.cells (olds ++ news ++ Builtin.zeroCells z.cells (grownCap w (sLen + n) sCap e - (sLen + n))) e)) := by
  have hint : (match d with | .int _ => true | _ => false) = false := by cases d <;> first | rfl | exact absurd rfl (hd _)
  obtain ⟨de, i, hde, hi, eqe⟩ := tinfo_ok he
  have hb : (tinfo P e).bytes = i.bytes := by rw [eqe]
  have hc : (tinfo P e).cells = i.size := by rw [eqe]
  rw [hb] at hfit
  rw [hc] at ho hf
  have hroom : ¬ (sLen + n ≤ sCap) := by omega
  have h63' : ¬ (9223372036854775807 < ((sLen : Int) + (n : Int))) := by omega
  have h48' : ¬ (281474976710656 < Builtin.nextslicecap (sLen + n) sCap * i.bytes) := by
    have := growslice_fits hg hfit
    omega
  simp [Builtin.append_, run_underlying ht, run_underlying hu, sizeOf, typeInfo, hi, hn, hroom, hint, h63', h48', Question.forced, ho, hf, hz, newRow, grownCap]

theorem append_steps (hh : HRel gl h J w) {ts : List TypeId} {ty : TypeId} {s x : AV} {us ux : Value} (hs : VRel J (Own h J) w s us) (hx : VRel J (Own h J) w x ux) (hok : appendOk P h ts s x) {R : AV → AHeap → Prop} (hR : appendK (elemCells P (ts.headD 0)) h s x R) :
    Steps1 P gl h J w (Builtin.append_ ts.toArray ty #[us, ux]) R := by
  unfold appendOk at hok
  split at hok
  · rename_i t u
    obtain ⟨hui, huok, hok⟩ := hok
    split at hok
    · rename_i e hk
      have hec : elemCells P ([t, u].headD 0) = (tinfo P e).cells := by simp [elemCells, hk]
      rw [hec] at hR
      obtain ⟨hz, hpos, hsk, hks, hkx, hls, hlx, hbytes, h63⟩ := hok
      obtain ⟨ht, _⟩ := kind_slice hk
      obtain ⟨d, iu, hu, _, equ⟩ := tinfo_ok huok
      have hd : ∀ k, d ≠ .int k := by
        rintro k rfl
        rw [equ] at hui
        exact hui
      have heok := hz.1
      obtain ⟨ns, n1, n2, n3, n4, n5⟩ := elems_sound (P := P) hh hpos hx hkx hlx
      obtain ⟨os, o1, o2, o3, o4, o5⟩ := elems_sound (P := P) hh hpos hs hks hls
      have hsz := run_sizeOf' heok w
      unfold appendK at hR
      -- a slice that holds nothing and has no room
      have empty : ∀ (base : Option Addr) (z : AV), us = .slice base 0 0 → aelems h s = [] → VRel J (Own h J) w z (.slice base 0 0) → (aelems h x = [] → R z h) → (aelems h x ≠ [] → R (.own h.length 0 (aelems h x).length) (h ++ [.cells (tinfo P e).cells (aelems h x)])) →
          Steps1 P gl h J w (Builtin.append_ [t, u].toArray ty #[us, ux]) R := by
        rintro base z rfl hes hz' hR1 hR2
        by_cases hxe : aelems h x = []
        · refine ⟨.slice base 0 0, w, J, z, h, ?_, hh, hz', Evo.refl _ _ _, hR1 hxe⟩
          rw [hxe] at n1 n2 n3
          have hns : ns = [] := List.eq_nil_of_length_eq_zero (by simpa using n3)
          subst hns
          have := run_append_in (P := P) (w := w) (w' := w) (ty := ty) ht hu hd hsz (base := base) (sLen := 0) (sCap := 0) n1 n2 (by simp) (by cases base <;> rfl)
          exact this
        · have hlen : 0 < (aelems h x).length := List.length_pos_iff.2 hxe
          obtain ⟨olds, news, zz, p1, p2, p3, p4, p5⟩ := grow_steps (P := P) hh hz hpos hh.drew.1 hh.drew.2 hs hx hks hkx hls hlx (grownCap w (0 + (aelems h x).length) 0 e) (by rw [hes]; exact grownCap_ge _ _ _ _)
          rw [hes] at p1 p4 p5
          have hrun := run_append_out (P := P) (w := w) (ty := ty) ht hu hd heok (base := base) (sLen := 0) (sCap := 0) n1 (by omega) (by rw [hes] at hbytes; exact hbytes) (by rw [hes] at h63; exact h63) p1 p2 p3
          refine ⟨_, _, _, _, _, hrun, p4, ?_, p5, hR2 hxe⟩
          have := alloc_own hh (aelems h x) (tinfo P e).cells (grownCap w (0 + (aelems h x).length) 0 e) (w.drew.alloc (.cells (olds ++ news ++ Builtin.zeroCells zz.cells (grownCap w (0 + (aelems h x).length) 0 e - (0 + (aelems h x).length))) e)) (.cells (tinfo P e).cells (aelems h x)) (by have := grownCap_ge w (0 + (aelems h x).length) 0 e; omega)
          simpa using this
      cases s with
      | nil =>
        cases hs
        exact empty none .nil rfl rfl .nil hR.1 hR.2
      | e0 =>
        cases hs with
        | e0 a => exact empty a .e0 rfl rfl (.e0 a) hR.1 hR.2
      | own b off len =>
        simp only at hsk
        simp only [slOk] at hks
        have hslen : (aelems h (.own b off len)).length = len := by simp [aelems]; omega
        cases hs with
        | own _ _ _ k a cap hb ha hle hcap =>
          obtain ⟨es, he, hkn', hes⟩ := hsz_n hh hb (by omega)
          have hkn : k.n = (tinfo P e).cells := by rw [← hkn', hsk]
          obtain ⟨_, hn, hcap', hlens, vs, T, hheap, hvsz, hcell⟩ := hh.obj b k _ hb he
          by_cases hroom : len + (aelems h x).length ≤ cap
          · -- within the capacity
            have hoffk : off ≤ k.cap := by omega
            have ha' : 0 < cap → a = ⟨k.r, k.base + off * k.n, none⟩ := ha
            have hst : ∃ (w' : World) (new : Array Value), (storeCells (a.add (len * (tinfo P e).cells)) ns).run P w = .ok () w' ∧ w'.heap[k.r]? = some (.cells new T (0, 0)) ∧ new.size = vs.size ∧
                (∀ j, new[j]? = if k.base + (off + len) * k.n ≤ j ∧ j < k.base + (off + len) * k.n + ns.length then ns[j - (k.base + (off + len) * k.n)]? else vs[j]?) ∧ (∀ b, b ≠ k.r → w'.heap[b]? = w.heap[b]?) ∧ w'.heap.size = w.heap.size ∧ w'.os = w.os ∧ w'.tape = w.tape ∧ w'.output = w.output := by
              by_cases hns0 : ns = []
              · subst hns0
                exact ⟨w, vs, rfl, hheap, rfl, fun j => by rw [if_neg (by simp only [List.length_nil]; omega)], fun _ _ => rfl, rfl, rfl, rfl, rfl⟩
              · have hxpos : 0 < (aelems h x).length := by
                  rcases Nat.eq_zero_or_pos (aelems h x).length with h0 | h0
                  · rw [h0, Nat.zero_mul] at n3
                    exact absurd (List.eq_nil_of_length_eq_zero n3) hns0
                  · exact h0
                have hfit : (off + len) * k.n + ns.length ≤ k.cap * k.n := by
                  rw [n3, ← hkn, ← Nat.add_mul]
                  exact Nat.mul_le_mul_right _ (by omega)
                obtain ⟨w', new, e1, e2, e3, e4, e5⟩ := run_storeCells' (P := P) k.r (k.base + (off + len) * k.n) T ns 0 vs w hheap (by omega) n4
                refine ⟨w', new, ?_, e2, e3, by simpa using e4, e5⟩
                rw [ha' (by omega), add_mk, ← hkn, show k.base + off * k.n + len * k.n = k.base + (off + len) * k.n by rw [Nat.add_mul]; omega]
                exact e1
            obtain ⟨w', new, e1, e2, e3, e4, e5, e6, e7, e8, e9⟩ := hst
            have hesl : off + len ≤ es.length := by rw [← hes]; exact hks
            have htk : (es.take (off + len)).length = off + len := by simp; omega
            -- the old block, cut and lengthened
            obtain ⟨r1, ev1⟩ := hh.set (o' := .cells k.n es) (k := k) (w' := w') (.cells k.n (es.take (off + len) ++ aelems h x)) hb he (by simp) e6 e5 e7 e8 e9 (by
              intro O' hm
              refine ⟨rfl, hn, by simp; omega, ?_, new, T, e2, by omega, ?_⟩
              · intro i ee hi
                rcases Nat.lt_or_ge i (off + len) with hlt | hge
                · rw [List.getElem?_append_left (by omega), List.getElem?_take_of_lt hlt] at hi
                  exact hlens i ee hi
                · rw [List.getElem?_append_right (by omega)] at hi
                  rw [hkn]
                  exact hlx _ (List.mem_of_getElem? hi)
              · intro i ee c y hi hy
                rcases Nat.lt_or_ge i (off + len) with hlt | hge
                · rw [List.getElem?_append_left (by omega), List.getElem?_take_of_lt hlt] at hi
                  obtain ⟨v, p1, p2, p3⟩ := hcell i ee c y hi hy
                  refine ⟨v, ?_, p2, hm _ _ p3⟩
                  have hcl : c < k.n := by
                    rw [← hlens i ee hi]
                    exact (List.getElem?_eq_some_iff.1 hy).1
                  have : (i + 1) * k.n ≤ (off + len) * k.n := Nat.mul_le_mul_right _ hlt
                  rw [Nat.add_mul, Nat.one_mul] at this
                  rw [e4, if_neg (by omega)]
                  exact p1
                · rw [List.getElem?_append_right (by omega), htk] at hi
                  obtain ⟨v, p1, p2⟩ := n5 _ ee c y hi hy
                  refine ⟨v, ?_, n4 _ (List.mem_of_getElem? p1), hm _ _ p2⟩
                  have hlt := (List.getElem?_eq_some_iff.1 p1).1
                  have e0 : i * k.n = (off + len) * k.n + (i - (off + len)) * k.n := by rw [← Nat.add_mul]; congr 1; omega
                  rw [← hkn] at p1 hlt
                  rw [e4, if_pos (by omega), ← p1]
                  congr 1
                  omega)
            have hblt : b < h.length := (List.getElem?_eq_some_iff.1 he).1
            -- it goes on under a new name
            obtain ⟨r2, ev2⟩ := r1.move (b := b) (k := k) (o' := .cells k.n (es.take (off + len) ++ aelems h x)) ⟨k.r, k.base + off * k.n, k.n, k.cap - off⟩ (.cells k.n (aelems h (.own b off len) ++ aelems h x)) hb (List.getElem?_set_self hblt) (by simp) rfl (by
              intro J' O' hm
              obtain ⟨_, _, q2, q3, vs', T', q4, q5, q6⟩ := r1.obj b k _ hb (List.getElem?_set_self hblt)
              have hdrop : aelems h (.own b off len) ++ aelems h x = (es.take (off + len) ++ aelems h x).drop off := by
                rw [List.drop_append_of_le_length (by omega)]
                congr 1
                simp only [aelems, hes]
                rw [List.drop_take, Nat.add_sub_cancel_left]
              rw [hdrop]
              refine ⟨rfl, hn, by simp; omega, ?_, vs', T', q4, ?_, ?_⟩
              · intro i ee hi
                rw [List.getElem?_drop] at hi
                exact q3 _ ee hi
              · have : k.base + off * k.n + (k.cap - off) * k.n = k.base + k.cap * k.n := by
                  rw [Nat.add_assoc, ← Nat.add_mul]; congr 2; omega
                simp only
                omega
              · intro i ee c y hi hy
                rw [List.getElem?_drop] at hi
                obtain ⟨v, p1, p2, p3⟩ := q6 _ ee c y hi hy
                refine ⟨v, ?_, p2, hm _ _ p3⟩
                simp only
                rw [← p1, Nat.add_mul]
                congr 1
                omega)
            rw [List.set_set] at r2 ev2
            have hrun := run_append_in (P := P) (w := w) (w' := w') (ty := ty) ht hu hd hsz (base := some a) (sLen := len) (sCap := cap) n1 n2 hroom e1
            rw [hkn] at r2 ev1 ev2
            refine ⟨_, w', _, _, _, hrun, r2, ?_, ev1.trans ev2, hR⟩
            rw [hslen]
            have hlast : (J ++ [(⟨k.r, k.base + off * (tinfo P e).cells, (tinfo P e).cells, k.cap - off⟩ : Blk)])[h.length]? = some ⟨k.r, k.base + off * (tinfo P e).cells, (tinfo P e).cells, k.cap - off⟩ := alloc_last hh _
            refine .own _ 0 (len + (aelems h x).length) _ a cap hlast (fun hc0 => ?_) hroom (by simp only; omega)
            rw [ha' hc0, hkn]
            simp
          · obtain ⟨hkl, evk⟩ := hh.kill (b := b)
            obtain ⟨hkd, evd⟩ := hkl.drew
            obtain ⟨olds, news, zz, p1, p2, p3, p4, p5⟩ := grow_steps (P := P) hh hz hpos hkd (evk.trans evd) (.own b off len k a cap hb ha hle hcap) hx hks hkx hls hlx (grownCap w (len + (aelems h x).length) cap e) (by rw [hslen]; exact grownCap_ge _ _ _ _)
            rw [hslen] at p1 p4 p5
            have hrun := run_append_out (P := P) (w := w) (ty := ty) ht hu hd heok (base := some a) (sLen := len) (sCap := cap) n1 (by omega) (by rw [hslen] at hbytes; exact hbytes) (by rw [hslen] at h63; exact h63) p1 p2 p3
            refine ⟨_, _, _, _, _, hrun, p4, ?_, p5, hR⟩
            have hll : (aelems h (.own b off len) ++ aelems h x).length = len + (aelems h x).length := by simp [hslen]
            have := alloc_own hkd (aelems h (.own b off len) ++ aelems h x) (tinfo P e).cells (grownCap w (len + (aelems h x).length) cap e) (w.drew.alloc (.cells (olds ++ news ++ Builtin.zeroCells zz.cells (grownCap w (len + (aelems h x).length) cap e - (len + (aelems h x).length))) e)) (.cells (tinfo P e).cells (aelems h (.own b off len) ++ aelems h x)) (by rw [hll]; exact grownCap_ge _ _ _ _)
            rw [hslen]
            rw [hll] at this
            simpa using this
      | _ => exact hR.elim
    · exact hok.elim
  · exact hok.elim
end
end Go.Abs
