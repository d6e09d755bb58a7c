/-
  Contracts: texts: their order, lists of texts that are compared, searched, grown.
-/
import Derived.Test.YtiidghfioofpkaaGreatTab
import Derived.Test.YtiidghfioofpkaaGreatAbsMore
import Derived.Test.YtiidghfioofpkaaGreatTollSeen
import Derived.Test.YtiidghfioofpkaaGreatTollText
import Derived.Test.YtiidghfioofpkaaGreatTollGraph
set_option linter.unusedVariables false
set_option linter.unusedSimpArgs false
set_option maxRecDepth 100000
namespace Go.Proofs.YtiidghfioofpkaaGreat
open Go Go.Abs Go.Toll
variable {gl : Globs} {h : AHeap}

theorem texts_data (l : List Bytes) : ∀ e ∈ l.map encT, ∀ y ∈ e, y.Data := by
  intro e he y hy
  obtain ⟨s, _, rfl⟩ := List.mem_map.1 he
  simp [encT] at hy
  subst hy
  simp
theorem texts_n (l : List Bytes) : ∀ e ∈ l.map encT, e.length = 1 := by
  intro e he
  obtain ⟨s, _, rfl⟩ := List.mem_map.1 he
  rfl
theorem ref01_Before (a b : Bytes) (ha : shortS a) : ACalls Tryz.prog gl 146 [.str a, .str b] h fun v h' => v = .bool (Op.bytesLess a b) ∧ h' = h := by
  refine ACalls.data (.bool _) (ACalls.body Tryz.f146 _ mixed Tryz.func146 rfl rfl (by simp [Tryz.ntmps146]) ?_)
  unfold shortS at ha
  simp
  refine AWP.up mixed a.length (fun i fr h' => fr 0 = .str a ∧ fr 1 = .str b ∧ fr 5 = .int .i64 i ∧ i ≤ b.length ∧ Op.bytesLess a b = Op.bytesLess (a.drop i) (b.drop i) ∧ ∃ g, h' = h ++ g) 0 (by omega) ⟨by simp, by simp, by simp, by omega, by simp, [], by simp⟩ ?_
  rintro i fr h' hi ⟨e0, e1, e5, hib, hf, g, rfl⟩
  by_cases hlt : i < a.length ∧ i < b.length
  · obtain ⟨x, hx, hx'⟩ := get_lt hlt.1
    obtain ⟨y, hy, hy'⟩ := get_lt hlt.2
    rw [less_step hx hy] at hf
    have ew : IntKind.i64.wrap ((i : Int) + 1) = ((i + 1 : Nat) : Int) := by rw [wrap64_of (by omega) (by omega)]; omega
    have hl1 := hlt.1
    have hl2 := hlt.2
    simp [e0, e1, e5, hl1, hl2, hx, hx', hy, hy', ew, u8eq]
    refine ⟨by decide, fun q => ⟨by decide, ?_⟩, fun q => ⟨i + 1, by omega, by omega, by omega, by omega, ?_⟩⟩
    · rw [hf, beq_eq_false_iff_ne.2 q, Bool.false_and, Bool.or_false]; exact decide_eq_decide.2 UInt8.lt_iff_toNat_lt.symm
    · subst q
      rw [hf]; simp
  · have he : a.length ≤ i ∨ b.length ≤ i := by omega
    rw [less_end he hi hib] at hf
    have hn : i < a.length → b.length ≤ i := by omega
    simp [e0, e1, e5, hf]
    exact fun c1 c2 => absurd ⟨c1, c2⟩ hlt
theorem ref01_SameTexts (a b : List Bytes) (hl : a.length ≤ 1000000) (x y : AV) (hx : Rs 1 h x (a.map encT)) (hy : Rs 1 h y (b.map encT)) : ACalls Tryz.prog gl 15 [x, y] h fun v h' => v = .bool (decide (a = b)) ∧ h' = h := by
  refine ACalls.data (.bool _) (ACalls.body Tryz.f15 _ mixed Tryz.func15 rfl rfl (by simp [Tryz.ntmps15]) ?_)
  have fx := hx.fix
  have fy := hy.fix
  simp [fx, fy, hx.len2, hy.len2]
  refine ⟨fun q e => by rw [e] at q; exact q rfl, fun q => ?_⟩
  have q : a.length = b.length := by omega
  refine AWP.up mixed a.length (fun i fr h' => fr 0 = x ∧ fr 1 = y ∧ fr 5 = .int .i64 i ∧ (a = b ↔ a.drop i = b.drop i) ∧ h' = h) 0 (by omega) ⟨by simp, by simp, by simp, by simp, by simp⟩ ?_
  rintro i fr h' hi ⟨e0, e1, e5, hf, rfl⟩
  rcases Nat.lt_or_ge i a.length with hlt | hge
  · obtain ⟨s, hs, hs'⟩ := get_lt hlt
    obtain ⟨t, ht, ht'⟩ := get_lt (l := b) (i := i) (by omega)
    rw [drop_get hs, drop_get ht] at hf
    have ew := wrap_succ' (i := i) (by omega)
    have rx := Rs.ix Tryz.prog hx i (by omega) (y := [.str s]) (by simp [hs, encT])
    have ry := Rs.ix Tryz.prog hy i (by omega) (y := [.str t]) (by simp [ht, encT])
    simp [e0, e1, e5, hlt, fx, fy, hx.len2, hy.len2, rx, ry, ew]
    refine ⟨by decide, fun hne e => hne (List.cons.inj (hf.1 e)).1, fun he => ⟨i + 1, by omega, by omega, by omega, ?_⟩⟩
    subst he
    rw [hf]
    exact ⟨fun e => (List.cons.inj e).2, fun e => by rw [e]⟩
  · have e : a = b := by rw [hf, List.drop_eq_nil_of_le hge, List.drop_eq_nil_of_le (by omega)]
    have hge' : ¬ (i : Int) < a.length := by omega
    simp [e0, e1, e5, hge', fx, fy, hx.len2]
    exact e
theorem ref07_HasText (l : List Bytes) (s : Bytes) (x : AV) (hR : Rs 1 h x (l.map encT)) (hl : l.length ≤ 1000000) : ACalls Tryz.prog gl 103 [x, .str s] h fun v h' => v = .bool (decide (s ∈ l)) ∧ h' = h := by
  refine ACalls.data (.bool _) (ACalls.body Tryz.f103 _ mixed Tryz.func103 rfl rfl (by simp [Tryz.ntmps103]) ?_)
  have hf := hR.fix
  simp [hf]
  refine AWP.up mixed l.length (fun i fr h' => fr 0 = x ∧ fr 1 = .str s ∧ fr 5 = .int .i64 i ∧ (s ∈ l ↔ s ∈ l.drop i) ∧ h' = h) 0 (by omega) ⟨by simp, by simp, by simp, by simp, by simp⟩ ?_
  rintro i fr h' hi ⟨e0, e1, e5, hm, rfl⟩
  rcases Nat.lt_or_ge i l.length with hlt | hge
  · obtain ⟨y, hy, hy'⟩ := get_lt hlt
    rw [drop_get hy, List.mem_cons] at hm
    have ew := wrap_succ' (i := i) (by omega)
    have rx := Rs.ix Tryz.prog hR i (by omega) (y := [.str y]) (by simp [hy, encT])
    simp [e0, e1, e5, hlt, hf, hR.len2, rx, ew]
    refine ⟨fun q => hm.2 (.inl q.symm), fun q => ⟨i + 1, by omega, by omega, by omega, hm.trans ⟨fun e => e.resolve_left fun e => q e.symm, .inr⟩⟩⟩
  · rw [List.drop_eq_nil_of_le hge] at hm
    simp [e0, e1, e5, hf, hR.len2, Nat.not_lt.2 hge]
    intro e
    simpa using hm.1 e
theorem ref07_Insert (l : List Bytes) (s : Bytes) (x : AV) (hx : Rn x (l.map encT)) (hs : shortS s) (hl : l.length ≤ 1000000) : ACalls Tryz.prog gl 131 [x, .str s] h fun v h' => v = .ro ((insS l s).map encT) ∧ h' = h := by
  refine ACalls.fresh (ACalls.body Tryz.f131 _ mixed Tryz.func131 rfl rfl (by simp [Tryz.ntmps131]) ?_)
  have hR := hx.rs (n := 1) h (texts_n l)
  have hxf := hR.fix
  simp [hxf]
  refine AWP.up mixed l.length (fun i fr h' => fr 0 = x ∧ fr 1 = .str s ∧ fr 7 = .int .i64 i ∧ s ∉ l.take i ∧ ∃ out done o g, fr 5 = o ∧ fr 6 = .bool done ∧ Ls 1 h.length h' o (out.map encT) ∧ (s ∉ l → insT s l = out ++ (if done = true then l.drop i else insT s (l.drop i))) ∧ out.length ≤ i + done.toNat ∧ h' = h ++ g) 0 (by omega)
    ⟨by simp, by simp, by simp, by simp, [], false, .nil, [], by simp, by simp, Ls.nil, by simp, by simp, by simp⟩ ?_
  rintro i fr h' hi ⟨e0, e1, e7, hnt, out, done, o, g, e5, e6, hL, hm, hol, rfl⟩
  have hf := hL.rs.fix
  have hdn : done.toNat ≤ 1 := by cases done <;> simp
  have hR := hR.append g
  rcases Nat.lt_or_ge i l.length with hlt | hge
  · obtain ⟨y, hy, hy'⟩ := get_lt hlt
    have ew := wrap_succ' (i := i) (by omega)
    have rx := Rs.ix Tryz.prog hR i (by omega) (y := [.str y]) (by simp [hy, encT])
    by_cases hne : y = s
    · subst hne
      have hin : y ∈ l := List.mem_of_getElem? hy
      simp [hR.len2, hxf, e0, e1, e7, hlt, rx, e5, e6]
      rw [insS, if_pos hin]
      rcases hx with rfl | ⟨_, e⟩
      · exact .data _ (.ro _ (texts_data _))
      · simp at e; subst e; cases hin
    have hnt2 : s ∉ l.take (i + 1) := by
      rw [List.take_add_one, hy]
      simp only [Option.toList_some, List.mem_append, List.mem_singleton]
      rintro (e | e)
      · exact hnt e
      · exact hne e.symm
    simp [hR.len2, hxf, e0, e1, e7, hlt, rx, hne, e5, e6]
    refine callS.pure _ (fun _ => ref01_Before s y hs) ?_
    simp [-appendOk, -appendK, hR.len2, hxf, e0, e1, e5, e6, e7, hlt, rx, hf]
    rw [drop_get hy, insT] at hm
    refine ⟨fun c1 c2 => ?_, fun c1 => ?_⟩
    · subst c1
      refine append_ls (lo := h.length) (n := 1) (es := out.map encT) (ys := [encT s]) (by simpa [encT] using hL.more [.cells 1 [encT s]]) (by simp) (by simp [appOk, encT]) (by simp; omega) ?_
      intro s1 h1 hs1 hg1
      obtain ⟨g1, rfl⟩ := hg1.base h (by simp) ⟨_, by simp; rfl⟩
      have r1 := Rs.ix Tryz.prog ((hx.rs (n := 1) h (texts_n l)).append g1) i (by omega) (y := [.str y]) (by simp [hy, encT])
      simp [-appendOk, -appendK, e0, e1, e5, e6, e7, hlt, hs1.rs.fix, hxf, r1]
      refine append_ls (lo := h.length) (n := 1) (es := out.map encT ++ [encT s]) (ys := [encT y]) (by simpa [encT] using hs1.more [.cells 1 [encT y]]) (by simp) (by simp [appOk, encT]) (by simp; omega) ?_
      intro s2 h2 hs2 hg2
      obtain ⟨g2, rfl⟩ := hg2.base h (by simp) ⟨_, by simp; rfl⟩
      simp [-appendOk, -appendK, e0, e1, e5, e6, e7, hlt, hs2.rs.fix, ew]
      refine ⟨i + 1, by omega, by omega, by omega, hnt2, out ++ [s, y], by simpa using hs2, fun hn => ?_, by simp at hol ⊢; omega⟩
      rw [hm hn]
      simp [c2]
    · refine append_ls (lo := h.length) (n := 1) (es := out.map encT) (ys := [encT y]) (by simpa [encT] using hL.more [.cells 1 [encT y]]) (by simp) (by simp [appOk, encT]) (by simp; omega) ?_
      intro s1 h1 hs1 hg1
      obtain ⟨g1, rfl⟩ := hg1.base h (by simp) ⟨_, by simp; rfl⟩
      simp [-appendOk, -appendK, e0, e1, e5, e6, e7, hlt, hs1.rs.fix, ew]
      refine ⟨i + 1, by omega, by omega, by omega, hnt2, ?_⟩
      cases done
      · have c2 := c1 rfl
        exact ⟨out ++ [y], .inl ⟨rfl, by simpa using hs1, fun hn => by rw [hm hn]; simp [c2], by simp at hol ⊢; omega⟩⟩
      · exact ⟨out ++ [y], .inr ⟨rfl, by simpa using hs1, fun hn => by rw [hm hn]; simp, by simp at hol ⊢; omega⟩⟩
  · obtain rfl : i = l.length := by omega
    rw [List.take_length] at hnt
    have hm := hm hnt
    rw [List.drop_length] at hm
    have hins : insS l s = insT s l := by rw [insS, if_neg hnt]
    simp [-appendOk, -appendK, hR.len2, hxf, e0, e1, e5, e6, e7, hf]
    refine ⟨fun c => ?_, fun c => ?_⟩
    · subst c
      refine append_ls (lo := h.length) (n := 1) (es := out.map encT) (ys := [encT s]) (by simpa [encT] using hL.more [.cells 1 [encT s]]) (by simp) (by simp [appOk, encT]) (by simp; omega) ?_
      intro s1 h1 hs1 hg1
      obtain ⟨g1, rfl⟩ := hg1.base h (by simp) ⟨_, by simp; rfl⟩
      simp [hs1.rs.fix]
      have e : insS l s = out ++ [s] := by rw [hins, hm]; simp [insT]
      rw [e]
      have := hs1.frz (m := h.length) (by omega) (by rw [← List.map_singleton, ← List.map_append]; exact texts_data _)
      simpa using this
    · subst c
      have e : insS l s = out := by rw [hins, hm]; simp
      rw [e]
      have := hL.frz (m := h.length) (by omega) (texts_data _)
      simpa using this
end Go.Proofs.YtiidghfioofpkaaGreat
