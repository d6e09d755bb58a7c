/-
  Contracts: the order of texts; texts that are inserted into an ascending list.
-/
import Derived.Test.YtmdenljmfeejfaaTab
import Derived.Test.YtmdenljmfeejfaaAbsList
import Derived.Test.YtmdenljmfeejfaaTollSeen
import Derived.Test.YtmdenljmfeejfaaTollAccounts
set_option linter.unusedVariables false
set_option linter.unusedSimpArgs false
set_option maxRecDepth 100000
namespace Go.Proofs.Ytmdenljmfeejfaa
open Go Go.Abs Go.Toll
variable {gl : Globs} {h : AHeap}

theorem ref01_Before (a b : Bytes) (ha : shortS a) : ACalls Try.prog gl 48 [.str a, .str b] h fun v h' => v = .bool (Op.bytesLess a b) ∧ h' = h := by
  refine ACalls.data (.bool _) (ACalls.body Try.f48 _ mixed Try.func48 rfl rfl (by simp [Try.ntmps48]) ?_)
  unfold shortS at ha
  simp
  refine AWP.up mixed a.length (fun i fr h' => fr 0 = .str a ∧ fr 1 = .str b ∧ fr 5 = .int .i64 i ∧ i ≤ b.length ∧ Op.bytesLess a b = Op.bytesLess (a.drop i) (b.drop i) ∧ ∃ g, h' = h ++ g) 0 (by omega) ⟨by simp, by simp, by simp, by omega, by simp, [], by simp⟩ ?_
  rintro i fr h' hi ⟨e0, e1, e5, hib, hf, g, rfl⟩
  by_cases hlt : i < a.length ∧ i < b.length
  · obtain ⟨x, hx, hx'⟩ := get_lt hlt.1
    obtain ⟨y, hy, hy'⟩ := get_lt hlt.2
    rw [less_step hx hy] at hf
    have ew : IntKind.i64.wrap ((i : Int) + 1) = ((i + 1 : Nat) : Int) := by rw [wrap64_of (by omega) (by omega)]; omega
    have hl1 := hlt.1
    have hl2 := hlt.2
    simp [e0, e1, e5, hl1, hl2, hx, hx', hy, hy', ew, u8eq]
    refine ⟨by decide, fun q => ⟨by decide, ?_⟩, fun q => ⟨i + 1, by omega, by omega, by omega, by omega, ?_⟩⟩
    · rw [hf, beq_eq_false_iff_ne.2 q, Bool.false_and, Bool.or_false]; exact decide_eq_decide.2 UInt8.lt_iff_toNat_lt.symm
    · subst q
      rw [hf]; simp
  · have he : a.length ≤ i ∨ b.length ≤ i := by omega
    rw [less_end he hi hib] at hf
    have hn : i < a.length → b.length ≤ i := by omega
    simp [e0, e1, e5, hf]
    exact fun c1 c2 => absurd ⟨c1, c2⟩ hlt
theorem texts_data (l : List Bytes) : ∀ e ∈ l.map encT, ∀ y ∈ e, y.Data := by
  intro e he y hy
  obtain ⟨s, _, rfl⟩ := List.mem_map.1 he
  simp [encT] at hy
  subst hy
  simp
theorem texts_n (l : List Bytes) : ∀ e ∈ l.map encT, e.length = 1 := by
  intro e he
  obtain ⟨s, _, rfl⟩ := List.mem_map.1 he
  rfl
theorem ref07_Insert (l : List Bytes) (s : Bytes) (x : AV) (hx : Rn x (l.map encT)) (hn : s ∉ l) (hs : shortS s) (hl : l.length ≤ 1000000) : ACalls Try.prog gl 43 [x, .str s] h fun v h' => v = .ro ((insT s l).map encT) ∧ h' = h := by
  refine ACalls.fresh (ACalls.body Try.f43 _ mixed Try.func43 rfl rfl (by simp [Try.ntmps43]) ?_)
  have hR := hx.rs (n := 1) h (texts_n l)
  have hxf := hR.fix
  simp [hxf]
  refine AWP.up mixed l.length (fun i fr h' => fr 0 = x ∧ fr 1 = .str s ∧ fr 7 = .int .i64 i ∧ ∃ out done o g, fr 5 = o ∧ fr 6 = .bool done ∧ Ls 1 h.length h' o (out.map encT) ∧ insT s l = out ++ (if done = true then l.drop i else insT s (l.drop i)) ∧ out.length ≤ i + done.toNat ∧ h' = h ++ g) 0 (by omega)
    ⟨by simp, by simp, by simp, [], false, .nil, [], by simp, by simp, Ls.nil, by simp, by simp, by simp⟩ ?_
  rintro i fr h' hi ⟨e0, e1, e7, out, done, o, g, e5, e6, hL, hm, hol, rfl⟩
  have hf := hL.rs.fix
  have hdn : done.toNat ≤ 1 := by cases done <;> simp
  have hR := hR.append g
  rcases Nat.lt_or_ge i l.length with hlt | hge
  · obtain ⟨y, hy, hy'⟩ := get_lt hlt
    have ew := wrap_succ' (i := i) (by omega)
    have hne : ¬ y = s := fun e => hn (e ▸ List.mem_of_getElem? hy)
    have rx := Rs.ix Try.prog hR i (by omega) (y := [.str y]) (by simp [hy, encT])
    simp [hR.len2, hxf, e0, e1, e7, hlt, rx, hne, e5, e6]
    refine callS.pure _ (fun _ => ref01_Before s y hs) ?_
    simp [-appendOk, -appendK, hR.len2, hxf, e0, e1, e5, e6, e7, hlt, rx, hf]
    rw [drop_get hy, insT] at hm
    refine ⟨fun c1 c2 => ?_, fun c1 => ?_⟩
    · subst c1
      refine append_ls (lo := h.length) (n := 1) (es := out.map encT) (ys := [encT s]) (by simpa [encT] using hL.more [.cells 1 [encT s]]) (by simp) (by simp [appOk, encT]) (by simp; omega) ?_
      intro s1 h1 hs1 hg1
      obtain ⟨g1, rfl⟩ := hg1.base h (by simp) ⟨_, by simp; rfl⟩
      have r1 := Rs.ix Try.prog ((hx.rs (n := 1) h (texts_n l)).append g1) i (by omega) (y := [.str y]) (by simp [hy, encT])
      simp [-appendOk, -appendK, e0, e1, e5, e6, e7, hlt, hs1.rs.fix, hxf, r1]
      refine append_ls (lo := h.length) (n := 1) (es := out.map encT ++ [encT s]) (ys := [encT y]) (by simpa [encT] using hs1.more [.cells 1 [encT y]]) (by simp) (by simp [appOk, encT]) (by simp; omega) ?_
      intro s2 h2 hs2 hg2
      obtain ⟨g2, rfl⟩ := hg2.base h (by simp) ⟨_, by simp; rfl⟩
      simp [-appendOk, -appendK, e0, e1, e5, e6, e7, hlt, hs2.rs.fix, ew]
      refine ⟨i + 1, by omega, by omega, by omega, out ++ [s, y], by simpa using hs2, ?_, by simp at hol ⊢; omega⟩
      rw [hm]
      simp [c2]
    · refine append_ls (lo := h.length) (n := 1) (es := out.map encT) (ys := [encT y]) (by simpa [encT] using hL.more [.cells 1 [encT y]]) (by simp) (by simp [appOk, encT]) (by simp; omega) ?_
      intro s1 h1 hs1 hg1
      obtain ⟨g1, rfl⟩ := hg1.base h (by simp) ⟨_, by simp; rfl⟩
      simp [-appendOk, -appendK, e0, e1, e5, e6, e7, hlt, hs1.rs.fix, ew]
      refine ⟨i + 1, by omega, by omega, by omega, ?_⟩
      cases done
      · have c2 := c1 rfl
        exact ⟨out ++ [y], .inl ⟨rfl, by simpa using hs1, by rw [hm]; simp [c2], by simp at hol ⊢; omega⟩⟩
      · exact ⟨out ++ [y], .inr ⟨rfl, by simpa using hs1, by rw [hm]; simp, by simp at hol ⊢; omega⟩⟩
  · rw [List.drop_eq_nil_of_le hge] at hm
    simp [-appendOk, -appendK, hR.len2, hxf, e0, e1, e5, e6, e7, Nat.not_lt.2 hge, hf]
    refine ⟨fun c => ?_, fun c => ?_⟩
    · subst c
      refine append_ls (lo := h.length) (n := 1) (es := out.map encT) (ys := [encT s]) (by simpa [encT] using hL.more [.cells 1 [encT s]]) (by simp) (by simp [appOk, encT]) (by simp; omega) ?_
      intro s1 h1 hs1 hg1
      obtain ⟨g1, rfl⟩ := hg1.base h (by simp) ⟨_, by simp; rfl⟩
      simp [hs1.rs.fix]
      have e : insT s l = out ++ [s] := by rw [hm]; simp [insT]
      rw [e]
      have := hs1.frz (m := h.length) (by omega) (by rw [← List.map_singleton, ← List.map_append]; exact texts_data _)
      simpa using this
    · subst c
      have e : insT s l = out := by rw [hm]; simp
      rw [e]
      have := hL.frz (m := h.length) (by omega) (texts_data _)
      simpa using this
end Go.Proofs.Ytmdenljmfeejfaa
