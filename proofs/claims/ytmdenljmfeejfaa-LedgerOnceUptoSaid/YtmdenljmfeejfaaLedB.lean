/-
  Contracts: copies, searches and equality of entries.
-/
import Derived.Test.YtmdenljmfeejfaaTab
import Derived.Test.YtmdenljmfeejfaaTollLedger
import Derived.Test.YtmdenljmfeejfaaAbsLax
set_option linter.unusedVariables false
set_option linter.unusedSimpArgs false
set_option maxRecDepth 100000
namespace Go.Proofs.Ytmdenljmfeejfaa
open Go Go.Abs Go.Toll
variable {gl : Globs} {h : AHeap}

theorem encPo_n (l : List TPo) : ∀ e ∈ l.map encPo, e.length = 2 := fun e he => by obtain ⟨_, _, rfl⟩ := List.mem_map.1 he; rfl
theorem encPo_data (l : List TPo) : ∀ e ∈ l.map encPo, ∀ y ∈ e, y.Data := fun e he y hy => by
  obtain ⟨p, _, rfl⟩ := List.mem_map.1 he
  simp at hy
  rcases hy with rfl | rfl <;> simp
theorem encEn_data (e : TEn) : ∀ y ∈ encEn e, y.Data := fun y hy => by
  simp only [encEn_eq, List.mem_cons, List.not_mem_nil, or_false] at hy
  rcases hy with rfl | rfl | rfl
  · simp
  · simp
  · exact .ro _ (encPo_data _)
theorem slices_ClonePo (l : List TPo) (hl : l.length ≤ 1000000) : ACalls Try.prog gl 44 [.ro (l.map encPo)] h fun v h' => v = .ro (l.map encPo) ∧ h' = h := by
  refine ACalls.fresh (ACalls.body Try.f44 _ mixed Try.func44 rfl rfl (by simp [Try.ntmps44]) ?_)
  simp
  refine ⟨⟨by omega, Frz.ownD (m := 2) (es := l.map encPo) (by simp) (by omega) (by simp) (by rw [List.drop_zero, List.take_of_length_le (by simp)]) (encPo_data l)⟩, ?_⟩
  rintro rfl
  exact .nil
theorem ledger_clone (e : TEn) (hl : e.posts.length ≤ 1000000) : ACalls Try.prog gl 38 [.agg (encEn e)] h fun v h' => v = .agg (encEn e) ∧ h' = h := by
  refine ACalls.data (.agg _ (encEn_data e)) (ACalls.body Try.f38 _ mixed Try.func38 rfl rfl (by simp [Try.ntmps38]) ?_)
  simp
  refine callS.pure _ (fun _ => slices_ClonePo e.posts hl) ?_
  simp
def lxC : Nat → Option (Nat × List (Nat × Nat)) := fun i => if i = 2 then some (10, [(1, 8), (3, 8)]) else none
theorem ref32_Copy (e : TEn) (hl : e.posts.length ≤ 1000000) : ACalls Try.prog gl 39 [.agg (encEn e)] h fun v h' => v = .agg (encEn e) ∧ h' = h := by
  refine ACalls.fresh (ACalls.bodyM lxC Try.f39 _ mixed Try.func39 rfl rfl (by simp [Try.ntmps39]) ?_)
  simp [-appendOk, -appendK, lxC, preOps]
  refine ⟨⟨by decide, by decide⟩, ?_⟩
  refine append_new (lo := h.length + 2) (n := 2) (es := []) (ys := e.posts.map encPo) Ls.nil (by simp) (appOk_rs (Rs.ro (encPo_n _)) (by simp) (by simp) (by simp)) (by simp; omega) ?_
  intro s1 h1 hs1 hg1 _
  have f1 := hs1.rs.fix
  obtain ⟨g1, rfl⟩ := hg1.base (h ++ [.cells 3 [encEn e], .cells 3 [[.str [], .int .i64 0, .nil]]]) (by simp) ⟨[], by simp⟩
  rw [List.nil_append] at hs1
  have hs2 := hs1.base (h₁ := h ++ [.cells 3 [encEn e], .cells 3 [[.str e.key, .int .i64 e.time, s1]]]) (by simp) (by simp) []
  have hfz := hs2.frz (m := h.length) (by omega) (encPo_data _)
  simp [-acells, -AV.solid, f1, preOps]
  simp at hfz
  exact .agg' (.cons (.data _ (by simp)) (.cons (.data _ (by simp)) (.cons hfz .nil)))
theorem ledger_Find (l : List TEn) (k : Bytes) (hl : l.length ≤ 1000000) (hp : ∀ e ∈ l, e.posts.length ≤ 1000000) : ACalls Try.prog gl 18 [.agg (encLg l), .str k] h fun v h' => v = .tup [.agg (encEn ((findE k l).getD en0)), .bool (findE k l).isSome] ∧ h' = h := by
  refine ACalls.fresh (ACalls.body Try.f18 _ mixed Try.func18 rfl rfl (by simp [Try.ntmps18]) ?_)
  simp
  refine AWP.up mixed l.length (fun i fr h' => fr 1 = .str k ∧ fr 4 = .ptr (h.length + 1) 0 0 ∧ fr 9 = .ro (l.map encEn) ∧ fr 10 = .int .i64 l.length ∧ fr 11 = .int .i64 i ∧ findE k l = findE k (l.drop i) ∧ ∃ g, h' = h ++ .cells 1 [encLg l] :: .cells 3 [[.str [], .int .i64 0, .nil]] :: g) 0 (by omega)
    ⟨by simp, by simp, by simp, by simp, by simp, by simp, _, rfl⟩ ?_
  rintro i fr h' hi ⟨e1, e4, e9, e10, e11, hf, g, rfl⟩
  rcases Nat.lt_or_ge i l.length with hlt | hge
  · obtain ⟨e, he, he'⟩ := get_lt hlt
    rw [drop_get he, findE] at hf
    have ew := wrap_succ' (i := i) (by omega)
    simp [e1, e4, e9, e10, e11, hlt, he, he', ew]
    refine ⟨fun q => ?_, fun q => ⟨i + 1, by omega, by omega, by omega, by rw [hf, if_neg q]⟩⟩
    refine callS.pure _ (fun _ => ledger_clone e (hp e (List.mem_of_getElem? he))) ?_
    simp [e1, e4, e9, e10, e11]
    rw [hf, if_pos q]
    exact .data _ (.tup _ (by simp [encPo_data]))
  · rw [List.drop_eq_nil_of_le hge, findE] at hf
    simp [e1, e4, e9, e10, e11, Nat.not_lt.2 hge, hf]
    exact .tup' (.cons (.agg' (.cons (.data _ (by simp)) (.cons (.data _ (by simp)) (.cons .nil .nil)))) (.cons (.data _ (by simp)) .nil))
theorem ref32_Find (l : List TEn) (k : Bytes) (hl : l.length ≤ 1000000) (hp : ∀ e ∈ l, e.posts.length ≤ 1000000) : ACalls Try.prog gl 19 [.agg (encLg l), .str k] h fun v h' => v = .tup [.agg (encEn ((findE k l).getD en0)), .bool (findE k l).isSome] ∧ h' = h := by
  refine ACalls.fresh (ACalls.body Try.f19 _ mixed Try.func19 rfl rfl (by simp [Try.ntmps19]) ?_)
  simp
  refine AWP.up mixed l.length (fun i fr h' => fr 1 = .str k ∧ fr 2 = .ptr h.length 0 0 ∧ fr 4 = .ptr (h.length + 1) 0 0 ∧ fr 6 = .int .i64 i ∧ findE k l = findE k (l.drop i) ∧ h' = h ++ [.cells 1 [encLg l], .cells 3 [[.str [], .int .i64 0, .nil]]]) 0 (by omega)
    ⟨by simp, by simp, by simp, by simp, by simp, by simp⟩ ?_
  rintro i fr h' hi ⟨e1, e2, e4, e6, hf, rfl⟩
  rcases Nat.lt_or_ge i l.length with hlt | hge
  · obtain ⟨e, he, he'⟩ := get_lt hlt
    rw [drop_get he, findE] at hf
    have ew := wrap_succ' (i := i) (by omega)
    simp [e1, e2, e4, e6, hlt, he, he', ew]
    refine ⟨fun q => ?_, fun q => ⟨i + 1, by omega, by omega, by omega, by rw [hf, if_neg q]⟩⟩
    refine callS.pure _ (fun _ => ref32_Copy e (hp e (List.mem_of_getElem? he))) ?_
    simp [e1, e2, e4, e6]
    rw [hf, if_pos q]
    exact .data _ (.tup _ (by simp [encPo_data]))
  · rw [List.drop_eq_nil_of_le hge, findE] at hf
    simp [e1, e2, e4, e6, Nat.not_lt.2 hge, hf]
    exact .tup' (.cons (.agg' (.cons (.data _ (by simp)) (.cons (.data _ (by simp)) (.cons .nil .nil)))) (.cons (.data _ (by simp)) .nil))
theorem ref32_SameEntry (a b : TEn) (hl : a.posts.length ≤ 1000000) : ACalls Try.prog gl 22 [.agg (encEn a), .agg (encEn b)] h fun v h' => v = .bool (decide (a = b)) ∧ h' = h := by
  refine ACalls.data (.bool _) (ACalls.body Try.f22 _ mixed Try.func22 rfl rfl (by simp [Try.ntmps22]) ?_)
  simp
  refine ⟨fun q => ?_, fun q1 q2 q3 => ?_⟩
  · rintro rfl
    simp at q
  have q3' : a.posts.length = b.posts.length := by omega
  have hab : decide (a = b) = decide (a.posts = b.posts) := by
    cases a; cases b
    simp only [] at q1 q2
    simp [q1, q2]
  rw [hab]
  refine AWP.up mixed a.posts.length (fun i fr h' => fr 2 = .ptr h.length 0 0 ∧ fr 3 = .ptr (h.length + 1) 0 0 ∧ fr 5 = .int .i64 i ∧ (a.posts = b.posts ↔ a.posts.drop i = b.posts.drop i) ∧ h' = h ++ [.cells 3 [encEn a], .cells 3 [encEn b]]) 0 (by omega)
    ⟨by simp, by simp, by simp, by simp, by simp⟩ ?_
  rintro i fr h' hi ⟨e2, e3, e5, hf, rfl⟩
  rcases Nat.lt_or_ge i a.posts.length with hlt | hge
  · obtain ⟨x, hx, hx'⟩ := get_lt hlt
    obtain ⟨y, hy, hy'⟩ := get_lt (l := b.posts) (i := i) (by omega)
    rw [drop_get hx, drop_get hy] at hf
    have ew := wrap_succ' (i := i) (by omega)
    have hltb : i < b.posts.length := by omega
    simp [e2, e3, e5, hlt, hltb, hx, hx', hy, hy', ew]
    refine ⟨by decide, fun hne e => ?_, fun r1 r2 => ⟨i + 1, by omega, by omega, by omega, ?_⟩⟩
    · have := (List.cons.inj (hf.1 e)).1
      subst this
      rcases hne with hne | hne <;> exact hne rfl
    · have : x = y := by cases x; cases y; simp only [] at r1 r2; rw [r1, r2]
      subst this
      rw [hf]
      exact ⟨fun e => (List.cons.inj e).2, fun e => by rw [e]⟩
  · have e : a.posts = b.posts := by rw [hf, List.drop_eq_nil_of_le hge, List.drop_eq_nil_of_le (by omega)]
    have hge' : ¬ (i : Int) < a.posts.length := by omega
    simp [e2, e3, e5, hge']
    exact e
theorem ref32_Same (a b : List TEn) (hl : a.length ≤ 1000000) (hp : ∀ e ∈ a, e.posts.length ≤ 1000000) : ACalls Try.prog gl 17 [.agg (encLg a), .agg (encLg b)] h fun v h' => v = .bool (decide (a = b)) ∧ h' = h := by
  refine ACalls.data (.bool _) (ACalls.body Try.f17 _ mixed Try.func17 rfl rfl (by simp [Try.ntmps17]) ?_)
  simp
  refine ⟨fun q e => by rw [e] at q; exact q rfl, fun q => ?_⟩
  have q : a.length = b.length := by omega
  refine AWP.up mixed a.length (fun i fr h' => fr 2 = .ptr h.length 0 0 ∧ fr 3 = .ptr (h.length + 1) 0 0 ∧ fr 5 = .int .i64 i ∧ (a = b ↔ a.drop i = b.drop i) ∧ h' = h ++ [.cells 1 [encLg a], .cells 1 [encLg b]]) 0 (by omega) ⟨by simp, by simp, by simp, by simp, by simp⟩ ?_
  rintro i fr h' hi ⟨e2, e3, e5, hf, rfl⟩
  rcases Nat.lt_or_ge i a.length with hlt | hge
  · obtain ⟨x, hx, hx'⟩ := get_lt hlt
    obtain ⟨y, hy, hy'⟩ := get_lt (l := b) (i := i) (by omega)
    rw [drop_get hx, drop_get hy] at hf
    have ew := wrap_succ' (i := i) (by omega)
    have hltb : i < b.length := by omega
    simp [e2, e3, e5, hlt, hltb, hx, hx', hy, hy', ew]
    refine ⟨by decide, ?_⟩
    refine callS.pure _ (fun _ => ref32_SameEntry x y (hp x (List.mem_of_getElem? hx))) ?_
    simp [e2, e3, e5, hlt, hltb, hx, hx', hy, hy', ew]
    refine ⟨fun hne e => hne (List.cons.inj (hf.1 e)).1, fun he => ⟨i + 1, by omega, by omega, by omega, ?_⟩⟩
    subst he
    rw [hf]
    exact ⟨fun e => (List.cons.inj e).2, fun e => by rw [e]⟩
  · have e : a = b := by rw [hf, List.drop_eq_nil_of_le hge, List.drop_eq_nil_of_le (by omega)]
    have hge' : ¬ (i : Int) < a.length := by omega
    simp [e2, e3, e5, hge']
    exact e
def encB1 (s : Bytes) : List AV := [.str s]
theorem ref01_SameTexts (a b : List Bytes) (hl : a.length ≤ 1000000) : ACalls Try.prog gl 25 [.ro (a.map fun s => [.str s]), .ro (b.map fun s => [.str s])] h fun v h' => v = .bool (decide (a = b)) ∧ h' = h := by
  refine ACalls.data (.bool _) (ACalls.body Try.f25 _ mixed Try.func25 rfl rfl (by simp [Try.ntmps25]) ?_)
  simp
  refine ⟨fun q e => by rw [e] at q; exact q rfl, fun q => ?_⟩
  have q : a.length = b.length := by omega
  refine AWP.up mixed a.length (fun i fr h' => fr 0 = .ro (a.map fun s => [.str s]) ∧ fr 1 = .ro (b.map fun s => [.str s]) ∧ fr 5 = .int .i64 i ∧ (a = b ↔ a.drop i = b.drop i) ∧ h' = h) 0 (by omega) ⟨by simp, by simp, by simp, by simp, by simp⟩ ?_
  rintro i fr h' hi ⟨e0, e1, e5, hf, rfl⟩
  rcases Nat.lt_or_ge i a.length with hlt | hge
  · obtain ⟨x, hx, hx'⟩ := get_lt hlt
    obtain ⟨y, hy, hy'⟩ := get_lt (l := b) (i := i) (by omega)
    rw [drop_get hx, drop_get hy] at hf
    have ew := wrap_succ' (i := i) (by omega)
    have hltb : i < b.length := by omega
    simp [e0, e1, e5, hlt, hltb, hx, hx', hy, hy', ew]
    refine ⟨by decide, fun hne e => hne (List.cons.inj (hf.1 e)).1, fun he => ⟨i + 1, by omega, by omega, by omega, ?_⟩⟩
    subst he
    rw [hf]
    exact ⟨fun e => (List.cons.inj e).2, fun e => by rw [e]⟩
  · have e : a = b := by rw [hf, List.drop_eq_nil_of_le hge, List.drop_eq_nil_of_le (by omega)]
    have hge' : ¬ (i : Int) < a.length := by omega
    simp [e0, e1, e5, hge']
    exact e
theorem ref07_HasText (l : List Bytes) (s : Bytes) (x : AV) (hx : Rn x (l.map fun s => [.str s])) (hl : l.length ≤ 1000000) : ACalls Try.prog gl 42 [x, .str s] h fun v h' => v = .bool (decide (s ∈ l)) ∧ h' = h := by
  refine ACalls.data (.bool _) (ACalls.body Try.f42 _ mixed Try.func42 rfl rfl (by simp [Try.ntmps42]) ?_)
  have hR := hx.rs (n := 1) h (by simp)
  have hf := hR.fix
  simp [hf]
  refine AWP.up mixed l.length (fun i fr h' => fr 0 = x ∧ fr 1 = .str s ∧ fr 5 = .int .i64 i ∧ (s ∈ l ↔ s ∈ l.drop i) ∧ h' = h) 0 (by omega) ⟨by simp, by simp, by simp, by simp, by simp⟩ ?_
  rintro i fr h' hi ⟨e0, e1, e5, hm, rfl⟩
  rcases Nat.lt_or_ge i l.length with hlt | hge
  · obtain ⟨y, hy, hy'⟩ := get_lt hlt
    rw [drop_get hy, List.mem_cons] at hm
    have ew := wrap_succ' (i := i) (by omega)
    have rx := Rs.ix Try.prog hR i (by omega) (y := [.str y]) (by simp [hy])
    simp [e0, e1, e5, hlt, hf, hR.len2, rx, ew]
    refine ⟨fun q => hm.2 (.inl q.symm), fun q => ⟨i + 1, by omega, by omega, by omega, hm.trans ⟨fun e => e.resolve_left fun e => q e.symm, .inr⟩⟩⟩
  · rw [List.drop_eq_nil_of_le hge] at hm
    simp [e0, e1, e5, hf, hR.len2, Nat.not_lt.2 hge]
    intro e
    simpa using hm.1 e
end Go.Proofs.Ytmdenljmfeejfaa
