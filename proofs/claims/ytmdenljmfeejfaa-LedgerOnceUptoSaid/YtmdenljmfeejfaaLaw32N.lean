/-
  Plain facts for the law of an entry that is added once (the walk is still to be written).
-/
import Derived.Test.YtmdenljmfeejfaaLaw32O
set_option linter.unusedVariables false
set_option linter.unusedSimpArgs false
set_option linter.unnecessarySimpa false
set_option maxRecDepth 100000
namespace Go.Proofs.Ytmdenljmfeejfaa
open Go Go.Abs Go.Toll
variable {gl : Globs} {h : AHeap}

theorem findE_snoc {k : Bytes} {e : TEn} (hk : e.key = k) : ∀ {l : List TEn}, findE k l = none → findE k (l ++ [e]) = some e
  | [], _ => by simp [findE, hk]
  | x :: l, h => by
    rw [findE] at h
    split at h
    · cases h
    · rename_i h1
      rw [List.cons_append, findE, if_neg h1, findE_snoc hk h]
/-- What is known of a ledger to which an entry was added. -/
theorem postR_zero {l : List TEn} {e : TEn} (h : (postR l e).2 = 0) : (postR l e).1 = l ++ [e] ∧ enErr e = 0 ∧ findE e.key (l ++ [e]) = some e ∧ postR (l ++ [e]) e = (l ++ [e], 9) := by
  unfold postR at h ⊢
  split at h
  · exact absurd h (by assumption)
  · rename_i h1
    split at h
    · exact absurd h (by show ¬ (9 : Int) = 0; decide)
    · rename_i h2
      split at h
      · exact absurd h (by show ¬ (13 : Int) = 0; decide)
      · rename_i h3
        have hn : findE e.key l = none := by
          cases hf : findE e.key l with
          | none => rfl
          | some x => rw [hf] at h2; simp at h2
        have hs := findE_snoc (e := e) rfl hn
        refine ⟨by rw [if_neg h1, if_neg h2, if_neg h3], by simpa using h1, hs, ?_⟩
        rw [if_neg h1, if_pos (by rw [hs]; rfl)]
theorem postR_same {l : List TEn} {e : TEn} (h : (postR l e).2 ≠ 0) : (postR l e).1 = l := by
  unfold postR at h ⊢
  split at h
  · rename_i h1; rw [if_pos h1]
  · rename_i h1
    split at h
    · rename_i h2; rw [if_neg h1, if_pos h2]
    · rename_i h2
      split at h
      · rename_i h3; rw [if_neg h1, if_neg h2, if_pos h3]
      · exact absurd rfl h
theorem law32_buildR [GOk gl] (l : List TEn) (a : AV) (ha : Rs 3 h a (l.map encEn)) : ACalls Try.prog gl 14 [a] h fun v h' => v = .tup [.agg (encLg (bldL l).1), .bool (bldL l).2] ∧ h' = h := by
  refine ACalls.fresh (ACalls.body Try.f14 _ mixed Try.func14 rfl rfl (by simp [Try.ntmps14]) ?_)
  have fa := ha.fix
  have la := ha.len2
  have la0 := (ha.append [.cells 1 [[.nil]], .cells 1 [[.nil]]]).len2
  simp [fa, la, la0]
  refine ⟨fun c => ?_, fun c => ?_⟩
  · rw [bldL, if_pos (by omega)]
    exact .tup' (.cons (.agg' (.cons .nil .nil)) (.cons (.data _ (by simp)) .nil))
  rw [bldL, if_neg (by omega)]
  refine AWP.up mixed l.length (fun i fr h' => fr 0 = a ∧ fr 2 = .ptr h.length 0 0 ∧ fr 4 = .ptr (h.length + 1) 0 0 ∧ fr 5 = .int .i64 i ∧ ∃ x out, h' = h ++ [.cells 1 [[.nil]], .cells 1 [[x]]] ∧ Rn x (out.map encEn) ∧ okB out i ∧ bldF [] l = bldF out (l.drop i)) 0 (by omega)
    ⟨by simp, by simp, by simp, by simp, .nil, [], by simp, Rn.nil, okB.nil, by simp⟩ ?_
  rintro i fr h' hi ⟨e0, e2, e4, e5, x, out, rfl, hx, hk, hm⟩
  have hxc := rn_core hx
  have hb := ha.append [.cells 1 [[.nil]], .cells 1 [[x]]]
  have fb := hb.fix
  have lb := hb.len2
  rcases Nat.lt_or_ge i l.length with hlt | hge
  · obtain ⟨e, he, he'⟩ := get_lt hlt
    have ew := wrap_succ' (i := i) (by omega)
    have rb := Rs.ix Try.prog hb i (by omega) (y := encEn e) (by simp [he])
    simp only [encEn] at rb
    rw [drop_get he, bldF] at hm
    simp [encEn, e0, e2, e4, e5, hlt, fb, lb, rb, hxc]
    refine callS.pure _ (fun _ => law32_small e) ?_
    simp [encEn, e0, e2, e4, e5, hlt, fb, lb, rb, hxc]
    refine ⟨fun q => ?_, fun q => ?_⟩
    · rw [hm, if_pos q]
      exact .tup' (.cons (.agg' (.cons (rn_frz hx) .nil)) (.cons (.data _ (by simp)) .nil))
    · rw [if_neg (by simp [q])] at hm
      refine ⟨by decide, ?_⟩
      refine callS.pure _ (fun _ => ref32_Post' x out e hx hk (by omega) q) ?_
      simp [encEn, e0, e2, e4, e5, hlt, fb, lb, rb, hxc, ew]
      exact ⟨i + 1, by omega, by omega, by omega, _, Rn.ro _, hk.post q, hm⟩
  · rw [List.drop_eq_nil_of_le hge, bldF] at hm
    simp [e0, e2, e4, e5, Nat.not_lt.2 hge, fb, lb, hxc]
    rw [hm]
    exact .tup' (.cons (.agg' (.cons (rn_frz hx) .nil)) (.cons (.data _ (by simp)) .nil))
theorem en_n (l : List TEn) : ∀ e ∈ l.map encEn, e.length = 3 := fun e he => by
  obtain ⟨m, _, rfl⟩ := List.mem_map.1 he
  rfl
theorem lsLt {n lo : Nat} {h : AHeap} {x : AV} {es : List (List AV)} (r : Ls n lo h x es) {b off len : Nat} (e : x = .own b off len) : b < h.length := by
  rcases r.1 with ⟨e1, _⟩ | ⟨b', e1, _, hg⟩
  · rw [e1] at e; cases e
  · rw [e1] at e; injection e with e2; subst e2; exact lt_of_get hg
theorem onceG {h H : AHeap} {o : AObj} (hb : ∃ g, H = (h ++ [o]) ++ g) : ∃ g, H = h ++ o :: g := by
  obtain ⟨g, rfl⟩ := hb
  exact ⟨g, by simp⟩
theorem r13 : List.range 13 = [0,1,2,3,4,5,6,7,8,9,10,11,12] := rfl
def lxN : Nat → Option RMode := fun id => if id = 1 then some (.perm [([0, 1, 2, 3, 4, 5, 6, 7, 8, 9, 10, 11, 12], [(3, 0), (3, 1), (6, 11)]), ([0, 1, 2, 3, 4, 10, 5, 6, 7, 8, 9, 11, 12], [(3, 0), (3, 1)]), ([0, 1, 2, 3, 10, 4, 5, 6, 7, 8, 9, 11, 12], [(3, 0), (3, 1), (3, 5)]), ([0, 1, 3, 4, 2, 5, 6, 7, 8, 9, 10, 11, 12], [(2, 0), (6, 11)]), ([0, 1, 3, 4, 2, 10, 5, 6, 7, 8, 9, 11, 12], [(2, 0)]), ([0, 1, 3, 4, 10, 2, 5, 6, 7, 8, 9, 11, 12], [(2, 0)]), ([0, 1, 3, 10, 2, 4, 5, 6, 7, 8, 9, 11, 12], [(2, 0), (2, 4), (2, 5)]), ([0, 1, 3, 10, 4, 2, 5, 6, 7, 8, 9, 11, 12], [(2, 0), (2, 4)]), ([1, 3, 4, 0, 2, 5, 6, 7, 8, 9, 10, 11, 12], [(6, 11)]), ([1, 3, 4, 0, 2, 10, 5, 6, 7, 8, 9, 11, 12], []), ([1, 3, 4, 0, 10, 2, 5, 6, 7, 8, 9, 11, 12], []), ([1, 3, 4, 10, 0, 2, 5, 6, 7, 8, 9, 11, 12], []), ([1, 3, 10, 0, 2, 4, 5, 6, 7, 8, 9, 11, 12], [(1, 3), (1, 4), (1, 5)]), ([1, 3, 10, 0, 4, 2, 5, 6, 7, 8, 9, 11, 12], [(1, 3), (1, 4)]), ([1, 3, 10, 4, 0, 2, 5, 6, 7, 8, 9, 11, 12], [(1, 3)])]) else none
set_option maxHeartbeats 4000000 in
theorem law_Once [GOk gl] (l : List TEn) (e : TEn) (a : Bytes) (hl : l.length ≤ 1048576) : ACalls Try.prog gl 8 [.ro (l.map encEn), .agg (encEn e), .str a] h fun v h' => v = .bool true := by
  refine ACalls.mono (ACalls.data (.bool true) (ACalls.bodyN lxN Try.f8 _ mixed Try.func8 rfl rfl (by simp [Try.ntmps8]) ?_)) fun _ _ h => h.1
  simp [lxN, -awp_drawN]
  rw [awp_drawN]
  simp only [lxN, if_true]
  refine ⟨by decide, ?_⟩
  generalize hK : AThen _ _ Exit.normal = K
  have key : ∀ fr' h', fr' 0 = .ro (l.map encEn) → fr' 2 = .str a → fr' 4 = .ptr h.length 0 0 → fr' 8 = .bool (bldL (l ++ [e])).2 → (∃ g, h' = h ++ .cells 3 [encEn e] :: g) → K fr' h' := by
    rintro fr h' e0 e2 e4 e8 ⟨g, rfl⟩
    rw [← hK]
    simp [e0, e2, e4, e8]
    intro c ca
    obtain ⟨c1, c2, c3⟩ := bldL_ok c
    simp at c1
    have hel : small2 e = true := c2 e (by simp)
    obtain ⟨x, hx⟩ : ∃ x, x = pstF [] l := ⟨_, rfl⟩
    have hsl : ∀ e ∈ l, small2 e = true := fun y hy => c2 y (by simp [hy])
    have hk : okB x 40 := by rw [hx]; exact (pstF_okB l [] 0 okB.nil hsl).mono (by omega)
    have hkl := hk.okl (by omega)
    have hxl := hk.len
    refine callS.pure _ (fun _ => law32_post l (by omega) hsl) ?_
    rw [← hx]
    simp [e0, e2, e4]
    refine callS.pure _ (fun _ => ledger_Post' _ x e (Rn.ro _) hk (by omega) hel) ?_
    simp [e0, e2, e4]
    have hkp := hk.post hel
    refine ⟨fun q => ?_, fun q => ?_⟩
    · refine callS.pure _ (fun _ => ref32_Same _ _ (by omega) hk.posts) ?_
      rw [postR_same q]
      simp
      refine callS.pure _ (fun _ => law32_alive) ?_
      simp
    · obtain ⟨p1, p2, p3, p4⟩ := postR_zero q
      rw [p1] at hkp ⊢
      have hkpl := hkp.okl (by omega)
      have hkpn := hkp.len
      have hfind : ∀ H, ACalls Try.prog gl 18 [.agg (encLg (x ++ [e])), .str e.key] H fun v h' => v = .tup [.agg (encEn e), .bool true] ∧ h' = H := by
        intro H
        have := ledger_Find (gl := gl) (h := H) (x ++ [e]) e.key (by omega) hkp.posts
        rw [p3] at this
        exact this
      refine callS.pure _ (fun _ => ledger_Post' _ (x ++ [e]) e (Rn.ro _) hkp (by omega) hel) ?_
      rw [p4]
      simp [-List.map_append, e0, e2, e4]
      refine callS.pure _ (fun _ => hfind _) ?_
      simp [-List.map_append, e0, e2, e4]
      refine callS.pure _ (fun _ => ledger_Balance x a hkl) ?_
      simp [-List.map_append, e0, e2, e4]
      have hr := poI_range a (allP x) (okL_posts hkl).2
      have hrl := (okL_posts hkl).1
      have he40 := (small2_all hel).1
      have hsum : balI (x ++ [e]) a = balI x a + poI a e.posts := balI_snoc x e a
      have hb0 : balI x a = poI a (allP x) := rfl
      refine AWP.upN lxN mixed e.posts.length (fun j fr h' => fr 2 = .str a ∧ fr 4 = .ptr h.length 0 0 ∧ fr 10 = .ptr (h.length + (g.length + 2)) 0 0 ∧ fr 12 = .ptr (h.length + (g.length + 3)) 0 0 ∧ fr 13 = .int .i64 9 ∧ fr 14 = .ptr (h.length + (g.length + 4)) 0 0 ∧ fr 15 = .bool true ∧ fr 17 = .int .i64 j ∧
          (∃ s : Int, fr 16 = .int .i64 s ∧ balI (x ++ [e]) a = s + poI a (e.posts.drop j) ∧ -((2000 + j : Nat) : Int) * 1125899906842624 ≤ s ∧ s ≤ ((2000 + j : Nat) : Int) * 1125899906842624) ∧
          h' = h ++ .cells 3 [encEn e] :: (g ++ [.cells 1 [encLg x], .cells 1 [encLg (x ++ [e])], .cells 1 [encLg (x ++ [e])], .cells 3 [encEn e]])) 0 (by omega)
        ⟨by simp [e2], by simp [e4], by simp, by simp, by simp, by simp, by simp, by simp, ⟨balI x a, by simp, by simpa using hsum, by push_cast; omega, by push_cast; omega⟩, by simp⟩ ?_
      clear e0 e2 e4 e8
      rintro j fr h' hj ⟨e2, e4, e10, e12, e13, e14, e15, e17, ⟨s, e16, hs, hs1, hs2⟩, rfl⟩
      rcases Nat.lt_or_ge j e.posts.length with hltj | hgej
      · obtain ⟨p, hpj, hpj'⟩ := get_lt hltj
        have hc := fits_range (enErr_fits p2 p (List.mem_of_getElem? hpj))
        rw [drop_get hpj, poI] at hs
        have ewj := wrap_succ' (i := j) (by omega)
        push_cast at hs1 hs2
        have w1 : IntKind.i64.wrap (s + p.cents) = s + p.cents := wrap64_of (by omega) (by omega)
        simp [-List.map_append, e2, e4, e10, e12, e13, e14, e15, e16, e17, hltj, hpj, hpj', ewj, w1]
        refine ⟨fun q => ⟨j + 1, by omega, by omega, by omega, ?_, by push_cast; omega, by push_cast; omega⟩, fun q => ⟨j + 1, by omega, by omega, by omega, ?_, by push_cast; omega, by push_cast; omega⟩⟩
        · rw [hs, if_pos q]; omega
        · rw [hs, if_neg q]; omega
      · rw [List.drop_eq_nil_of_le hgej, poI, Int.add_zero] at hs
        simp [-List.map_append, e2, e4, e10, e12, e13, e14, e15, e16, e17, Nat.not_lt.2 hgej]
        refine callS.pure _ (fun _ => ref32_Same (x ++ [e]) (x ++ [e]) (by omega) hkp.posts) ?_
        simp [-List.map_append, e2, e4, e10, e12, e13, e14, e15, e16, e17]
        refine callS.pure _ (fun _ => ref32_SameEntry e e (by omega)) ?_
        simp [-List.map_append, e2, e4, e10, e12, e13, e14, e15, e16, e17]
        refine callS.pure _ (fun _ => ledger_Balance (x ++ [e]) a hkpl) ?_
        simp [-List.map_append, e2, e4, e10, e12, e13, e14, e15, e16, e17, hs]
        refine callS.pure _ (fun _ => law32_alive) ?_
        simp
  have hlp : (l.map encEn).length = l.length := by simp
  iterate 15 rw [permAll_cons]
  refine ⟨⟨by decide +kernel, ?_⟩, ⟨by decide +kernel, ?_⟩, ⟨by decide +kernel, ?_⟩, ⟨by decide +kernel, ?_⟩, ⟨by decide +kernel, ?_⟩, ⟨by decide +kernel, ?_⟩, ⟨by decide +kernel, ?_⟩, ⟨by decide +kernel, ?_⟩, ⟨by decide +kernel, ?_⟩, ⟨by decide +kernel, ?_⟩, ⟨by decide +kernel, ?_⟩, ⟨by decide +kernel, ?_⟩, ⟨by decide +kernel, ?_⟩, ⟨by decide +kernel, ?_⟩, ⟨by decide +kernel, ?_⟩, trivial⟩
  · simp [-appendOk, -appendK, permOps, permOp, lastAct, isAct, actB, r13]
    refine append_new (lo := h.length + 1) (n := 3) (es := []) (ys := l.map encEn) (Ls.own (by simp) (by omega) rfl (by simp)) (by simp) (appOk_rs (Rs.ro (en_n l)) (by simp) (by simp) (by simp)) (by simp; omega) ?_
    intro s1 H1 hs1 hg1 hn1
    have hs1f := hs1.rs.fix
    have hne1 : ∀ b, b ≠ (h.length + 1) → ∀ off len, AV.own (h.length + 1) 0 0 ≠ .own b off len := fun b hb off len q => by injection q; omega
    have hE := hg1.keep h.length (.cells 3 [encEn e]) (by simp) (by simpa using hne1 _ (by omega))
    have hE3 := at3 hE
    simp only [encEn] at hE3
    have hbs := hg1.base (h ++ [.cells 3 [encEn e]]) (by simp) ⟨_, by simp; rfl⟩
    have hE30 := at3 (at_more hE [.cells 3 [[.str e.key, .int .i64 e.time, .ro (e.posts.map encPo)]]])
    simp only [encEn] at hE30
    simp [-appendOk, -appendK, -List.map_append, hs1f, hE3, hE30]
    refine append_new (lo := h.length + 1) (n := 3) (es := l.map encEn) (ys := [encEn e]) (by simpa using hs1.more [.cells 3 [[.str e.key, .int .i64 e.time, .ro (e.posts.map encPo)]]]) (by have := hE3.2.1; first | omega | (simp; omega)) (by simp [appOk, encEn, hs1f, hE3, hE30]) (by simp; omega) ?_
    intro s2 H2 hs2 hg2 hn2
    have hs2f := hs2.rs.fix
    have hR : Rs 3 H2 s2 ((l ++ [e]).map encEn) := by simpa using hs2.rs
    have hbs2 := hg2.base (h ++ [.cells 3 [encEn e]]) (by simp) (base_more hbs _)
    have bq := fun (g : AHeap) => law32_buildR (gl := gl) (h := H2 ++ g) (l ++ [e]) s2 (hR.append g)
    simp [-appendOk, -appendK, -List.map_append, hs2f]
    refine callS.pure _ (fun _ => by simpa using bq []) ?_
    simp [-List.map_append, hs2f]
    refine ⟨callS.pure _ (fun _ => bq _) ?_, ?_⟩
    · simp
    · exact key _ _ (by simp) (by simp) (by simp) (by simp) (onceG (base_more hbs2 _))
  · simp [-appendOk, -appendK, permOps, permOp, lastAct, isAct, actB, r13]
    refine append_new (lo := h.length + 1) (n := 3) (es := []) (ys := l.map encEn) (Ls.own (by simp) (by omega) rfl (by simp)) (by simp) (appOk_rs (Rs.ro (en_n l)) (by simp) (by simp) (by simp)) (by simp; omega) ?_
    intro s1 H1 hs1 hg1 hn1
    have hs1f := hs1.rs.fix
    have hne1 : ∀ b, b ≠ (h.length + 1) → ∀ off len, AV.own (h.length + 1) 0 0 ≠ .own b off len := fun b hb off len q => by injection q; omega
    have hE := hg1.keep h.length (.cells 3 [encEn e]) (by simp) (by simpa using hne1 _ (by omega))
    have hE3 := at3 hE
    simp only [encEn] at hE3
    have hbs := hg1.base (h ++ [.cells 3 [encEn e]]) (by simp) ⟨_, by simp; rfl⟩
    have hE30 := at3 (at_more hE [.cells 3 [[.str e.key, .int .i64 e.time, .ro (e.posts.map encPo)]]])
    simp only [encEn] at hE30
    have hE31 := at3 (at_more hE [.cells 3 [[.str e.key, .int .i64 e.time, .ro (e.posts.map encPo)]], .cells 1 [[.nil]]])
    simp only [encEn] at hE31
    simp [-appendOk, -appendK, -List.map_append, hs1f, hE3, hE30, hE31]
    refine append_new (lo := h.length + 1) (n := 3) (es := l.map encEn) (ys := [encEn e]) (by simpa using hs1.more [.cells 3 [[.str e.key, .int .i64 e.time, .ro (e.posts.map encPo)]], .cells 1 [[.nil]]]) (by have := hE3.2.1; first | omega | (simp; omega)) (by simp [appOk, encEn, hs1f, hE3, hE30, hE31]) (by simp; omega) ?_
    intro s2 H2 hs2 hg2 hn2
    have hs2f := hs2.rs.fix
    have hR : Rs 3 H2 s2 ((l ++ [e]).map encEn) := by simpa using hs2.rs
    have hbs2 := hg2.base (h ++ [.cells 3 [encEn e]]) (by simp) (base_more hbs _)
    have bq := fun (g : AHeap) => law32_buildR (gl := gl) (h := H2 ++ g) (l ++ [e]) s2 (hR.append g)
    have hA2 := hg2.keep (H1.length + 1) (.cells 1 [[.nil]]) (by simp) fun off len q => by have := lsLt hs1 q; omega
    have hA23 := at3 hA2
    simp [-appendOk, -appendK, -List.map_append, hs2f, hA23, hs1f, hE3, hE30, hE31]
    refine callS.pure _ (fun _ => by simpa using bq []) ?_
    simp [-List.map_append, hs2f, hA23, hs1f, hE3, hE30, hE31]
    exact key _ _ (by simp) (by simp) (by simp) (by simp) (onceG (base_set hbs2 (by simp <;> omega) _))
  · simp [-appendOk, -appendK, permOps, permOp, lastAct, isAct, actB, r13]
    refine append_new (lo := h.length + 1) (n := 3) (es := []) (ys := l.map encEn) (Ls.own (by simp) (by omega) rfl (by simp)) (by simp) (appOk_rs (Rs.ro (en_n l)) (by simp) (by simp) (by simp)) (by simp; omega) ?_
    intro s1 H1 hs1 hg1 hn1
    have hs1f := hs1.rs.fix
    have hne1 : ∀ b, b ≠ (h.length + 1) → ∀ off len, AV.own (h.length + 1) 0 0 ≠ .own b off len := fun b hb off len q => by injection q; omega
    have hE := hg1.keep h.length (.cells 3 [encEn e]) (by simp) (by simpa using hne1 _ (by omega))
    have hE3 := at3 hE
    simp only [encEn] at hE3
    have hbs := hg1.base (h ++ [.cells 3 [encEn e]]) (by simp) ⟨_, by simp; rfl⟩
    have hE30 := at3 (at_more hE [.cells 1 [[.nil]]])
    simp only [encEn] at hE30
    have hE31 := at3 (at_more hE [.cells 1 [[.nil]], .cells 3 [[.str e.key, .int .i64 e.time, .ro (e.posts.map encPo)]]])
    simp only [encEn] at hE31
    simp [-appendOk, -appendK, -List.map_append, hs1f, hE3, hE30, hE31]
    refine append_new (lo := h.length + 1) (n := 3) (es := l.map encEn) (ys := [encEn e]) (by simpa using hs1.more [.cells 1 [[.nil]], .cells 3 [[.str e.key, .int .i64 e.time, .ro (e.posts.map encPo)]]]) (by have := hE3.2.1; first | omega | (simp; omega)) (by simp [appOk, encEn, hs1f, hE3, hE30, hE31]) (by simp; omega) ?_
    intro s2 H2 hs2 hg2 hn2
    have hs2f := hs2.rs.fix
    have hR : Rs 3 H2 s2 ((l ++ [e]).map encEn) := by simpa using hs2.rs
    have hbs2 := hg2.base (h ++ [.cells 3 [encEn e]]) (by simp) (base_more hbs _)
    have bq := fun (g : AHeap) => law32_buildR (gl := gl) (h := H2 ++ g) (l ++ [e]) s2 (hR.append g)
    have hA2 := hg2.keep H1.length (.cells 1 [[.nil]]) (by simp) fun off len q => by have := lsLt hs1 q; omega
    have hA23 := at3 hA2
    simp [-appendOk, -appendK, -List.map_append, hs2f, hA23, hs1f, hE3, hE30, hE31]
    refine callS.pure _ (fun _ => by simpa using bq []) ?_
    simp [-List.map_append, hs2f, hA23, hs1f, hE3, hE30, hE31]
    exact key _ _ (by simp) (by simp) (by simp) (by simp) (onceG (base_set hbs2 (by simp <;> omega) _))
  · simp [-appendOk, -appendK, permOps, permOp, lastAct, isAct, actB, r13]
    refine append_new (lo := h.length + 1) (n := 3) (es := []) (ys := l.map encEn) (Ls.own (by simp) (by omega) rfl (by simp)) (by simp) (appOk_rs (Rs.ro (en_n l)) (by simp) (by simp) (by simp)) (by simp; omega) ?_
    intro s1 H1 hs1 hg1 hn1
    have hs1f := hs1.rs.fix
    have hne1 : ∀ b, b ≠ (h.length + 1) → ∀ off len, AV.own (h.length + 1) 0 0 ≠ .own b off len := fun b hb off len q => by injection q; omega
    have hE := hg1.keep h.length (.cells 3 [encEn e]) (by simp) (by simpa using hne1 _ (by omega))
    have hE3 := at3 hE
    simp only [encEn] at hE3
    have hC := hg1.keep (h.length + 2) (.cells 3 [encEn e]) (by simp [encEn]) (by simpa using hne1 _ (by omega))
    have hC3 := at3 hC
    simp only [encEn] at hC3
    have hbs := hg1.base (h ++ [.cells 3 [encEn e]]) (by simp) ⟨_, by simp; rfl⟩
    simp [-appendOk, -appendK, -List.map_append, hs1f, hE3, hC3]
    refine append_new (lo := h.length + 1) (n := 3) (es := l.map encEn) (ys := [encEn e]) hs1 (by have := hE3.2.1; first | omega | (simp; omega)) (by simp [appOk, encEn, hs1f, hE3, hC3]) (by simp; omega) ?_
    intro s2 H2 hs2 hg2 hn2
    have hs2f := hs2.rs.fix
    have hR : Rs 3 H2 s2 ((l ++ [e]).map encEn) := by simpa using hs2.rs
    have hbs2 := hg2.base (h ++ [.cells 3 [encEn e]]) (by simp) hbs
    have bq := fun (g : AHeap) => law32_buildR (gl := gl) (h := H2 ++ g) (l ++ [e]) s2 (hR.append g)
    simp [-appendOk, -appendK, -List.map_append, hs2f]
    refine callS.pure _ (fun _ => by simpa using bq []) ?_
    simp [-List.map_append, hs2f]
    refine ⟨callS.pure _ (fun _ => bq _) ?_, ?_⟩
    · simp
    · exact key _ _ (by simp) (by simp) (by simp) (by simp) (onceG (base_more hbs2 _))
  · simp [-appendOk, -appendK, permOps, permOp, lastAct, isAct, actB, r13]
    refine append_new (lo := h.length + 1) (n := 3) (es := []) (ys := l.map encEn) (Ls.own (by simp) (by omega) rfl (by simp)) (by simp) (appOk_rs (Rs.ro (en_n l)) (by simp) (by simp) (by simp)) (by simp; omega) ?_
    intro s1 H1 hs1 hg1 hn1
    have hs1f := hs1.rs.fix
    have hne1 : ∀ b, b ≠ (h.length + 1) → ∀ off len, AV.own (h.length + 1) 0 0 ≠ .own b off len := fun b hb off len q => by injection q; omega
    have hE := hg1.keep h.length (.cells 3 [encEn e]) (by simp) (by simpa using hne1 _ (by omega))
    have hE3 := at3 hE
    simp only [encEn] at hE3
    have hC := hg1.keep (h.length + 2) (.cells 3 [encEn e]) (by simp [encEn]) (by simpa using hne1 _ (by omega))
    have hC3 := at3 hC
    simp only [encEn] at hC3
    have hbs := hg1.base (h ++ [.cells 3 [encEn e]]) (by simp) ⟨_, by simp; rfl⟩
    have hE30 := at3 (at_more hE [.cells 1 [[.nil]]])
    simp only [encEn] at hE30
    have hC30 := at3 (at_more hC [.cells 1 [[.nil]]])
    simp only [encEn] at hC30
    simp [-appendOk, -appendK, -List.map_append, hs1f, hE3, hC3, hE30, hC30]
    refine append_new (lo := h.length + 1) (n := 3) (es := l.map encEn) (ys := [encEn e]) (by simpa using hs1.more [.cells 1 [[.nil]]]) (by have := hE3.2.1; first | omega | (simp; omega)) (by simp [appOk, encEn, hs1f, hE3, hC3, hE30, hC30]) (by simp; omega) ?_
    intro s2 H2 hs2 hg2 hn2
    have hs2f := hs2.rs.fix
    have hR : Rs 3 H2 s2 ((l ++ [e]).map encEn) := by simpa using hs2.rs
    have hbs2 := hg2.base (h ++ [.cells 3 [encEn e]]) (by simp) (base_more hbs _)
    have bq := fun (g : AHeap) => law32_buildR (gl := gl) (h := H2 ++ g) (l ++ [e]) s2 (hR.append g)
    have hA2 := hg2.keep H1.length (.cells 1 [[.nil]]) (by simp) fun off len q => by have := lsLt hs1 q; omega
    have hA23 := at3 hA2
    simp [-appendOk, -appendK, -List.map_append, hs2f, hA23, hs1f, hE3, hC3, hE30, hC30]
    refine callS.pure _ (fun _ => by simpa using bq []) ?_
    simp [-List.map_append, hs2f, hA23, hs1f, hE3, hC3, hE30, hC30]
    exact key _ _ (by simp) (by simp) (by simp) (by simp) (onceG (base_set hbs2 (by simp <;> omega) _))
  · simp [-appendOk, -appendK, permOps, permOp, lastAct, isAct, actB, r13]
    refine append_new (lo := h.length + 1) (n := 3) (es := []) (ys := l.map encEn) (Ls.own (by simp) (by omega) rfl (by simp)) (by simp) (appOk_rs (Rs.ro (en_n l)) (by simp) (by simp) (by simp)) (by simp; omega) ?_
    intro s1 H1 hs1 hg1 hn1
    have hs1f := hs1.rs.fix
    have hne1 : ∀ b, b ≠ (h.length + 1) → ∀ off len, AV.own (h.length + 1) 0 0 ≠ .own b off len := fun b hb off len q => by injection q; omega
    have hE := hg1.keep h.length (.cells 3 [encEn e]) (by simp) (by simpa using hne1 _ (by omega))
    have hE3 := at3 hE
    simp only [encEn] at hE3
    have hC := hg1.keep (h.length + 2) (.cells 3 [encEn e]) (by simp [encEn]) (by simpa using hne1 _ (by omega))
    have hC3 := at3 hC
    simp only [encEn] at hC3
    have hA := hg1.keep (h.length + 3) (.cells 1 [[.nil]]) (by simp) (by simpa using hne1 _ (by omega))
    have hA3 := at3 hA
    have hbs := hg1.base (h ++ [.cells 3 [encEn e]]) (by simp) ⟨_, by simp; rfl⟩
    simp [-appendOk, -appendK, -List.map_append, hs1f, hE3, hC3]
    refine append_new (lo := h.length + 1) (n := 3) (es := l.map encEn) (ys := [encEn e]) hs1 (by have := hE3.2.1; first | omega | (simp; omega)) (by simp [appOk, encEn, hs1f, hE3, hC3]) (by simp; omega) ?_
    intro s2 H2 hs2 hg2 hn2
    have hs2f := hs2.rs.fix
    have hR : Rs 3 H2 s2 ((l ++ [e]).map encEn) := by simpa using hs2.rs
    have hbs2 := hg2.base (h ++ [.cells 3 [encEn e]]) (by simp) hbs
    have bq := fun (g : AHeap) => law32_buildR (gl := gl) (h := H2 ++ g) (l ++ [e]) s2 (hR.append g)
    have hA2 := hg2.keep (h.length + 3) (.cells 1 [[.nil]]) hA fun off len q => by have := hn1 _ _ _ q; simp at this <;> omega
    have hA23 := at3 hA2
    simp [-appendOk, -appendK, -List.map_append, hs2f, hA23, hs1f, hE3, hC3]
    refine callS.pure _ (fun _ => by simpa using bq []) ?_
    simp [-List.map_append, hs2f, hA23, hs1f, hE3, hC3]
    exact key _ _ (by simp) (by simp) (by simp) (by simp) (onceG (base_set hbs2 (by simp <;> omega) _))
  · simp [-appendOk, -appendK, permOps, permOp, lastAct, isAct, actB, r13]
    refine append_new (lo := h.length + 1) (n := 3) (es := []) (ys := l.map encEn) (Ls.own (by simp) (by omega) rfl (by simp)) (by simp) (appOk_rs (Rs.ro (en_n l)) (by simp) (by simp) (by simp)) (by simp; omega) ?_
    intro s1 H1 hs1 hg1 hn1
    have hs1f := hs1.rs.fix
    have hne1 : ∀ b, b ≠ (h.length + 1) → ∀ off len, AV.own (h.length + 1) 0 0 ≠ .own b off len := fun b hb off len q => by injection q; omega
    have hE := hg1.keep h.length (.cells 3 [encEn e]) (by simp) (by simpa using hne1 _ (by omega))
    have hE3 := at3 hE
    simp only [encEn] at hE3
    have hA := hg1.keep (h.length + 2) (.cells 1 [[.nil]]) (by simp) (by simpa using hne1 _ (by omega))
    have hA3 := at3 hA
    have hbs := hg1.base (h ++ [.cells 3 [encEn e]]) (by simp) ⟨_, by simp; rfl⟩
    have hE30 := at3 (at_more hE [.cells 3 [[.str e.key, .int .i64 e.time, .ro (e.posts.map encPo)]]])
    simp only [encEn] at hE30
    simp [-appendOk, -appendK, -List.map_append, hs1f, hE3, hE30]
    refine append_new (lo := h.length + 1) (n := 3) (es := l.map encEn) (ys := [encEn e]) (by simpa using hs1.more [.cells 3 [[.str e.key, .int .i64 e.time, .ro (e.posts.map encPo)]]]) (by have := hE3.2.1; first | omega | (simp; omega)) (by simp [appOk, encEn, hs1f, hE3, hE30]) (by simp; omega) ?_
    intro s2 H2 hs2 hg2 hn2
    have hs2f := hs2.rs.fix
    have hR : Rs 3 H2 s2 ((l ++ [e]).map encEn) := by simpa using hs2.rs
    have hbs2 := hg2.base (h ++ [.cells 3 [encEn e]]) (by simp) (base_more hbs _)
    have bq := fun (g : AHeap) => law32_buildR (gl := gl) (h := H2 ++ g) (l ++ [e]) s2 (hR.append g)
    have hA2 := hg2.keep (h.length + 2) (.cells 1 [[.nil]]) (at_more hA [.cells 3 [[.str e.key, .int .i64 e.time, .ro (e.posts.map encPo)]]]) fun off len q => by have := hn1 _ _ _ q; simp at this <;> omega
    have hA23 := at3 hA2
    simp [-appendOk, -appendK, -List.map_append, hs2f, hA23, hs1f, hE3, hE30]
    refine callS.pure _ (fun _ => by simpa using bq []) ?_
    simp [-List.map_append, hs2f, hA23, hs1f, hE3, hE30]
    exact key _ _ (by simp) (by simp) (by simp) (by simp) (onceG (base_set hbs2 (by simp <;> omega) _))
  · simp [-appendOk, -appendK, permOps, permOp, lastAct, isAct, actB, r13]
    refine append_new (lo := h.length + 1) (n := 3) (es := []) (ys := l.map encEn) (Ls.own (by simp) (by omega) rfl (by simp)) (by simp) (appOk_rs (Rs.ro (en_n l)) (by simp) (by simp) (by simp)) (by simp; omega) ?_
    intro s1 H1 hs1 hg1 hn1
    have hs1f := hs1.rs.fix
    have hne1 : ∀ b, b ≠ (h.length + 1) → ∀ off len, AV.own (h.length + 1) 0 0 ≠ .own b off len := fun b hb off len q => by injection q; omega
    have hE := hg1.keep h.length (.cells 3 [encEn e]) (by simp) (by simpa using hne1 _ (by omega))
    have hE3 := at3 hE
    simp only [encEn] at hE3
    have hC := hg1.keep (h.length + 3) (.cells 3 [encEn e]) (by simp [encEn]) (by simpa using hne1 _ (by omega))
    have hC3 := at3 hC
    simp only [encEn] at hC3
    have hA := hg1.keep (h.length + 2) (.cells 1 [[.nil]]) (by simp) (by simpa using hne1 _ (by omega))
    have hA3 := at3 hA
    have hbs := hg1.base (h ++ [.cells 3 [encEn e]]) (by simp) ⟨_, by simp; rfl⟩
    simp [-appendOk, -appendK, -List.map_append, hs1f, hE3, hC3]
    refine append_new (lo := h.length + 1) (n := 3) (es := l.map encEn) (ys := [encEn e]) hs1 (by have := hE3.2.1; first | omega | (simp; omega)) (by simp [appOk, encEn, hs1f, hE3, hC3]) (by simp; omega) ?_
    intro s2 H2 hs2 hg2 hn2
    have hs2f := hs2.rs.fix
    have hR : Rs 3 H2 s2 ((l ++ [e]).map encEn) := by simpa using hs2.rs
    have hbs2 := hg2.base (h ++ [.cells 3 [encEn e]]) (by simp) hbs
    have bq := fun (g : AHeap) => law32_buildR (gl := gl) (h := H2 ++ g) (l ++ [e]) s2 (hR.append g)
    have hA2 := hg2.keep (h.length + 2) (.cells 1 [[.nil]]) hA fun off len q => by have := hn1 _ _ _ q; simp at this <;> omega
    have hA23 := at3 hA2
    simp [-appendOk, -appendK, -List.map_append, hs2f, hA23, hs1f, hE3, hC3]
    refine callS.pure _ (fun _ => by simpa using bq []) ?_
    simp [-List.map_append, hs2f, hA23, hs1f, hE3, hC3]
    exact key _ _ (by simp) (by simp) (by simp) (by simp) (onceG (base_set hbs2 (by simp <;> omega) _))
  · simp [-appendOk, -appendK, permOps, permOp, lastAct, isAct, actB, r13]
    refine append_new (lo := h.length + 1) (n := 3) (es := []) (ys := l.map encEn) (Ls.own (by simp) (by omega) rfl (by simp)) (by simp) (appOk_rs (Rs.ro (en_n l)) (by simp) (by simp) (by simp)) (by simp; omega) ?_
    intro s1 H1 hs1 hg1 hn1
    have hs1f := hs1.rs.fix
    have hne1 : ∀ b, b ≠ (h.length + 2) → ∀ off len, AV.own (h.length + 2) 0 0 ≠ .own b off len := fun b hb off len q => by injection q; omega
    have hE := hg1.keep h.length (.cells 3 [encEn e]) (by simp) (by simpa using hne1 _ (by omega))
    have hE3 := at3 hE
    simp only [encEn] at hE3
    have hC := hg1.keep (h.length + 1) (.cells 3 [encEn e]) (by simp [encEn]) (by simpa using hne1 _ (by omega))
    have hC3 := at3 hC
    simp only [encEn] at hC3
    have hbs := hg1.base (h ++ [.cells 3 [encEn e]]) (by simp) ⟨_, by simp; rfl⟩
    simp [-appendOk, -appendK, -List.map_append, hs1f, hE3, hC3]
    refine append_new (lo := h.length + 1) (n := 3) (es := l.map encEn) (ys := [encEn e]) hs1 (by have := hE3.2.1; first | omega | (simp; omega)) (by simp [appOk, encEn, hs1f, hE3, hC3]) (by simp; omega) ?_
    intro s2 H2 hs2 hg2 hn2
    have hs2f := hs2.rs.fix
    have hR : Rs 3 H2 s2 ((l ++ [e]).map encEn) := by simpa using hs2.rs
    have hbs2 := hg2.base (h ++ [.cells 3 [encEn e]]) (by simp) hbs
    have bq := fun (g : AHeap) => law32_buildR (gl := gl) (h := H2 ++ g) (l ++ [e]) s2 (hR.append g)
    simp [-appendOk, -appendK, -List.map_append, hs2f]
    refine callS.pure _ (fun _ => by simpa using bq []) ?_
    simp [-List.map_append, hs2f]
    refine ⟨callS.pure _ (fun _ => bq _) ?_, ?_⟩
    · simp
    · exact key _ _ (by simp) (by simp) (by simp) (by simp) (onceG (base_more hbs2 _))
  · simp [-appendOk, -appendK, permOps, permOp, lastAct, isAct, actB, r13]
    refine append_new (lo := h.length + 1) (n := 3) (es := []) (ys := l.map encEn) (Ls.own (by simp) (by omega) rfl (by simp)) (by simp) (appOk_rs (Rs.ro (en_n l)) (by simp) (by simp) (by simp)) (by simp; omega) ?_
    intro s1 H1 hs1 hg1 hn1
    have hs1f := hs1.rs.fix
    have hne1 : ∀ b, b ≠ (h.length + 2) → ∀ off len, AV.own (h.length + 2) 0 0 ≠ .own b off len := fun b hb off len q => by injection q; omega
    have hE := hg1.keep h.length (.cells 3 [encEn e]) (by simp) (by simpa using hne1 _ (by omega))
    have hE3 := at3 hE
    simp only [encEn] at hE3
    have hC := hg1.keep (h.length + 1) (.cells 3 [encEn e]) (by simp [encEn]) (by simpa using hne1 _ (by omega))
    have hC3 := at3 hC
    simp only [encEn] at hC3
    have hbs := hg1.base (h ++ [.cells 3 [encEn e]]) (by simp) ⟨_, by simp; rfl⟩
    have hE30 := at3 (at_more hE [.cells 1 [[.nil]]])
    simp only [encEn] at hE30
    have hC30 := at3 (at_more hC [.cells 1 [[.nil]]])
    simp only [encEn] at hC30
    simp [-appendOk, -appendK, -List.map_append, hs1f, hE3, hC3, hE30, hC30]
    refine append_new (lo := h.length + 1) (n := 3) (es := l.map encEn) (ys := [encEn e]) (by simpa using hs1.more [.cells 1 [[.nil]]]) (by have := hE3.2.1; first | omega | (simp; omega)) (by simp [appOk, encEn, hs1f, hE3, hC3, hE30, hC30]) (by simp; omega) ?_
    intro s2 H2 hs2 hg2 hn2
    have hs2f := hs2.rs.fix
    have hR : Rs 3 H2 s2 ((l ++ [e]).map encEn) := by simpa using hs2.rs
    have hbs2 := hg2.base (h ++ [.cells 3 [encEn e]]) (by simp) (base_more hbs _)
    have bq := fun (g : AHeap) => law32_buildR (gl := gl) (h := H2 ++ g) (l ++ [e]) s2 (hR.append g)
    have hA2 := hg2.keep H1.length (.cells 1 [[.nil]]) (by simp) fun off len q => by have := lsLt hs1 q; omega
    have hA23 := at3 hA2
    simp [-appendOk, -appendK, -List.map_append, hs2f, hA23, hs1f, hE3, hC3, hE30, hC30]
    refine callS.pure _ (fun _ => by simpa using bq []) ?_
    simp [-List.map_append, hs2f, hA23, hs1f, hE3, hC3, hE30, hC30]
    exact key _ _ (by simp) (by simp) (by simp) (by simp) (onceG (base_set hbs2 (by simp <;> omega) _))
  · simp [-appendOk, -appendK, permOps, permOp, lastAct, isAct, actB, r13]
    refine append_new (lo := h.length + 1) (n := 3) (es := []) (ys := l.map encEn) (Ls.own (by simp) (by omega) rfl (by simp)) (by simp) (appOk_rs (Rs.ro (en_n l)) (by simp) (by simp) (by simp)) (by simp; omega) ?_
    intro s1 H1 hs1 hg1 hn1
    have hs1f := hs1.rs.fix
    have hne1 : ∀ b, b ≠ (h.length + 2) → ∀ off len, AV.own (h.length + 2) 0 0 ≠ .own b off len := fun b hb off len q => by injection q; omega
    have hE := hg1.keep h.length (.cells 3 [encEn e]) (by simp) (by simpa using hne1 _ (by omega))
    have hE3 := at3 hE
    simp only [encEn] at hE3
    have hC := hg1.keep (h.length + 1) (.cells 3 [encEn e]) (by simp [encEn]) (by simpa using hne1 _ (by omega))
    have hC3 := at3 hC
    simp only [encEn] at hC3
    have hA := hg1.keep (h.length + 3) (.cells 1 [[.nil]]) (by simp) (by simpa using hne1 _ (by omega))
    have hA3 := at3 hA
    have hbs := hg1.base (h ++ [.cells 3 [encEn e]]) (by simp) ⟨_, by simp; rfl⟩
    simp [-appendOk, -appendK, -List.map_append, hs1f, hE3, hC3]
    refine append_new (lo := h.length + 1) (n := 3) (es := l.map encEn) (ys := [encEn e]) hs1 (by have := hE3.2.1; first | omega | (simp; omega)) (by simp [appOk, encEn, hs1f, hE3, hC3]) (by simp; omega) ?_
    intro s2 H2 hs2 hg2 hn2
    have hs2f := hs2.rs.fix
    have hR : Rs 3 H2 s2 ((l ++ [e]).map encEn) := by simpa using hs2.rs
    have hbs2 := hg2.base (h ++ [.cells 3 [encEn e]]) (by simp) hbs
    have bq := fun (g : AHeap) => law32_buildR (gl := gl) (h := H2 ++ g) (l ++ [e]) s2 (hR.append g)
    have hA2 := hg2.keep (h.length + 3) (.cells 1 [[.nil]]) hA fun off len q => by have := hn1 _ _ _ q; simp at this <;> omega
    have hA23 := at3 hA2
    simp [-appendOk, -appendK, -List.map_append, hs2f, hA23, hs1f, hE3, hC3]
    refine callS.pure _ (fun _ => by simpa using bq []) ?_
    simp [-List.map_append, hs2f, hA23, hs1f, hE3, hC3]
    exact key _ _ (by simp) (by simp) (by simp) (by simp) (onceG (base_set hbs2 (by simp <;> omega) _))
  · simp [-appendOk, -appendK, permOps, permOp, lastAct, isAct, actB, r13]
    refine append_new (lo := h.length + 1) (n := 3) (es := []) (ys := l.map encEn) (Ls.own (by simp) (by omega) rfl (by simp)) (by simp) (appOk_rs (Rs.ro (en_n l)) (by simp) (by simp) (by simp)) (by simp; omega) ?_
    intro s1 H1 hs1 hg1 hn1
    have hs1f := hs1.rs.fix
    have hne1 : ∀ b, b ≠ (h.length + 3) → ∀ off len, AV.own (h.length + 3) 0 0 ≠ .own b off len := fun b hb off len q => by injection q; omega
    have hE := hg1.keep h.length (.cells 3 [encEn e]) (by simp) (by simpa using hne1 _ (by omega))
    have hE3 := at3 hE
    simp only [encEn] at hE3
    have hC := hg1.keep (h.length + 1) (.cells 3 [encEn e]) (by simp [encEn]) (by simpa using hne1 _ (by omega))
    have hC3 := at3 hC
    simp only [encEn] at hC3
    have hA := hg1.keep (h.length + 2) (.cells 1 [[.nil]]) (by simp) (by simpa using hne1 _ (by omega))
    have hA3 := at3 hA
    have hbs := hg1.base (h ++ [.cells 3 [encEn e]]) (by simp) ⟨_, by simp; rfl⟩
    simp [-appendOk, -appendK, -List.map_append, hs1f, hE3, hC3]
    refine append_new (lo := h.length + 1) (n := 3) (es := l.map encEn) (ys := [encEn e]) hs1 (by have := hE3.2.1; first | omega | (simp; omega)) (by simp [appOk, encEn, hs1f, hE3, hC3]) (by simp; omega) ?_
    intro s2 H2 hs2 hg2 hn2
    have hs2f := hs2.rs.fix
    have hR : Rs 3 H2 s2 ((l ++ [e]).map encEn) := by simpa using hs2.rs
    have hbs2 := hg2.base (h ++ [.cells 3 [encEn e]]) (by simp) hbs
    have bq := fun (g : AHeap) => law32_buildR (gl := gl) (h := H2 ++ g) (l ++ [e]) s2 (hR.append g)
    have hA2 := hg2.keep (h.length + 2) (.cells 1 [[.nil]]) hA fun off len q => by have := hn1 _ _ _ q; simp at this <;> omega
    have hA23 := at3 hA2
    simp [-appendOk, -appendK, -List.map_append, hs2f, hA23, hs1f, hE3, hC3]
    refine callS.pure _ (fun _ => by simpa using bq []) ?_
    simp [-List.map_append, hs2f, hA23, hs1f, hE3, hC3]
    exact key _ _ (by simp) (by simp) (by simp) (by simp) (onceG (base_set hbs2 (by simp <;> omega) _))
  · simp [-appendOk, -appendK, permOps, permOp, lastAct, isAct, actB, r13]
    refine append_new (lo := h.length + 1) (n := 3) (es := []) (ys := l.map encEn) (Ls.own (by simp) (by omega) rfl (by simp)) (by simp) (appOk_rs (Rs.ro (en_n l)) (by simp) (by simp) (by simp)) (by simp; omega) ?_
    intro s1 H1 hs1 hg1 hn1
    have hs1f := hs1.rs.fix
    have hne1 : ∀ b, b ≠ (h.length + 2) → ∀ off len, AV.own (h.length + 2) 0 0 ≠ .own b off len := fun b hb off len q => by injection q; omega
    have hE := hg1.keep h.length (.cells 3 [encEn e]) (by simp) (by simpa using hne1 _ (by omega))
    have hE3 := at3 hE
    simp only [encEn] at hE3
    have hA := hg1.keep (h.length + 1) (.cells 1 [[.nil]]) (by simp) (by simpa using hne1 _ (by omega))
    have hA3 := at3 hA
    have hbs := hg1.base (h ++ [.cells 3 [encEn e]]) (by simp) ⟨_, by simp; rfl⟩
    have hE30 := at3 (at_more hE [.cells 3 [[.str e.key, .int .i64 e.time, .ro (e.posts.map encPo)]]])
    simp only [encEn] at hE30
    simp [-appendOk, -appendK, -List.map_append, hs1f, hE3, hE30]
    refine append_new (lo := h.length + 1) (n := 3) (es := l.map encEn) (ys := [encEn e]) (by simpa using hs1.more [.cells 3 [[.str e.key, .int .i64 e.time, .ro (e.posts.map encPo)]]]) (by have := hE3.2.1; first | omega | (simp; omega)) (by simp [appOk, encEn, hs1f, hE3, hE30]) (by simp; omega) ?_
    intro s2 H2 hs2 hg2 hn2
    have hs2f := hs2.rs.fix
    have hR : Rs 3 H2 s2 ((l ++ [e]).map encEn) := by simpa using hs2.rs
    have hbs2 := hg2.base (h ++ [.cells 3 [encEn e]]) (by simp) (base_more hbs _)
    have bq := fun (g : AHeap) => law32_buildR (gl := gl) (h := H2 ++ g) (l ++ [e]) s2 (hR.append g)
    have hA2 := hg2.keep (h.length + 1) (.cells 1 [[.nil]]) (at_more hA [.cells 3 [[.str e.key, .int .i64 e.time, .ro (e.posts.map encPo)]]]) fun off len q => by have := hn1 _ _ _ q; simp at this <;> omega
    have hA23 := at3 hA2
    simp [-appendOk, -appendK, -List.map_append, hs2f, hA23, hs1f, hE3, hE30]
    refine callS.pure _ (fun _ => by simpa using bq []) ?_
    simp [-List.map_append, hs2f, hA23, hs1f, hE3, hE30]
    exact key _ _ (by simp) (by simp) (by simp) (by simp) (onceG (base_set hbs2 (by simp <;> omega) _))
  · simp [-appendOk, -appendK, permOps, permOp, lastAct, isAct, actB, r13]
    refine append_new (lo := h.length + 1) (n := 3) (es := []) (ys := l.map encEn) (Ls.own (by simp) (by omega) rfl (by simp)) (by simp) (appOk_rs (Rs.ro (en_n l)) (by simp) (by simp) (by simp)) (by simp; omega) ?_
    intro s1 H1 hs1 hg1 hn1
    have hs1f := hs1.rs.fix
    have hne1 : ∀ b, b ≠ (h.length + 2) → ∀ off len, AV.own (h.length + 2) 0 0 ≠ .own b off len := fun b hb off len q => by injection q; omega
    have hE := hg1.keep h.length (.cells 3 [encEn e]) (by simp) (by simpa using hne1 _ (by omega))
    have hE3 := at3 hE
    simp only [encEn] at hE3
    have hC := hg1.keep (h.length + 3) (.cells 3 [encEn e]) (by simp [encEn]) (by simpa using hne1 _ (by omega))
    have hC3 := at3 hC
    simp only [encEn] at hC3
    have hA := hg1.keep (h.length + 1) (.cells 1 [[.nil]]) (by simp) (by simpa using hne1 _ (by omega))
    have hA3 := at3 hA
    have hbs := hg1.base (h ++ [.cells 3 [encEn e]]) (by simp) ⟨_, by simp; rfl⟩
    simp [-appendOk, -appendK, -List.map_append, hs1f, hE3, hC3]
    refine append_new (lo := h.length + 1) (n := 3) (es := l.map encEn) (ys := [encEn e]) hs1 (by have := hE3.2.1; first | omega | (simp; omega)) (by simp [appOk, encEn, hs1f, hE3, hC3]) (by simp; omega) ?_
    intro s2 H2 hs2 hg2 hn2
    have hs2f := hs2.rs.fix
    have hR : Rs 3 H2 s2 ((l ++ [e]).map encEn) := by simpa using hs2.rs
    have hbs2 := hg2.base (h ++ [.cells 3 [encEn e]]) (by simp) hbs
    have bq := fun (g : AHeap) => law32_buildR (gl := gl) (h := H2 ++ g) (l ++ [e]) s2 (hR.append g)
    have hA2 := hg2.keep (h.length + 1) (.cells 1 [[.nil]]) hA fun off len q => by have := hn1 _ _ _ q; simp at this <;> omega
    have hA23 := at3 hA2
    simp [-appendOk, -appendK, -List.map_append, hs2f, hA23, hs1f, hE3, hC3]
    refine callS.pure _ (fun _ => by simpa using bq []) ?_
    simp [-List.map_append, hs2f, hA23, hs1f, hE3, hC3]
    exact key _ _ (by simp) (by simp) (by simp) (by simp) (onceG (base_set hbs2 (by simp <;> omega) _))
  · simp [-appendOk, -appendK, permOps, permOp, lastAct, isAct, actB, r13]
    refine append_new (lo := h.length + 1) (n := 3) (es := []) (ys := l.map encEn) (Ls.own (by simp) (by omega) rfl (by simp)) (by simp) (appOk_rs (Rs.ro (en_n l)) (by simp) (by simp) (by simp)) (by simp; omega) ?_
    intro s1 H1 hs1 hg1 hn1
    have hs1f := hs1.rs.fix
    have hne1 : ∀ b, b ≠ (h.length + 3) → ∀ off len, AV.own (h.length + 3) 0 0 ≠ .own b off len := fun b hb off len q => by injection q; omega
    have hE := hg1.keep h.length (.cells 3 [encEn e]) (by simp) (by simpa using hne1 _ (by omega))
    have hE3 := at3 hE
    simp only [encEn] at hE3
    have hC := hg1.keep (h.length + 2) (.cells 3 [encEn e]) (by simp [encEn]) (by simpa using hne1 _ (by omega))
    have hC3 := at3 hC
    simp only [encEn] at hC3
    have hA := hg1.keep (h.length + 1) (.cells 1 [[.nil]]) (by simp) (by simpa using hne1 _ (by omega))
    have hA3 := at3 hA
    have hbs := hg1.base (h ++ [.cells 3 [encEn e]]) (by simp) ⟨_, by simp; rfl⟩
    simp [-appendOk, -appendK, -List.map_append, hs1f, hE3, hC3]
    refine append_new (lo := h.length + 1) (n := 3) (es := l.map encEn) (ys := [encEn e]) hs1 (by have := hE3.2.1; first | omega | (simp; omega)) (by simp [appOk, encEn, hs1f, hE3, hC3]) (by simp; omega) ?_
    intro s2 H2 hs2 hg2 hn2
    have hs2f := hs2.rs.fix
    have hR : Rs 3 H2 s2 ((l ++ [e]).map encEn) := by simpa using hs2.rs
    have hbs2 := hg2.base (h ++ [.cells 3 [encEn e]]) (by simp) hbs
    have bq := fun (g : AHeap) => law32_buildR (gl := gl) (h := H2 ++ g) (l ++ [e]) s2 (hR.append g)
    have hA2 := hg2.keep (h.length + 1) (.cells 1 [[.nil]]) hA fun off len q => by have := hn1 _ _ _ q; simp at this <;> omega
    have hA23 := at3 hA2
    simp [-appendOk, -appendK, -List.map_append, hs2f, hA23, hs1f, hE3, hC3]
    refine callS.pure _ (fun _ => by simpa using bq []) ?_
    simp [-List.map_append, hs2f, hA23, hs1f, hE3, hC3]
    exact key _ _ (by simp) (by simp) (by simp) (by simp) (onceG (base_set hbs2 (by simp <;> omega) _))
end Go.Proofs.Ytmdenljmfeejfaa
