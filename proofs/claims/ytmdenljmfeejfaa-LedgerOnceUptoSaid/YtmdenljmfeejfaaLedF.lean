/-
  Contracts: a ledger with one more entry.
-/
import Derived.Test.YtmdenljmfeejfaaLedA
import Derived.Test.YtmdenljmfeejfaaLedC
import Derived.Test.YtmdenljmfeejfaaLedD
import Derived.Test.YtmdenljmfeejfaaLedE
set_option linter.unusedVariables false
set_option linter.unusedSimpArgs false
set_option maxRecDepth 100000
namespace Go.Proofs.Ytmdenljmfeejfaa
open Go Go.Abs Go.Toll
variable {gl : Globs} {h : AHeap}

def lxP : Nat → Option (Nat × List (Nat × Nat)) := fun i => if i = 17 then some (8, [(1, 5)]) else if i = 19 then some (8, [(1, 5)]) else none
theorem encPost (l : List TEn) (k : Int) : (AV.tup [.agg (encLg l), .int .i64 k]).Data := by
  refine .tup _ fun x hx => ?_
  simp only [List.mem_cons, List.not_mem_nil, or_false] at hx
  rcases hx with rfl | rfl
  · refine .agg _ fun y hy => ?_
    simp only [encLg_eq, List.mem_cons, List.not_mem_nil, or_false] at hy
    subst hy
    exact .ro _ (encEns_data _)
  · simp
theorem seen_lt {α : Type} {m : List α} {C : α → Prop} {seen : List Nat} (hn : seen.Nodup) (hf : ∀ j ∈ seen, ∃ q, m[j]? = some q ∧ C q) : seen.length ≤ m.length := by
  have : seen ⊆ List.range m.length := fun j hj => by
    obtain ⟨q, hq, _⟩ := hf j hj
    exact List.mem_range.2 (List.getElem?_eq_some_iff.1 hq).1
  simpa using hn.length_le_of_subset this
set_option maxHeartbeats 2000000 in
theorem ledger_Post (l : List TEn) (e : TEn) (hk : okL (l ++ [⟨e.key, e.time, []⟩])) (hs : e.okS) (he40 : e.posts.length ≤ 40) : ACalls Try.prog gl 15 [.agg (encLg l), .agg (encEn e)] h fun v h' => v = .tup [.agg (encLg (postR l e).1), .int .i64 (postR l e).2] ∧ h' = h := by
  have hkl : okL l := ⟨by have := hk.1; simp at this; omega, fun x hx => hk.2 x (by simp [hx])⟩
  have hll : l.length ≤ 49 := by have := hk.1; simp at this; omega
  refine ACalls.fresh (ACalls.bodyM lxP Try.f15 _ mixed Try.func15 rfl rfl (by simp [Try.ntmps15]) ?_)
  simp [lxP]
  refine callS.pure _ (fun _ => ledger_Check e hs) ?_
  simp
  refine ⟨fun q => ?_, fun q1 => ?_⟩
  · have : postR l e = (l, enErr e) := by rw [postR, if_pos q]
    rw [this]
    exact .data _ (encPost _ _)
  refine callS.pure _ (fun _ => ledger_Find l e.key (by omega) (fun x hx => by have := (hkl.2 x hx).1; omega)) ?_
  simp
  refine ⟨fun q2 => ?_, fun q2 => ?_⟩
  · have : postR l e = (l, 9) := by rw [postR, if_neg (by simpa using q1), if_pos q2]
    rw [this]
    exact .data _ (encPost _ _)
  refine callS.any (ledger_balances _ l (Rs.ro (encEn_n l)) hkl) ?_
  rintro v h1 ⟨hv, g1, hh⟩
  subst hv
  simp [hh]
  have hk1 : okL [e] := ⟨by simp, fun x hx => by obtain rfl := List.mem_singleton.1 hx; exact ⟨he40, enErr_fits (by simpa using q1)⟩⟩
  refine callS.any (ledger_balances _ [e] (Rs.own (es := [e].map encEn) (by simp) (encEn_n [e])) hk1) ?_
  rintro v h2 ⟨hv, g2, hh2⟩
  subst hv
  simp [hh2]
  obtain ⟨c4, hc4⟩ : ∃ c4 : AObj, c4 = .cells 3 [encEn ((findE e.key l).getD en0)] := ⟨_, rfl⟩
  obtain ⟨it, hit⟩ : ∃ it, it = h.length + (g1.length + (g2.length + 1 + 1) + 1 + 1 + 1 + 1 + 1) := ⟨_, rfl⟩
  obtain ⟨b2, hb2⟩ : ∃ b2, b2 = h.length + (g1.length + 1 + 1 + 1 + 1 + 1 + 1) := ⟨_, rfl⟩
  refine AWP.upM lxP mixed (balM e.posts).length (fun i fr h' => fr 2 = .ptr h.length 0 0 ∧ fr 3 = .ptr (h.length + 1) 0 0 ∧ fr 4 = .ptr (h.length + 2) 0 0 ∧ fr 9 = .map (h.length + 4) ∧ fr 36 = .obj it ∧
      ∃ g seen, h' = h ++ .cells 1 [encLg l] :: .cells 3 [encEn e] :: .cells 1 [[.nil]] :: c4 :: .map (sM encZ (balM (allP l))) :: g ∧ h'[it]? = some (.iter b2 (sM encZ (balM e.posts)).length seen) ∧ h'[b2]? = some (.map (sM encZ (balM e.posts))) ∧
        seen.length = i ∧ seen.Nodup ∧ ∀ j ∈ seen, ∃ q, (balM e.posts)[j]? = some q ∧ fitsB (balI l q.1 + q.2) = true) 0 (by omega)
    ⟨by simp, by simp, by simp, by simp, by simp [hit], _, [], by rw [hc4]; rfl, by rw [hit, hb2]; simp, by rw [hb2]; simp, by simp, by simp, by simp⟩ ?_
  have hitl : h.length + 5 ≤ it := by omega
  have hb2l : h.length + 5 ≤ b2 := by omega
  have hib : it ≠ b2 := by omega
  clear hit hb2 hc4 hh hh2
  rintro i fr h' hi ⟨e2, e3, e4, e9, e36, g, seen, hH, hI, hB, hsl, hsn, hsf⟩
  have hI' := (List.getElem?_eq_some_iff.1 hI).2
  have hIl := (List.getElem?_eq_some_iff.1 hI).1
  have hB' := (List.getElem?_eq_some_iff.1 hB).2
  have hBl := (List.getElem?_eq_some_iff.1 hB).1
  simp [-mapNextP, lxP, e2, e3, e4, e9, e36, hI, hB, hI', hB', hIl, hBl]
  unfold mapNextP
  refine ⟨b2, seen, sM encZ (balM e.posts), hI, hB, fun k p hp hk => ?_, fun hall => ?_⟩
  · obtain ⟨q, hq, rfl⟩ : ∃ q, (balM e.posts)[k]? = some q ∧ p = (.str q.1, encZ q.2) := by
      rw [sM, List.getElem?_map] at hp
      obtain ⟨q, hq, e⟩ := Option.map_eq_some_iff.1 hp
      exact ⟨q, hq, e.symm⟩
    have hM1 : h'[h.length + 4]? = some (.map (sM encZ (balM (allP l)))) := by rw [hH]; simp
    have hM1' := (List.getElem?_eq_some_iff.1 hM1).2
    have hM1l := (List.getElem?_eq_some_iff.1 hM1).1
    have hni : ¬ it = h.length + 4 := by omega
    have hni' : ¬ h.length + 4 = it := by omega
    have hlk : ((getS (balM (allP l)) q.1).map encZ).getD (.int .i64 0) = .int .i64 (balI l q.1) := by
      rw [balI, ← balM_get]; cases getS (balM (allP l)) q.1 <;> rfl
    have hko := keysOk_sM (m := balM (allP l)) q.1
    simp [-keysOk, -getP, e2, e3, e4, e9, e36, hni, hni', hM1, hM1', hM1l, alook_sM, hlk, hko]
    unfold getP
    refine ⟨b2, seen, k, sM encZ (balM e.posts), (.str q.1, encZ q.2), by rw [List.getElem?_set_self hIl], by rw [List.getElem?_set_ne hib]; exact hB, by simp [sM, hq], ?_⟩
    obtain ⟨hr1, hr2⟩ := okL_posts hkl
    have hq2 : q.2 = poI q.1 e.posts := by rw [← balM_get, getS_of_mem (balM_nodup _) (List.mem_of_getElem? hq)]; rfl
    have hf1 := poI_range q.1 (allP l) hr2
    have hf2 := poI_range q.1 e.posts (enErr_fits (by simpa using q1))
    have hw : IntKind.i64.wrap (balI l q.1 + q.2) = balI l q.1 + q.2 := by
      have : balI l q.1 = poI q.1 (allP l) := rfl
      have c1 : ((allP l).length : Int) ≤ 2000 := by omega
      have c2 : (e.posts.length : Int) ≤ 40 := by omega
      rw [hq2, this]
      exact wrap64_of (by omega) (by omega)
    obtain ⟨d, rfl⟩ : ∃ d, it = h.length + (d + 5) := ⟨it - h.length - 5, by omega⟩
    have hset : ∀ o, h'.set (h.length + (d + 5)) o = h ++ .cells 1 [encLg l] :: .cells 3 [encEn e] :: .cells 1 [[.nil]] :: c4 :: .map (sM encZ (balM (allP l))) :: g.set d o := by
      intro o
      rw [hH, List.set_append, if_neg (by omega)]
      simp
    rw [hset]
    simp [-keysOk, -getP, e2, e3, e4, e9, e36, alook_sM, hlk, hko, hw]
    refine callS.pure _ (fun _ => money_Fits _) ?_
    simp [-keysOk, -getP, e2, e3, e4, e9, e36]
    refine ⟨fun q3 => ?_, fun q3 => ?_⟩
    · have hov : e.posts.any (fun p => !fitsB (balI (l ++ [e]) p.account)) = true := by
        rw [over_eq, List.any_eq_true]
        exact ⟨q, List.mem_of_getElem? hq, by simp [q3]⟩
      have : postR l e = (l, 13) := by rw [postR, if_neg (by simpa using q1), if_neg (by simp [q2]), if_pos hov]
      rw [this]
      exact .data _ (encPost _ _)
    · have hls := seen_lt hsn hsf
      have hsn2 : (seen ++ [k]).Nodup := List.nodup_append.2 ⟨hsn, by simp, fun a ha b hb => by rw [List.mem_singleton.1 hb]; rintro rfl; exact hk ha⟩
      have hsf2 : ∀ j ∈ seen ++ [k], ∃ q, (balM e.posts)[j]? = some q ∧ fitsB (balI l q.1 + q.2) = true := fun j hj => by
        rcases List.mem_append.1 hj with hj | hj
        · exact hsf j hj
        · rw [List.mem_singleton.1 hj]; exact ⟨q, hq, q3⟩
      have hlt2 := seen_lt hsn2 hsf2
      rw [List.length_append, List.length_singleton] at hlt2
      have hdl : d < g.length := by rw [hH] at hIl; simp at hIl; omega
      have hBn := hB
      rw [← List.getElem?_set_ne (l := h') hib, hset] at hBn
      exact ⟨i + 1, by omega, by omega, seen ++ [k], by simp [hdl], by simpa using hBn, by simp; omega, hsn2, fun j hj => by obtain ⟨q, h1, h2⟩ := hsf2 j hj; exact ⟨q.1, q.2, h1, h2⟩⟩
  · have hov : ¬ e.posts.any (fun p => !fitsB (balI (l ++ [e]) p.account)) = true := by
      rw [over_eq, List.any_eq_true]
      rintro ⟨q, hq, q3⟩
      obtain ⟨k, hk⟩ := List.getElem?_of_mem hq
      obtain ⟨q', hq', q4⟩ := hsf k (hall k (by rw [sM_len]; exact (List.getElem?_eq_some_iff.1 hk).1))
      rw [hk] at hq'
      obtain rfl := Option.some.inj hq'
      rw [q4] at q3
      cases q3
    have hpr : postR l e = (l ++ [e], 0) := by rw [postR, if_neg (by simpa using q1), if_neg (by simp [q2]), if_neg hov]
    rw [hpr]
    obtain ⟨G, hG⟩ : ∃ G, G = c4 :: .map (sM encZ (balM (allP l))) :: g := ⟨_, rfl⟩
    rw [← hG] at hH
    clear hI hB hI' hIl hB' hBl hall hsf hsn hsl hG
    subst hH
    simp [lxP, e2, e3, e4, e9, e36]
    refine AWP.upM lxP mixed l.length (fun i fr h' => fr 2 = .ptr h.length 0 0 ∧ fr 3 = .ptr (h.length + 1) 0 0 ∧ fr 4 = .ptr (h.length + 2) 0 0 ∧ fr 12 = .ptr (h.length + (G.length + 3)) 0 0 ∧ fr 51 = .ro (l.map encEn) ∧ fr 52 = .int .i64 l.length ∧ fr 53 = .int .i64 i ∧
        ∃ x g2, h' = h ++ .cells 1 [encLg l] :: .cells 3 [encEn e] :: .cells 1 [[.nil]] :: (G ++ .cells 1 [[x]] :: g2) ∧ Ls 3 (h.length + (G.length + 4)) h' x ((l.take i).map encEn)) 0 (by omega)
      ⟨by simp [e2], by simp [e3], by simp [e4], by simp, by simp, by simp, by simp, .nil, [], by simp, by simp; exact Ls.nil⟩ ?_
    clear e2 e3 e4 e9 e36
    rintro i fr h' hi ⟨e2, e3, e4, e12, e51, e52, e53, x, g2, rfl, hL⟩
    have hxf := hL.rs.fix
    rcases Nat.lt_or_ge i l.length with hlt | hge
    · obtain ⟨y, hy, hy'⟩ := get_lt hlt
      have ew := wrap_succ' (i := i) (by omega)
      simp [-appendOk, -appendK, lxP, preOps, e2, e3, e4, e12, e51, e52, e53, hlt, hy, hy', ew]
      refine ⟨⟨by decide, by decide⟩, ?_⟩
      refine callS.pure _ (fun _ => ledger_clone y (by have := (hkl.2 y (List.mem_of_getElem? hy)).1; omega)) ?_
      simp [-appendOk, -appendK, hxf, preOps, e2, e3, e4, e12, e51, e52, e53]
      refine append_ls (lo := h.length + (G.length + 4)) (n := 3) (es := (l.take i).map encEn) (ys := [encEn y]) (by simpa using hL.more [.cells 3 [encEn y], .cells 3 [encEn y]]) (by simp) (by simp [appOk]) (by simp; omega) ?_
      intro s1 h1 hs1 hg1
      have f1 := hs1.rs.fix
      obtain ⟨g3, rfl⟩ := hg1.base (h ++ .cells 1 [encLg l] :: .cells 3 [encEn e] :: .cells 1 [[.nil]] :: (G ++ [.cells 1 [[x]]])) (by simp) ⟨_, by simp; rfl⟩
      have hs2 := hs1.base (h₁ := h ++ .cells 1 [encLg l] :: .cells 3 [encEn e] :: .cells 1 [[.nil]] :: (G ++ [.cells 1 [[s1]]])) (by simp) (by simp) []
      simp [-acells, -AV.solid, -appendOk, -appendK, f1, hxf, preOps, e2, e3, e4, e12, e51, e52, e53]
      simp [ew]
      refine ⟨i + 1, by omega, by omega, by omega, ?_⟩
      have hti : (l.map encEn).take (i + 1) = (l.map encEn).take i ++ [encEn y] := by
        rw [List.take_add_one, List.getElem?_map, hy]; rfl
      rw [hti]
      simpa using hs2
    · simp [-appendOk, -appendK, lxP, preOps, e2, e3, e4, e12, e51, e52, e53, Nat.not_lt.2 hge]
      have hLl : (l.take i).map encEn = l.map encEn := by rw [List.take_of_length_le hge]
      refine ⟨⟨by decide, by decide⟩, ?_⟩
      refine callS.pure _ (fun _ => ledger_clone e (by omega)) ?_
      simp [-appendOk, -appendK, hxf, preOps, e2, e3, e4, e12, e51, e52, e53]
      refine append_ls (lo := h.length + (G.length + 4)) (n := 3) (es := l.map encEn) (ys := [encEn e]) (by have := hL.more [.cells 3 [encEn e]]; rw [hLl] at this; simpa using this) (by simp) (by simp [appOk]) (by simp; omega) ?_
      intro s1 h1 hs1 hg1
      have f1 := hs1.rs.fix
      obtain ⟨g3, rfl⟩ := hg1.base (h ++ .cells 1 [encLg l] :: .cells 3 [encEn e] :: .cells 1 [[.nil]] :: (G ++ [.cells 1 [[x]]])) (by simp) ⟨_, by simp; rfl⟩
      have hs2 := hs1.base (h₁ := h ++ .cells 1 [encLg l] :: .cells 3 [encEn e] :: .cells 1 [[.nil]] :: (G ++ [.cells 1 [[s1]]])) (by simp) (by simp) []
      simp [-acells, -AV.solid, -appendOk, -appendK, f1, hxf, preOps, e2, e3, e4, e12, e51, e52, e53]
      have hs3 := Ls.base (h₀ := h ++ .cells 1 [encLg l] :: .cells 3 [encEn e] :: .cells 1 [[.nil]] :: (G ++ [.cells 1 [[s1]]])) (g := g3) (by simpa using hs2) (by simp) (h₁ := h ++ .cells 1 [encLg l] :: .cells 3 [encEn e] :: .cells 1 [[s1]] :: (G ++ [.cells 1 [[s1]]])) (by simp) []
      have hfz := hs3.frz (m := h.length) (by omega) (by have := encEns_data (l ++ [e]); rw [List.map_append] at this; exact this)
      refine .tup' (.cons (.agg' (.cons ?_ .nil)) (.cons (.data _ (by simp)) .nil))
      simpa using hfz
end Go.Proofs.Ytmdenljmfeejfaa
