/-
  Contracts: a ledger with one more entry, the reference's telling.
-/
import Derived.Test.YtmdenljmfeejfaaLedF
set_option linter.unusedVariables false
set_option linter.unusedSimpArgs false
set_option maxRecDepth 100000
namespace Go.Proofs.Ytmdenljmfeejfaa
open Go Go.Abs Go.Toll
variable {gl : Globs} {h : AHeap}

def lxPR : Nat → Option (Nat × List (Nat × Nat)) := fun i => if i = 11 then some (12, [(1, 9)]) else if i = 12 then some (8, [(1, 5)]) else none
set_option maxHeartbeats 2000000 in
theorem ref32_Post [GOk gl] (l : List TEn) (e : TEn) (hk : okL (l ++ [⟨e.key, e.time, []⟩])) (hs : e.okS) (he40 : e.posts.length ≤ 40) : ACalls Try.prog gl 16 [.agg (encLg l), .agg (encEn e)] h fun v h' => v = .tup [.agg (encLg (postR l e).1), .int .i64 (postR l e).2] ∧ h' = h := by
  have hkl : okL l := ⟨by have := hk.1; simp at this; omega, fun x hx => hk.2 x (by simp [hx])⟩
  have hll : l.length ≤ 49 := by have := hk.1; simp at this; omega
  refine ACalls.fresh (ACalls.bodyM lxPR Try.f16 _ mixed Try.func16 rfl rfl (by simp [Try.ntmps16]) ?_)
  simp [lxPR]
  refine callS.pure _ (fun _ => ref32_Check e hs) ?_
  simp
  refine ⟨fun q => ?_, fun q1 => ?_⟩
  · have : postR l e = (l, enErr e) := by rw [postR, if_pos q]
    rw [this]
    exact .data _ (encPost _ _)
  refine callS.pure _ (fun _ => ref32_Find l e.key (by omega) (fun x hx => by have := (hkl.2 x hx).1; omega)) ?_
  simp
  refine ⟨fun q2 => ?_, fun q2 => ?_⟩
  · have : postR l e = (l, 9) := by rw [postR, if_neg (by simpa using q1), if_pos q2]
    rw [this]
    exact .data _ (encPost _ _)
  have hke : okL (l ++ [e]) := ⟨by simp; omega, fun x hx => by
    rcases List.mem_append.1 hx with hx | hx
    · exact hkl.2 x hx
    · rw [List.mem_singleton.1 hx]; exact ⟨he40, enErr_fits (by simpa using q1)⟩⟩
  obtain ⟨c4, hc4⟩ : ∃ c4 : AObj, c4 = .cells 3 [encEn ((findE e.key l).getD en0)] := ⟨_, rfl⟩
  refine AWP.upM lxPR mixed l.length (fun i fr h' => fr 2 = .ptr h.length 0 0 ∧ fr 3 = .ptr (h.length + 1) 0 0 ∧ fr 4 = .ptr (h.length + 2) 0 0 ∧ fr 9 = .ptr (h.length + 4) 0 0 ∧ fr 10 = .int .i64 i ∧
      ∃ x g, h' = h ++ .cells 1 [encLg l] :: .cells 3 [encEn e] :: .cells 1 [[.nil]] :: c4 :: .cells 1 [[x]] :: g ∧ Ls 3 (h.length + 5) h' x ((l.take i).map encEn)) 0 (by omega)
    ⟨by simp, by simp, by simp, by simp, by simp, .nil, [], by rw [hc4]; simp, by simp; exact Ls.nil⟩ ?_
  clear hc4
  rintro i fr h' hi ⟨e2, e3, e4, e9, e10, x, g, rfl, hL⟩
  have hxf := hL.rs.fix
  rcases Nat.lt_or_ge i l.length with hlt | hge
  · obtain ⟨y, hy, hy'⟩ := get_lt hlt
    have ew := wrap_succ' (i := i) (by omega)
    simp [-appendOk, -appendK, lxPR, preOps, e2, e3, e4, e9, e10, hlt, hy, hy', ew]
    refine ⟨⟨by decide, by decide⟩, ?_⟩
    refine callS.pure _ (fun _ => ref32_Copy y (by have := (hkl.2 y (List.mem_of_getElem? hy)).1; omega)) ?_
    simp [-appendOk, -appendK, hxf, preOps, e2, e3, e4, e9, e10]
    refine append_ls (lo := h.length + 5) (n := 3) (es := (l.take i).map encEn) (ys := [encEn y]) (by simpa using hL.more [.cells 3 [encEn y]]) (by simp) (by simp [appOk]) (by simp; omega) ?_
    intro s1 h1 hs1 hg1
    have f1 := hs1.rs.fix
    obtain ⟨g3, rfl⟩ := hg1.base (h ++ .cells 1 [encLg l] :: .cells 3 [encEn e] :: .cells 1 [[.nil]] :: c4 :: [.cells 1 [[x]]]) (by simp) ⟨_, by simp; rfl⟩
    have hs2 := hs1.base (h₁ := h ++ .cells 1 [encLg l] :: .cells 3 [encEn e] :: .cells 1 [[.nil]] :: c4 :: [.cells 1 [[s1]]]) (by simp) (by simp) []
    simp [-acells, -AV.solid, -appendOk, -appendK, f1, hxf, preOps, e2, e3, e4, e9, e10]
    simp [ew]
    refine ⟨i + 1, by omega, by omega, by omega, ?_⟩
    have hti : (l.map encEn).take (i + 1) = (l.map encEn).take i ++ [encEn y] := by
      rw [List.take_add_one, List.getElem?_map, hy]; rfl
    rw [hti]
    simpa using hs2
  · simp [-appendOk, -appendK, lxPR, preOps, e2, e3, e4, e9, e10, Nat.not_lt.2 hge]
    have hLl : (l.take i).map encEn = l.map encEn := by rw [List.take_of_length_le hge]
    refine ⟨⟨by decide, by decide⟩, ?_⟩
    refine callS.pure _ (fun _ => ref32_Copy e (by omega)) ?_
    simp [-appendOk, -appendK, hxf, preOps, e2, e3, e4, e9, e10]
    refine append_ls (lo := h.length + 5) (n := 3) (es := l.map encEn) (ys := [encEn e]) (by have := hL.more [.cells 3 [encEn e]]; rw [hLl] at this; simpa using this) (by simp) (by simp [appOk]) (by simp; omega) ?_
    intro s1 h1 hs1 hg1
    have f1 := hs1.rs.fix
    obtain ⟨g3, rfl⟩ := hg1.base (h ++ .cells 1 [encLg l] :: .cells 3 [encEn e] :: .cells 1 [[.nil]] :: c4 :: [.cells 1 [[x]]]) (by simp) ⟨_, by simp; rfl⟩
    have hs2 := hs1.base (h₁ := h ++ .cells 1 [encLg l] :: .cells 3 [encEn e] :: .cells 1 [[.nil]] :: c4 :: [.cells 1 [[s1]]]) (by simp) (by simp) []
    simp [-acells, -AV.solid, -appendOk, -appendK, f1, hxf, preOps, e2, e3, e4, e9, e10]
    have hen : l.map encEn ++ [encEn e] = (l ++ [e]).map encEn := by rw [List.map_append]; rfl
    rw [hen] at hs2
    refine AWP.upM lxPR mixed e.posts.length (fun j fr h' => fr 2 = .ptr h.length 0 0 ∧ fr 3 = .ptr (h.length + 1) 0 0 ∧ fr 4 = .ptr (h.length + 2) 0 0 ∧ fr 9 = .ptr (h.length + 4) 0 0 ∧ fr 11 = .int .i64 j ∧ e.posts.any (fun p => !fitsB (balI (l ++ [e]) p.account)) = (e.posts.drop j).any (fun p => !fitsB (balI (l ++ [e]) p.account)) ∧
        h' = h ++ .cells 1 [encLg l] :: .cells 3 [encEn e] :: .cells 1 [[.nil]] :: c4 :: .cells 1 [[s1]] :: g3) 0 (by omega)
      ⟨by simp [e2], by simp [e3], by simp [e4], by simp [e9], by simp, by simp, by simp⟩ ?_
    clear e2 e3 e4 e9 e10
    rintro j fr h' hj ⟨e2, e3, e4, e9, e11, hm, rfl⟩
    rcases Nat.lt_or_ge j e.posts.length with hltj | hgej
    · obtain ⟨p, hpj, hpj'⟩ := get_lt hltj
      have ewj := wrap_succ' (i := j) (by omega)
      rw [drop_get hpj, List.any_cons] at hm
      simp [-appendOk, -appendK, f1, lxPR, preOps, e2, e3, e4, e9, e11, hltj, hpj, hpj', ewj]
      refine ⟨by decide, ?_⟩
      have hfz : Frz 0 (h ++ .cells 1 [encLg l] :: .cells 3 [encEn e] :: .cells 1 [[.nil]] :: c4 :: .cells 1 [[s1]] :: g3) s1 (.ro ((l ++ [e]).map encEn)) := by
        have := hs2.frz (m := 0) (by omega) (encEns_data _)
        simpa using this
      refine callS.pure _ (fun _ => ACalls.borrow (args' := [.agg (encLg (l ++ [e])), .str p.account]) (by simp) (.cons (.agg' (.cons hfz .nil)) (.cons (.data _ (by simp)) .nil)) (ref32_Balance (l ++ [e]) p.account hke)) ?_
      simp [-appendOk, -appendK, f1, lxPR, preOps, e2, e3, e4, e9, e11, hltj, hpj, hpj', ewj]
      refine callS.pure _ (fun _ => ref32_fits _) ?_
      simp [-appendOk, -appendK, f1, lxPR, preOps, e2, e3, e4, e9, e11, hltj, hpj, hpj', ewj]
      refine ⟨fun q3 => ?_, fun q3 => ?_⟩
      · rw [q3] at hm
        have : postR l e = (l, 13) := by rw [postR, if_neg (by simpa using q1), if_neg (by simp [q2]), if_pos (by rw [hm]; rfl)]
        rw [this]
        exact .data _ (encPost _ _)
      · rw [q3] at hm
        exact ⟨j + 1, by omega, by omega, by omega, by simpa using hm⟩
    · rw [List.drop_eq_nil_of_le hgej] at hm
      simp [-appendOk, -appendK, f1, lxPR, preOps, e2, e3, e4, e9, e11, Nat.not_lt.2 hgej]
      have : postR l e = (l ++ [e], 0) := by rw [postR, if_neg (by simpa using q1), if_neg (by simp [q2]), if_neg (by rw [hm]; simp)]
      rw [this]
      have hs3 := Ls.base (h₀ := h ++ .cells 1 [encLg l] :: .cells 3 [encEn e] :: .cells 1 [[.nil]] :: c4 :: [.cells 1 [[s1]]]) (g := g3) (by simpa using hs2) (by simp) (h₁ := h ++ .cells 1 [encLg l] :: .cells 3 [encEn e] :: .cells 1 [[s1]] :: c4 :: [.cells 1 [[s1]]]) (by simp) []
      have hfz := hs3.frz (m := h.length) (by omega) (by have := encEns_data (l ++ [e]); rw [List.map_append] at this; exact this)
      refine .tup' (.cons (.agg' (.cons ?_ .nil)) (.cons (.data _ (by simp)) .nil))
      simpa using hfz
end Go.Proofs.Ytmdenljmfeejfaa
