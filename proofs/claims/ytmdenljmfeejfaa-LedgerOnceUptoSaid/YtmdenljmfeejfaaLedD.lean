/-
  Contracts: the part of a ledger before a time.
-/
import Derived.Test.YtmdenljmfeejfaaLedB
set_option linter.unusedVariables false
set_option linter.unusedSimpArgs false
set_option maxRecDepth 100000
namespace Go.Proofs.Ytmdenljmfeejfaa
open Go Go.Abs Go.Toll
variable {gl : Globs} {h : AHeap}

theorem encEn_n (l : List TEn) : ∀ e ∈ l.map encEn, e.length = 3 := fun e he => by obtain ⟨_, _, rfl⟩ := List.mem_map.1 he; rfl
theorem encEns_data (l : List TEn) : ∀ e ∈ l.map encEn, ∀ y ∈ e, y.Data := fun e he y hy => by
  obtain ⟨p, _, rfl⟩ := List.mem_map.1 he
  exact encEn_data p y hy
def lxU : Nat → Option (Nat × List (Nat × Nat)) := fun i => if i = 6 then some (8, [(1, 5)]) else none
set_option maxHeartbeats 1000000 in
theorem ledger_Until (l : List TEn) (t : Int) (hl : l.length ≤ 1000000) (hp : ∀ e ∈ l, e.posts.length ≤ 1000000) : ACalls Try.prog gl 28 [.agg (encLg l), .int .i64 t] h fun v h' => v = .agg (encLg (untilL t l)) ∧ h' = h := by
  refine ACalls.fresh (ACalls.bodyM lxU Try.f28 _ mixed Try.func28 rfl rfl (by simp [Try.ntmps28]) ?_)
  simp [lxU]
  refine AWP.upM lxU mixed l.length (fun i fr h' => fr 1 = .int .i64 t ∧ fr 4 = .ptr (h.length + 1) 0 0 ∧ fr 5 = .ptr (h.length + 2) 0 0 ∧ fr 9 = .ro (l.map encEn) ∧ fr 10 = .int .i64 l.length ∧ fr 11 = .int .i64 i ∧
      ∃ out x g, untilL t l = out ++ untilL t (l.drop i) ∧ out.length ≤ i ∧ h' = h ++ .cells 1 [encLg l] :: .cells 1 [[.nil]] :: .cells 1 [[x]] :: g ∧ Ls 3 (h.length + 3) h' x (out.map encEn)) 0 (by omega)
    ⟨by simp, by simp, by simp, by simp, by simp, by simp, [], .nil, [], by simp, by simp, by simp, Ls.nil⟩ ?_
  rintro i fr h' hi ⟨e1, e4, e5, e9, e10, e11, out, x, g, hm, hol, rfl, hL⟩
  rcases Nat.lt_or_ge i l.length with hlt | hge
  · obtain ⟨e, he, he'⟩ := get_lt hlt
    rw [drop_get he, untilL_cons] at hm
    have ew := wrap_succ' (i := i) (by omega)
    have hxf := hL.rs.fix
    simp [-appendOk, -appendK, lxU, preOps, e1, e4, e5, e9, e10, e11, hlt, he, he', ew]
    refine ⟨fun q => ?_, fun q => ⟨i + 1, by omega, by omega, by omega, out, by rw [hm, if_neg (by omega)], by omega, ?_⟩⟩
    · refine ⟨⟨by decide, by decide⟩, ?_⟩
      refine callS.pure _ (fun _ => ledger_clone e (hp e (List.mem_of_getElem? he))) ?_
      simp [-appendOk, -appendK, hxf, preOps, e1, e4, e5, e9, e10, e11]
      refine append_ls (lo := h.length + 3) (n := 3) (es := out.map encEn) (ys := [encEn e]) (by simpa using hL.more [.cells 3 [encEn e], .cells 3 [encEn e]]) (by simp) (by simp [appOk]) (by simp; omega) ?_
      intro s1 h1 hs1 hg1
      have f1 := hs1.rs.fix
      obtain ⟨g1, rfl⟩ := hg1.base (h ++ [.cells 1 [encLg l], .cells 1 [[.nil]], .cells 1 [[x]]]) (by simp) ⟨_, by simp; rfl⟩
      have hs2 := hs1.base (h₁ := h ++ [.cells 1 [encLg l], .cells 1 [[.nil]], .cells 1 [[s1]]]) (by simp) (by simp) []
      simp [-acells, -AV.solid, -appendOk, -appendK, f1, hxf, preOps, e1, e4, e5, e9, e10, e11, ew]
      exact ⟨i + 1, by omega, by omega, by omega, out ++ [e], by rw [hm, if_pos q, List.append_assoc]; rfl, by simp; omega, by simpa using hs2⟩
    · simpa using hL.more [.cells 3 [encEn e]]
  · rw [List.drop_eq_nil_of_le hge, untilL_nil, List.append_nil] at hm
    have hxf := hL.rs.fix
    simp [-AV.solid, -acells, lxU, e1, e4, e5, e9, e10, e11, Nat.not_lt.2 hge, hxf]
    have hL2 := Ls.base (h₀ := h ++ [.cells 1 [encLg l], .cells 1 [[.nil]], .cells 1 [[x]]]) (g := g) (by simpa using hL) (by simp) (h₁ := h ++ [.cells 1 [encLg l], .cells 1 [[x]], .cells 1 [[x]]]) (by simp) []
    have hfz := hL2.frz (m := h.length) (by omega) (encEns_data _)
    rw [hm]
    exact .agg' (.cons (by simpa using hfz) .nil)
def lxU2 : Nat → Option (Nat × List (Nat × Nat)) := fun i => if i = 6 then some (12, [(1, 9)]) else none
set_option maxHeartbeats 1000000 in
theorem ref32_Until (l : List TEn) (t : Int) (hl : l.length ≤ 1000000) (hp : ∀ e ∈ l, e.posts.length ≤ 1000000) : ACalls Try.prog gl 29 [.agg (encLg l), .int .i64 t] h fun v h' => v = .agg (encLg (untilL t l)) ∧ h' = h := by
  refine ACalls.fresh (ACalls.bodyM lxU2 Try.f29 _ mixed Try.func29 rfl rfl (by simp [Try.ntmps29]) ?_)
  simp [lxU2]
  refine AWP.upM lxU2 mixed l.length (fun i fr h' => fr 1 = .int .i64 t ∧ fr 2 = .ptr h.length 0 0 ∧ fr 4 = .ptr (h.length + 1) 0 0 ∧ fr 5 = .ptr (h.length + 2) 0 0 ∧ fr 6 = .int .i64 i ∧
      ∃ out x g, untilL t l = out ++ untilL t (l.drop i) ∧ out.length ≤ i ∧ h' = h ++ .cells 1 [encLg l] :: .cells 1 [[.nil]] :: .cells 1 [[x]] :: g ∧ Ls 3 (h.length + 3) h' x (out.map encEn)) 0 (by omega)
    ⟨by simp, by simp, by simp, by simp, by simp, [], .nil, [], by simp, by simp, by simp, Ls.nil⟩ ?_
  rintro i fr h' hi ⟨e1, e2, e4, e5, e6, out, x, g, hm, hol, rfl, hL⟩
  rcases Nat.lt_or_ge i l.length with hlt | hge
  · obtain ⟨e, he, he'⟩ := get_lt hlt
    rw [drop_get he, untilL_cons] at hm
    have ew := wrap_succ' (i := i) (by omega)
    have hxf := hL.rs.fix
    simp [-appendOk, -appendK, lxU2, preOps, e1, e2, e4, e5, e6, hlt, he, he', ew]
    refine ⟨fun q => ?_, fun q => ⟨i + 1, by omega, by omega, by omega, out, by rw [hm, if_neg (by omega)], by omega, ?_⟩⟩
    · refine ⟨⟨by decide, by decide⟩, ?_⟩
      refine callS.pure _ (fun _ => ref32_Copy e (hp e (List.mem_of_getElem? he))) ?_
      simp [-appendOk, -appendK, hxf, preOps, e1, e2, e4, e5, e6]
      refine append_ls (lo := h.length + 3) (n := 3) (es := out.map encEn) (ys := [encEn e]) (by simpa using hL.more [.cells 3 [encEn e]]) (by simp) (by simp [appOk]) (by simp; omega) ?_
      intro s1 h1 hs1 hg1
      have f1 := hs1.rs.fix
      obtain ⟨g1, rfl⟩ := hg1.base (h ++ [.cells 1 [encLg l], .cells 1 [[.nil]], .cells 1 [[x]]]) (by simp) ⟨_, by simp; rfl⟩
      have hs2 := hs1.base (h₁ := h ++ [.cells 1 [encLg l], .cells 1 [[.nil]], .cells 1 [[s1]]]) (by simp) (by simp) []
      simp [-acells, -AV.solid, -appendOk, -appendK, f1, hxf, preOps, e1, e2, e4, e5, e6, ew]
      exact ⟨i + 1, by omega, by omega, by omega, out ++ [e], by rw [hm, if_pos q, List.append_assoc]; rfl, by simp; omega, by simpa using hs2⟩
    · simpa using hL
  · rw [List.drop_eq_nil_of_le hge, untilL_nil, List.append_nil] at hm
    have hxf := hL.rs.fix
    simp [-AV.solid, -acells, lxU2, e1, e2, e4, e5, e6, Nat.not_lt.2 hge, hxf]
    have hL2 := Ls.base (h₀ := h ++ [.cells 1 [encLg l], .cells 1 [[.nil]], .cells 1 [[x]]]) (g := g) (by simpa using hL) (by simp) (h₁ := h ++ [.cells 1 [encLg l], .cells 1 [[x]], .cells 1 [[x]]]) (by simp) []
    have hfz := hL2.frz (m := h.length) (by omega) (encEns_data _)
    rw [hm]
    exact .agg' (.cons (by simpa using hfz) .nil)
end Go.Proofs.Ytmdenljmfeejfaa
