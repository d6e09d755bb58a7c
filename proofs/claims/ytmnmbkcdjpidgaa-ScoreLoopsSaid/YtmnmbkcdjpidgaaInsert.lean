/-
  Contracts: readings that are inserted into an ascending list.
-/
import Derived.Test.YtmnmbkcdjpidgaaSeenR
import Derived.Test.YtmnmbkcdjpidgaaAbsList
import Derived.Test.YtmnmbkcdjpidgaaTollInsert
set_option linter.unusedVariables false
set_option linter.unusedSimpArgs false
set_option maxRecDepth 100000
namespace Go.Proofs.Ytmnmbkcdjpidgaa
open Go Go.Abs Go.Toll
variable {gl : Globs} {h : AHeap}

theorem encSeen_data (l : List TSeen) : ∀ e ∈ l.map encSeen, ∀ y ∈ e, y.Data := by
  intro e he y hy
  obtain ⟨s, _, rfl⟩ := List.mem_map.1 he
  simp at hy
  rcases hy with rfl | rfl | rfl | rfl | rfl | rfl | rfl | rfl | rfl | rfl | rfl <;> simp
set_option maxHeartbeats 1000000 in
theorem ref13_InsertSeen (l : List TSeen) (s : TSeen) (hs : s.short) (hl : l.length ≤ 1000000) : ACalls Try.prog gl 25 [.ro (l.map encSeen), .agg (encSeen s)] h fun v h' => v = .ro ((insU l s).map encSeen) ∧ h' = h := by
  refine ACalls.fresh (ACalls.body Try.f25 _ mixed Try.func25 rfl rfl (by simp [Try.ntmps25]) ?_)
  simp
  refine AWP.up mixed l.length (fun i fr h' => fr 0 = .ro (l.map encSeen) ∧ fr 3 = .ptr h.length 0 0 ∧ fr 7 = .int .i64 i ∧ ∃ out done x g, fr 5 = x ∧ fr 6 = .bool done ∧ Ls 11 (h.length + 1) h' x (out.map encSeen) ∧ insU l s = (if s ∈ l.drop i then l else insF s out done (l.drop i)) ∧ out.length ≤ i + done.toNat ∧ h' = h ++ .cells 11 [encSeen s] :: g) 0 (by omega)
    ⟨by simp, by simp, by simp, [], false, .nil, [], by simp, by simp, Ls.nil, by simp [insU], by simp, by simp⟩ ?_
  rintro i fr h' hi ⟨e0, e3, e7, out, done, x, g, e5, e6, hL, hm, hol, rfl⟩
  have hf := hL.rs.fix
  have hadd : ∀ (ds : List TSeen) (z : TSeen), ds.map encSeen ++ [encSeen z] = (ds ++ [z]).map encSeen := fun ds z => by rw [List.map_append]; rfl
  have hdn : done.toNat ≤ 1 := by cases done <;> simp
  rcases Nat.lt_or_ge i l.length with hlt | hge
  · obtain ⟨y, hy, hy'⟩ := get_lt hlt
    have ew := wrap_succ' (i := i) (by omega)
    simp [e0, e3, e7, hlt, hy, hy']
    refine ⟨by decide, ?_⟩
    refine callS.pure _ (fun _ => ref13_Compare s y hs) ?_
    simp [-appendOk, -appendK, e0, e3, e5, e6, e7, hlt, hy, hy', hf]
    rw [drop_get hy] at hm
    refine ⟨fun c => ?_, fun c => ⟨fun c1 c2 => ?_, fun c1 => ?_⟩⟩
    · obtain rfl := (seenCmp_zero s y).1 c
      have : insU l s = l := by rw [insU, if_pos (List.mem_of_getElem? hy)]
      rw [this]
      exact .data _ (.ro _ (encSeen_data l))
    · have hne : ¬ s = y := fun e => c ((seenCmp_zero s y).2 e)
      refine append_ls (lo := h.length + 1) (n := 11) (es := out.map encSeen) (ys := [encSeen s]) (by simpa using hL.more [.cells 11 [encSeen s]]) (by simp) (by simp [appOk]) (by simp; omega) ?_
      intro s1 h1 hs1 hg1
      obtain ⟨g1, rfl⟩ := hg1.base (h ++ [.cells 11 [encSeen s]]) (by simp) ⟨_, by simp; rfl⟩
      simp [-appendOk, -appendK, e0, e3, e5, e6, e7, hlt, hy, hy', hs1.core, hs1.gd]
      refine append_ls (lo := h.length + 1) (n := 11) (es := out.map encSeen ++ [encSeen s]) (ys := [encSeen y]) (by simpa using hs1.more [.cells 11 [encSeen y]]) (by simp) (by simp [appOk]) (by simp; omega) ?_
      intro s2 h2 hs2 hg2
      obtain ⟨g2, rfl⟩ := hg2.base (h ++ [.cells 11 [encSeen s]]) (by simp) ⟨_, by simp; rfl⟩
      simp [-appendOk, -appendK, e0, e3, e5, e6, e7, hlt, hy, hy', hs2.core, hs2.gd, ew]
      refine ⟨i + 1, by omega, by omega, by omega, out ++ [s, y], by simpa using hs2, ?_, by subst c1; simp at hol ⊢; omega⟩
      rw [hm]
      subst c1
      simp [insF, hne, c2]
    · have hne : ¬ s = y := fun e => c ((seenCmp_zero s y).2 e)
      refine append_ls (lo := h.length + 1) (n := 11) (es := out.map encSeen) (ys := [encSeen y]) (by simpa using hL.more [.cells 11 [encSeen y]]) (by simp) (by simp [appOk]) (by simp; omega) ?_
      intro s1 h1 hs1 hg1
      obtain ⟨g1, rfl⟩ := hg1.base (h ++ [.cells 11 [encSeen s]]) (by simp) ⟨_, by simp; rfl⟩
      simp [-appendOk, -appendK, e0, e3, e5, e6, e7, hlt, hy, hy', hs1.core, hs1.gd, ew]
      refine ⟨i + 1, by omega, by omega, by omega, ?_⟩
      cases done
      · have c2 := c1 rfl
        have c3 : ¬ seenCmp s y < 0 := by omega
        exact ⟨out ++ [y], .inl ⟨rfl, by simpa using hs1, by rw [hm]; simp [insF, hne, c3], by simp at hol ⊢; omega⟩⟩
      · exact ⟨out ++ [y], .inr ⟨rfl, by simpa using hs1, by rw [hm]; simp [insF, hne], by simp at hol ⊢; omega⟩⟩
  · rw [List.drop_eq_nil_of_le hge] at hm
    simp [-appendOk, -appendK, e0, e3, e5, e6, e7, Nat.not_lt.2 hge, hf]
    refine ⟨fun c => ?_, fun c => ?_⟩
    · refine append_ls (lo := h.length + 1) (n := 11) (es := out.map encSeen) (ys := [encSeen s]) (by simpa using hL.more [.cells 11 [encSeen s]]) (by simp) (by simp [appOk]) (by simp; omega) ?_
      intro s1 h1 hs1 hg1
      obtain ⟨g1, rfl⟩ := hg1.base (h ++ [.cells 11 [encSeen s]]) (by simp) ⟨_, by simp; rfl⟩
      simp [hs1.core, hs1.gd]
      have e : insU l s = out ++ [s] := by rw [hm]; simp [insF, c]
      rw [e]
      have := hs1.frz (m := h.length) (by omega) (by rw [hadd]; exact encSeen_data _)
      rw [hadd] at this
      simpa using this
    · have e : insU l s = out := by rw [hm]; simp [insF, c]
      rw [e]
      exact hL.frz (by omega) (encSeen_data _)
end Go.Proofs.Ytmnmbkcdjpidgaa
