/-
  Contracts: readings of one vehicle, equal readings.
-/
import Derived.Test.YtmnmbkcdjpidgaaSeen
import Derived.Test.YtmnmbkcdjpidgaaPlateR
set_option linter.unusedVariables false
set_option linter.unusedSimpArgs false
set_option maxRecDepth 100000
namespace Go.Proofs.Ytmnmbkcdjpidgaa
open Go Go.Abs Go.Toll
variable {gl : Globs} {h : AHeap}

theorem score_joins (x y : TSeen) : ACalls Try.prog gl 36 [.agg (encSeen x), .agg (encSeen y)] h fun v h' => v = .bool (joinsB x y) ∧ h' = h := by
  refine ACalls.data (.bool _) (ACalls.body Try.f36 _ mixed Try.func36 rfl rfl (by simp [Try.ntmps36]) ?_)
  simp
  refine ⟨fun q => by rw [joinsB, if_pos q], fun q => ⟨fun q2 => by rw [joinsB, if_neg (by simp [q]), if_pos q2]; exact Bool.beq_eq_decide_eq _ _, fun q2 => ?_⟩⟩
  refine callS.pure _ (fun _ => plate_Same x.plate y.plate) ?_
  simp
  rw [joinsB, if_neg (by simp [q]), if_neg q2]
theorem ref15_joins (x y : TSeen) : ACalls Try.prog gl 38 [.agg (encSeen x), .agg (encSeen y)] h fun v h' => v = .bool (joinsB x y) ∧ h' = h := by
  refine ACalls.data (.bool _) (ACalls.body Try.f38 _ mixed Try.func38 rfl rfl (by simp [Try.ntmps38]) ?_)
  simp
  refine ⟨fun q => by rw [joinsB, if_pos q], fun q => ⟨fun q2 => by rw [joinsB, if_neg (by simp [q]), if_pos q2]; exact Bool.beq_eq_decide_eq _ _, fun q2 => ?_⟩⟩
  refine callS.pure _ (fun _ => ref10_Same x.plate y.plate) ?_
  simp
  rw [joinsB, if_neg (by simp [q]), if_neg q2]
theorem ref13_SameSeen (x y : TSeen) (hx : x.short) : ACalls Try.prog gl 39 [.agg (encSeen x), .agg (encSeen y)] h fun v h' => v = .bool (decide (x = y)) ∧ h' = h := by
  refine ACalls.data (.bool _) (ACalls.body Try.f39 _ mixed Try.func39 rfl rfl (by simp [Try.ntmps39]) ?_)
  simp
  refine callS.pure _ (fun _ => ref13_Compare x y hx) ?_
  simp
  rw [Bool.eq_iff_iff, beq_iff_eq, decide_eq_true_eq, seenCmp_zero]
theorem ref13_SameSeens (l m : List TSeen) (hl : l.length ≤ 100000) (hx : ∀ x ∈ l, x.short) : ACalls Try.prog gl 19 [.ro (l.map encSeen), .ro (m.map encSeen)] h fun v h' => v = .bool (decide (l = m)) ∧ h' = h := by
  refine ACalls.data (.bool _) (ACalls.body Try.f19 _ mixed Try.func19 rfl rfl (by simp [Try.ntmps19]) ?_)
  simp
  refine ⟨fun q e => by rw [e] at q; exact absurd rfl q, fun q => ?_⟩
  have q : l.length = m.length := by omega
  refine AWP.up mixed l.length (fun i fr h' => fr 0 = .ro (l.map encSeen) ∧ fr 1 = .ro (m.map encSeen) ∧ fr 5 = .int .i64 i ∧ l.take i = m.take i ∧ ∃ g, h' = h ++ g) 0 (by omega) ⟨by simp, by simp, by simp, by simp, [], by simp⟩ ?_
  rintro i fr h' hi ⟨e0, e1, e5, hf, g, rfl⟩
  rcases Nat.lt_or_ge i l.length with hlt | hge
  · obtain ⟨x, hg, hg'⟩ := get_lt hlt
    obtain ⟨y, hy, hy'⟩ := get_lt (l := m) (i := i) (by omega)
    have hltm : i < m.length := by omega
    have ew := wrap_succ' (i := i) (by omega)
    simp [e0, e1, e5, hlt, hltm, hg, hg', hy, hy', ew]
    refine ⟨by decide, ?_⟩
    refine callS.pure _ (fun _ => ref13_SameSeen x y (hx x (List.mem_of_getElem? hg))) ?_
    simp [e0, e1, e5, hlt, hltm, hg, hg', hy, hy', ew]
    refine ⟨fun c e => ?_, fun c => ⟨i + 1, by omega, by omega, by omega, ?_⟩⟩
    · rw [e, hy] at hg
      exact c (Option.some.inj hg).symm
    · rw [List.take_add_one, List.take_add_one, hf, hg, hy, c]
  · have e : l = m := by rwa [List.take_of_length_le hge, List.take_of_length_le (by omega)] at hf
    simp [e0, e1, e5, e, Nat.not_lt.2 (q ▸ hge)]
end Go.Proofs.Ytmnmbkcdjpidgaa
