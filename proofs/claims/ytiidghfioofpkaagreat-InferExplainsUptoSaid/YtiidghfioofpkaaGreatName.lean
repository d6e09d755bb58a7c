/-
  Contracts: names.
-/
import Derived.Test.YtiidghfioofpkaaGreatTab
import Derived.Test.YtiidghfioofpkaaGreatTollNet
set_option linter.unusedVariables false
set_option linter.unusedSimpArgs false
set_option maxRecDepth 100000
namespace Go.Proofs.YtiidghfioofpkaaGreat
open Go Go.Abs Go.Toll
variable {gl : Globs} {h : AHeap}

set_option maxHeartbeats 1000000 in
theorem text_Name (s : Bytes) : ACalls Tryz.prog gl 59 [.str s] h fun v h' => v = .bool (nameB s) ∧ h' = h := by
  refine ACalls.data (.bool _) (ACalls.body Tryz.f59 _ mixed Tryz.func59 rfl rfl (by simp [Tryz.ntmps59]) ?_)
  by_cases h0 : s = []
  · subst h0; simp [nameB]
  by_cases h12 : (12 : Int) < s.length
  · simp [h0, h12, nameB]; omega
  have hp : 0 < s.length := List.length_pos_iff.2 h0
  have hn : nameB s = chsB 0 s := by simp [nameB, hp]; omega
  simp [h0, h12]
  refine AWP.up mixed s.length (fun i fr h' => fr 14 = .obj h.length ∧ h' = h ++ [strAt s i] ∧ nameB s = chsB i (s.drop i)) 0 (by omega) ⟨by simp, by simp, by simp [hn]⟩ ?_
  rintro i fr h' hi ⟨e14, rfl, hf⟩
  rcases Nat.lt_or_ge i s.length with hlt | hge
  · obtain ⟨c, hg, hg'⟩ := get_lt hlt
    rw [drop_get hg, chsB] at hf
    by_cases hc : c.toNat < 128
    · have hr := runeAt_ascii hg hc
      simp [e14]
      refine ⟨s, i, ⟨rfl, rfl⟩, ?_⟩
      rw [hr]
      have key := chB_iff i c.toNat
      simp only
      generalize c.toNat = m at *
      refine ⟨fun _ => ⟨by omega, by omega, by omega, fun a b => ?_, fun a => ⟨i + 1, by omega, by omega, ⟨trivial, rfl⟩, ?_⟩⟩, fun hh => absurd hh (by omega)⟩
      · have : chB i m = false := by rw [Bool.eq_false_iff, ne_eq, key]; omega
        rw [hf, this]; rfl
      · rw [hf, key.2 (by omega), Bool.true_and]
    · have hr := (runeAt_big hg hc).1
      rw [chB_big (by omega)] at hf
      simp [e14]
      refine ⟨s, i, ⟨rfl, rfl⟩, ?_⟩
      generalize (runeAt s i).1 = m at *
      refine ⟨fun _ => ⟨by omega, by omega, by omega, fun a b => hf, fun a => by omega⟩, fun hh => absurd hh (by omega)⟩
  · rw [List.drop_eq_nil_of_le hge, chsB] at hf
    simp [e14]
    exact ⟨s, i, ⟨rfl, rfl⟩, fun hh => absurd hh (by omega), fun _ => hf⟩
set_option maxHeartbeats 1000000 in
theorem ref01_Name (s : Bytes) : ACalls Tryz.prog gl 86 [.str s] h fun v h' => v = .bool (nameB s) ∧ h' = h := by
  refine ACalls.data (.bool _) (ACalls.body Tryz.f86 _ mixed Tryz.func86 rfl rfl (by simp [Tryz.ntmps86]) ?_)
  by_cases h0 : (s.length : Int) < 1
  · simp [h0, nameB]; omega
  by_cases h12 : (12 : Int) < s.length
  · simp [h0, h12, nameB]; omega
  have hn : nameB s = chsB 0 s := by simp [nameB]; omega
  simp [h0, h12]
  refine AWP.up mixed s.length (fun i fr h' => fr 0 = .str s ∧ fr 3 = .int .i64 i ∧ h' = h ∧ nameB s = chsB i (s.drop i)) 0 (by omega) ⟨by simp, by simp, by simp, by simp [hn]⟩ ?_
  rintro i fr h' hi ⟨e0, e3, rfl, hf⟩
  rcases Nat.lt_or_ge i s.length with hlt | hge
  · obtain ⟨c, hg, hg'⟩ := get_lt hlt
    rw [drop_get hg, chsB] at hf
    have ew := wrap_succ' (i := i) (by omega)
    simp [e0, e3, hlt, hg, hg', ew]
    have key := chB_iff i c.toNat
    generalize c.toNat = m at *
    refine ⟨by omega, by omega, fun a b => ?_, fun a => ⟨i + 1, by omega, by omega, by omega, ?_⟩⟩
    · have : chB i m = false := by rw [Bool.eq_false_iff, ne_eq, key]; omega
      rw [hf, this]; rfl
    · rw [hf, key.2 (by omega), Bool.true_and]
  · rw [List.drop_eq_nil_of_le hge, chsB] at hf
    simp [e0, e3, Nat.not_lt.2 hge, hf]
end Go.Proofs.YtiidghfioofpkaaGreat
