/-
  Contract: lists of paths are equal.
-/
import Derived.Test.YtdmfdgkicbhdoaaGrF
import Derived.Test.YtdmfdgkicbhdoaaText
set_option linter.unusedVariables false
set_option linter.unusedSimpArgs false
set_option maxRecDepth 100000
namespace Go.Proofs.Ytdmfdgkicbhdoaa
open Go Go.Abs Go.Toll
variable {gl : Globs} {h : AHeap}

theorem ref07_SamePaths (a b : List (List Bytes)) (hl : a.length ≤ 1000000) (hla : ∀ p ∈ a, p.length ≤ 1000000) : ACalls Try.prog gl 16 [.ro (a.map encPa), .ro (b.map encPa)] h fun v h' => v = .bool (decide (a = b)) ∧ h' = h := by
  refine ACalls.data (.bool _) (ACalls.body Try.f16 _ mixed Try.func16 rfl rfl (by simp [Try.ntmps16]) ?_)
  simp
  refine ⟨fun q e => by rw [e] at q; exact q rfl, fun q => ?_⟩
  have q : a.length = b.length := by omega
  refine AWP.up mixed a.length (fun i fr h' => fr 0 = .ro (a.map encPa) ∧ fr 1 = .ro (b.map encPa) ∧ fr 5 = .int .i64 i ∧ (a = b ↔ a.drop i = b.drop i) ∧ h' = h) 0 (by omega) ⟨by simp, by simp, by simp, by simp, by simp⟩ ?_
  rintro i fr h' hi ⟨e0, e1, e5, hf, rfl⟩
  rcases Nat.lt_or_ge i a.length with hlt | hge
  · obtain ⟨s, hs, hs'⟩ := get_lt hlt
    obtain ⟨t, ht, ht'⟩ := get_lt (l := b) (i := i) (by omega)
    rw [drop_get hs, drop_get ht] at hf
    have ew := wrap_succ' (i := i) (by omega)
    have hlb : i < b.length := by omega
    simp [e0, e1, e5, hlt, hlb, hs, hs', ht, ht', encPa, ew]
    refine ⟨by decide, ?_⟩
    refine callS.pure _ (fun _ => ref01_SameTexts s t (hla s (List.mem_of_getElem? hs)) _ _ (.ro (texts_n s)) (.ro (texts_n t))) ?_
    simp [e0, e1, e5, hlt, hlb, hs, hs', ht, ht', encPa, ew]
    refine ⟨fun hne e => hne (List.cons.inj (hf.1 e)).1, fun he => ⟨i + 1, by omega, by omega, by omega, ?_⟩⟩
    subst he
    rw [hf]
    exact ⟨fun e => (List.cons.inj e).2, fun e => by rw [e]⟩
  · have e : a = b := by rw [hf, List.drop_eq_nil_of_le hge, List.drop_eq_nil_of_le (by omega)]
    have hge' : ¬ (i : Int) < a.length := by omega
    simp [e0, e1, e5, hge', hge]
    exact e
end Go.Proofs.Ytdmfdgkicbhdoaa
