/-
  Contracts: the charge that is processed next.
-/
import Derived.Test.YtillfoacekifbaaDoorCapR
set_option linter.unusedVariables false
set_option linter.unusedSimpArgs false
set_option maxRecDepth 100000
namespace Go.Proofs.YtillfoacekifbaaDoor
open Go Go.Abs Go.Toll
variable {gl : Globs} {h : AHeap}

def atI : Option Nat → Int
  | none => -1
  | some k => k
set_option maxHeartbeats 1000000 in
theorem ref25_next (l : List TChg) (done : List Bool) (hl : l.length ≤ 2000) (hd : done.length = l.length) :
    ACalls Tryd.prog gl 39 [.ro (l.map encChg), .ro (done.map encB)] h fun v h' => v = .int .i64 (atI (nextI l done)) ∧ h' = h := by
  refine ACalls.data (.int _ _) (ACalls.body Tryd.f39 _ mixed Tryd.func39 rfl rfl (by simp [Tryd.ntmps39]) ?_)
  simp
  refine AWP.up mixed l.length (fun i fr h' => fr 0 = .ro (l.map encChg) ∧ fr 1 = .ro (done.map encB) ∧ fr 6 = .int .i64 i ∧ (∃ a, fr 5 = .int .i64 (atI a) ∧ (∀ k, a = some k → k < l.length) ∧ nextI l done = nextGo l done (l.drop i) i a) ∧ ∃ g, h' = h ++ g) 0 (by omega)
    ⟨by simp, by simp, by simp, ⟨none, by simp [atI], by simp, by simp [nextI]⟩, [], by simp⟩ ?_
  rintro i fr h' hi ⟨e0, e1, e6, ⟨a, e5, ha, hf⟩, g, rfl⟩
  rcases Nat.lt_or_ge i l.length with hlt | hge
  · obtain ⟨x, hg, hg'⟩ := get_lt hlt
    obtain ⟨b, hb, hb'⟩ := get_lt (l := done) (i := i) (by omega)
    have hlt2 : i < done.length := by omega
    rw [drop_get hg, nextGo] at hf
    have ew := wrap_succ' (i := i) (by omega)
    cases a with
    | none =>
      simp [e0, e1, e5, e6, hlt, hlt2, hg, hg', hb, hb', ew, atI]
      refine callS.pure (.bool false) (fun hG => by simp at hG) ?_
      cases b
      · simp [e0, e1, e5, e6, ew, atI]
        refine ⟨i + 1, by omega, by omega, by omega, some i, rfl, fun k hk => by simp at hk; omega, ?_⟩
        rw [hf, if_pos ⟨hb, rfl⟩]
      · simp [e0, e1, e5, e6, ew, atI]
        refine ⟨i + 1, by omega, by omega, by omega, none, rfl, ha, ?_⟩
        rw [hf, if_neg (by simp [hb])]
    | some k =>
      have hk := ha k rfl
      obtain ⟨y, hy, hy'⟩ := get_lt hk
      simp [e0, e1, e5, e6, hlt, hlt2, hg, hg', hb, hb', ew, atI, hk, hy, hy']
      refine callS.pure _ (fun _ => ref25_first l i k x y hg hy) ?_
      have hk0 : ¬ (k : Int) < 0 := by omega
      have hO : firstO l x i (some k) = firstB x y i k := by simp only [firstO, hy]
      rw [hO] at hf
      cases b
      · cases hF : firstB x y i k
        · simp [e0, e1, e5, e6, ew, atI, hk0, hF]
          refine ⟨i + 1, by omega, by omega, by omega, some k, rfl, ha, ?_⟩
          rw [hf, if_neg (by simp [hF])]
        · simp [e0, e1, e5, e6, ew, atI, hk0, hF]
          refine ⟨i + 1, by omega, by omega, by omega, some i, rfl, fun k hk => by simp at hk; omega, ?_⟩
          rw [hf, if_pos ⟨hb, hF⟩]
      · simp [e0, e1, e5, e6, ew, atI, hk0]
        refine ⟨i + 1, by omega, by omega, by omega, some k, rfl, ha, ?_⟩
        rw [hf, if_neg (by simp [hb])]
  · rw [List.drop_eq_nil_of_le hge, nextGo] at hf
    simp [e0, e1, e5, e6, hf, Nat.not_lt.2 hge]
end Go.Proofs.YtillfoacekifbaaDoor
