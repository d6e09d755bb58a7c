/-
  Contracts: the first element that a function takes (System).
-/
import Derived.Test.YtiidghfioofpkaaGreatName
set_option linter.unusedVariables false
set_option linter.unusedSimpArgs false
set_option maxRecDepth 100000
namespace Go.Proofs.YtiidghfioofpkaaGreat
open Go Go.Abs Go.Toll
variable {gl : Globs} {h : AHeap}

theorem IndexFunc_System (x : AV) (es : List (List AV)) (hx : Rd 3 h x es) (hl : es.length ≤ 1152921504606846976) (f : FuncId) (caps : List AV) (p : List AV → Bool)
    (hp : ∀ e ∈ es, ∀ g, ACalls Tryz.prog gl f (.agg e :: caps) (h ++ g) fun v h' => v = .bool (p e) ∧ h' = h ++ g) :
    ACalls Tryz.prog gl 89 [x, .fn (.func f) [] caps] h fun v h' => v = .int .i64 (idxI p es) ∧ h' = h := by
  refine ACalls.data (by simp) (ACalls.body Tryz.f89 _ mixed Tryz.func89 rfl rfl (by simp [Tryz.ntmps89]) ?_)
  simp [hx.core, hx.gd, hx.lenOk, hx.alen]
  refine AWP.up mixed es.length (fun i fr h' => fr 0 = x ∧ fr 1 = .fn (.func f) [] caps ∧ fr 7 = .int .i64 es.length ∧ fr 8 = .int .i64 i ∧ idxI p es = idxFrom p i (es.drop i) ∧ ∃ g, h' = h ++ g) 0 (by omega) ⟨by simp, by simp, by simp, by simp, by simp [idxI], [], by simp⟩ ?_
  rintro i fr h' hi ⟨e0, e1, e7, e8, hf, g, rfl⟩
  have hx := hx.append g
  rcases Nat.lt_or_ge i es.length with hlt | hge
  · obtain ⟨y, hg, hg'⟩ := get_lt hlt
    have hy : y.length = 3 := hx.2 y (hg' ▸ List.getElem_mem hlt)
    rw [drop_get hg, idxFrom] at hf
    have ew := wrap_succ' (i := i) (by omega)
    have h0 : (0 : Int) ≤ i := by omega
    have h1 : (i : Int) < es.length := by omega
    simp [e0, e1, e7, e8, hlt, hx.core, hx.gd, hx.iaddrOk, h0, h1, hx.icore, hx.igd, hx.loadV h0 h1 hg, hx.loadOk h0 h1 hg, hy]
    rw [List.take_of_length_le (by omega)]
    refine callS.pure _ (fun _ => hp y (hg' ▸ List.getElem_mem hlt) g) ?_
    simp [e0, e1, e7, e8, ew]
    refine ⟨fun hpy => by simp [hf, hpy], fun hpy => ⟨i + 1, by omega, by omega, by simp, by simp [hf, hpy]⟩⟩
  · rw [List.drop_eq_nil_of_le hge] at hf
    simp [e0, e1, e7, e8, hf, Nat.not_lt.2 hge, idxFrom]
end Go.Proofs.YtiidghfioofpkaaGreat
