/-
  Contracts: the law that no cap is exceeded.
-/
import Derived.Test.YtillfoacekifbaaDoorLawCap
import Derived.Test.YtillfoacekifbaaDoorTollNever
set_option linter.unusedVariables false
set_option linter.unusedSimpArgs false
set_option maxRecDepth 100000
namespace Go.Proofs.YtillfoacekifbaaDoor
open Go Go.Abs Go.Toll
variable {gl : Globs} {h : AHeap}

set_option maxHeartbeats 1000000 in
theorem law_total (hgl : gl 0 = some monthCells) (c : TCap) (ch : List TChg) (P : List Int) (t : Int) (hl : P.length = ch.length) (hch : ch.length ≤ 2000) (hP : ∀ n ∈ P, okC n) :
    ACalls Tryd.prog gl 23 [.agg (encCap c), .ro (ch.map encChg), .ro (P.map encN), .int .i64 t] h fun v h' => v = .int .i64 (totI c (perI c.days t) ch P) ∧ h' = h := by
  refine ACalls.data (.int _ _) (ACalls.body Tryd.f23 _ mixed Tryd.func23 rfl rfl (by simp [Tryd.ntmps23]) ?_)
  simp
  refine AWP.up mixed ch.length (fun i fr h' => fr 1 = .ro (ch.map encChg) ∧ fr 2 = .ro (P.map encN) ∧ fr 3 = .int .i64 t ∧ fr 4 = .ptr h.length 0 0 ∧ fr 10 = .int .i64 i ∧
    (∃ a, fr 9 = .int .i64 a ∧ 0 ≤ a ∧ a ≤ (i : Int) * 1125899906842624 ∧ totI c (perI c.days t) ch P = a + totI c (perI c.days t) (ch.drop i) (P.drop i)) ∧ ∃ g, h' = h ++ .cells 4 [encCap c] :: g) 0 (by omega) ⟨by simp, by simp, by simp, by simp, by simp, ⟨0, by simp, by simp, by simp, by simp⟩, [], by simp⟩ ?_
  rintro i fr h' hi ⟨e1, e2, e3, e4, e10, ⟨a, e9, ha, ha2, hf⟩, g, rfl⟩
  rcases Nat.lt_or_ge i ch.length with hlt | hge
  · obtain ⟨x, hg, hg'⟩ := get_lt hlt
    obtain ⟨n, hn, hn'⟩ := get_lt (l := P) (i := i) (by omega)
    have hnn := hP n (List.mem_of_getElem? hn)
    have hltP : i < P.length := by omega
    rw [drop_get hg, drop_get hn, totI] at hf
    have ew := wrap_succ' (i := i) (by omega)
    simp [e1, e2, e3, e4, e9, e10, hlt, hltP, hg, hg', hn, hn', ew]
    refine ⟨by decide, ?_⟩
    refine callS.pure _ (fun _ => cap_Period hgl c x.time) ?_
    simp [e1, e2, e3, e4, e9, e10, hlt, hltP, hg, hg', hn, hn', ew]
    refine callS.pure _ (fun _ => cap_Period hgl c t) ?_
    have hw : IntKind.i64.wrap (a + n) = a + n := wrap64_of (by unfold okC at *; omega) (by unfold okC at *; omega)
    have hm : matchB c x = (decide (c.sys = []) || decide (c.sys = x.sys)) := rfl
    simp [e1, e2, e3, e4, e9, e10, hlt, hltP, hg, hg', hn, hn', ew, hw]
    refine ⟨fun q1 q2 => ⟨i + 1, by omega, by omega, by omega, by unfold okC at *; omega, by unfold okC at *; omega, ?_⟩, fun q => ⟨i + 1, by omega, by omega, by omega, by omega, by omega, ?_⟩⟩
    · have hct : countsB c (perI c.days t) x = true := by simp [countsB, matchB, q1, q2]
      rw [hf, if_pos hct]; omega
    · have hct : countsB c (perI c.days t) x = false := by
        rw [Bool.eq_false_iff]; intro hh
        simp [countsB, matchB] at hh
        exact q hh.1 hh.2
      rw [hf, hct]; simp
  · rw [List.drop_eq_nil_of_le hge] at hf
    have h0 : totI c (perI c.days t) [] (P.drop i) = 0 := by cases P.drop i <;> rfl
    rw [h0] at hf
    simp [e1, e2, e3, e4, e9, e10, hf, Nat.not_lt.2 hge]

set_option maxHeartbeats 4000000 in
theorem law_Never [GOk gl] (hgl : gl 0 = some monthCells) (l : List TCap) (ch : List TChg) : ACalls Tryd.prog gl 7 [.ro (l.map encCap), .ro (ch.map encChg)] h fun v h' => v = .bool true := by
  refine ACalls.mono (ACalls.data (.bool true) (ACalls.body Tryd.f7 _ mixed Tryd.func7 rfl rfl (by simp [Tryd.ntmps7]) ?_)) fun _ _ h => h.1
  simp
  intro h1 h2
  refine callS.pure _ (fun _ => cap_Apply hgl l ch _ _ (Rs.ro (by simp)) (Rs.ro (by simp)) (by omega) (by omega)) ?_
  simp
  refine ⟨fun e => ?_, fun e => ?_⟩
  · rw [if_neg e]
    refine callS.pure _ (fun _ => law_alive hgl) ?_
    simp
  rw [if_pos e]
  have hlen := (app_get l ch).2.1
  have hnever := fun i x (hx : ch[i]? = some x) => never e hx
  generalize appApply l ch = P at *
  simp [hlen]
  have hP : ∀ n ∈ P, okC n := by
    intro n hn
    obtain ⟨i, hi⟩ := List.getElem?_of_mem hn
    have hil := (List.getElem?_eq_some_iff.1 hi).1
    obtain ⟨x, hx, _⟩ := get_lt (l := ch) (i := i) (by omega)
    obtain ⟨m, hm, a1, a2, _⟩ := hnever i x hx
    rw [hi] at hm
    obtain rfl := Option.some.inj hm
    have := ((apply_ok e).2.2.2 x (List.mem_of_getElem? hx)).1
    unfold okC at *; omega
  refine AWP.up mixed ch.length (fun i fr h' => fr 0 = .ro (l.map encCap) ∧ fr 1 = .ro (ch.map encChg) ∧ fr 5 = .ro (P.map encN) ∧ fr 7 = .int .i64 i ∧ ∃ g, h' = h ++ g) 0 (by omega) ⟨by simp, by simp, by simp, by simp, [], by simp⟩ ?_
  rintro i fr h' hi ⟨e0, e1, e5, e7, g, rfl⟩
  rcases Nat.lt_or_ge i ch.length with hlt | hge
  · obtain ⟨x, hg, hg'⟩ := get_lt hlt
    obtain ⟨n, hn, a1, a2, a3, a4⟩ := hnever i x hg
    have hn' := (List.getElem?_eq_some_iff.1 hn).2
    have hltP : i < P.length := by omega
    have ew := wrap_succ' (i := i) (by omega)
    simp [e0, e1, e5, e7, hlt, hltP, hg, hg', hn, hn', ew]
    refine ⟨by decide, ?_⟩
    refine AWP.up mixed l.length (fun k fr h' => fr 0 = .ro (l.map encCap) ∧ fr 1 = .ro (ch.map encChg) ∧ fr 5 = .ro (P.map encN) ∧ fr 7 = .int .i64 i ∧ fr 8 = .ptr (h.length + g.length) 0 0 ∧ fr 10 = .int .i64 k ∧
      fr 9 = .bool ((n == x.cents) || (l.take k).any fun c => matchB c x && decide (totI c (perI c.days x.time) ch P = c.cents)) ∧ ∃ g2, h' = h ++ (g ++ .cells 7 [encChg x] :: g2)) 0 (by omega)
      ⟨by simp [e0], by simp [e1], by simp [e5], by simp [e7], by simp, by simp, by simp, [], by simp⟩ ?_
    clear e0 e1 e5 e7
    rintro k fr h' hk ⟨e0, e1, e5, e7, e8, e10, e9, g2, rfl⟩
    rcases Nat.lt_or_ge k l.length with hltk | hgek
    · obtain ⟨c, hc, hc'⟩ := get_lt hltk
      have ewk := wrap_succ' (i := k) (by omega)
      have htk : l.take (k + 1) = l.take k ++ [c] := by rw [List.take_add_one, hc]; rfl
      have hcm := List.mem_of_getElem? hc
      simp [e0, e1, e5, e7, e8, e9, e10, hltk, hc, hc', ewk]
      refine ⟨by decide, fun q1 q2 => ?_, fun q => ?_⟩
      · refine ⟨k + 1, by omega, by omega, by omega, ?_⟩
        have hm : matchB c x = false := by simp [matchB, q1, q2]
        rw [htk, List.any_append]
        simp [hm]
      · have hm : matchB c x = true := by
          simp only [matchB, Bool.or_eq_true, decide_eq_true_eq]
          by_cases hs : c.sys = []
          · exact .inl hs
          · exact .inr (q hs)
        refine ⟨by decide, ?_⟩
        refine callS.pure _ (fun _ => law_total hgl c ch P x.time hlen (by omega) hP) ?_
        simp [e0, e1, e5, e7, e8, e9, e10, hltk, hc, hc', ewk]
        have h3 := a3 c hcm hm
        refine ⟨h3, fun q3 => ⟨k + 1, by omega, by omega, by omega, ?_⟩⟩
        rw [htk, List.any_append]
        simp [hm, Bool.or_assoc]
        rfl
    · have hr : ((n == x.cents) || (l.take k).any fun c => matchB c x && decide (totI c (perI c.days x.time) ch P = c.cents)) = true := by
        rw [List.take_of_length_le hgek]
        rcases a4 with a4 | ⟨c, hc, hm, e⟩
        · simp [a4]
        · simp only [Bool.or_eq_true, List.any_eq_true, Bool.and_eq_true, decide_eq_true_eq]
          exact .inr ⟨c, hc, hm, e⟩
      rw [hr] at e9
      have n1 : ¬ n < 0 := by omega
      have n2 : ¬ x.cents < n := by omega
      simp [e0, e1, e5, e7, e8, e9, e10, Nat.not_lt.2 hgek, hltP, hn, hn', n1, n2, ew]
      refine ⟨by decide, ?_⟩
      exact ⟨i + 1, by omega, by omega, by omega⟩
  · simp [e0, e1, e5, e7, Nat.not_lt.2 hge]
    refine callS.pure _ (fun _ => law_alive hgl) ?_
    simp
end Go.Proofs.YtillfoacekifbaaDoor
