/-
  Contracts: tables of costs.
-/
import Derived.Test.YtmnmbkcdjpidgaaScore
import Derived.Test.YtmnmbkcdjpidgaaTollMatrix
set_option linter.unusedVariables false
set_option linter.unusedSimpArgs false
set_option maxRecDepth 100000
namespace Go.Proofs.Ytmnmbkcdjpidgaa
open Go Go.Abs Go.Toll
variable {gl : Globs} {h : AHeap}

theorem score_constants (n : Nat) (v : Int) (hn : n ≤ 1000000) : ACalls Try.prog gl 57 [.int .i64 n, .int .i64 v] h fun x h' => x = .ro (List.replicate n [.int .i64 v]) ∧ h' = h := by
  refine ACalls.fresh (ACalls.body Try.f57 _ mixed Try.func57 rfl rfl (by simp [Try.ntmps57]) ?_)
  simp
  refine ⟨⟨by omega, by omega⟩, ?_⟩
  refine AWP.up mixed n (fun i fr h' => fr 1 = .int .i64 v ∧ fr 5 = .own h.length 0 n ∧ fr 10 = .int .i64 n ∧ fr 11 = .int .i64 i ∧ ∃ g, h' = h ++ .cells 1 (fillC (fun _ => [AV.int .i64 v]) zN n i) :: g) 0 (by omega) ⟨by simp, by simp, by simp, by simp, [], by rw [← fillC_zero]; rfl⟩ ?_
  rintro i fr h' hi ⟨e1, e5, e10, e11, g, rfl⟩
  rcases Nat.lt_or_ge i n with hlt | hge
  · have ew := wrap_succ' (i := i) (by omega)
    have hl := fillC_len (fun _ => [AV.int .i64 v]) zN (n := n) (i := i) (by omega)
    have ha := fillC_at (fun _ => [AV.int .i64 v]) zN (n := n) (i := i) (by omega)
    have ha' := (List.getElem?_eq_some_iff.1 ha).2
    simp [e1, e5, e10, e11, hlt, ew, hl, ha, ha', zN_len, zN_tail]
    exact ⟨i + 1, by omega, by omega, by omega, fillC_set (fun _ => [AV.int .i64 v]) zN hlt⟩
  obtain rfl : i = n := by omega
  simp [e1, e5, e10, e11]
  have hrep : (List.range i).map (fun _ => [AV.int .i64 v]) = List.replicate i [.int .i64 v] := by rw [List.map_const', List.length_range]
  rw [fillC_all, hrep]
  exact Frz.ownD (m := 1) (es := List.replicate i [AV.int .i64 v]) (by simp) (by omega) (by simp) (by rw [List.drop_zero, List.take_of_length_le (by simp)]) (by simp)
theorem score_Matrix1 (T Q : List (List TSeen)) (p q i k : Nat) (a b : List TSeen) (hp : h[p]? = some (.cells 1 [[encGs T]])) (hq : h[q]? = some (.cells 1 [[encGs Q]])) (ha : T[i]? = some a) (hb : Q[k]? = some b)
    (hal : a.length ≤ 1000) (hbl : b.length ≤ 1000) (ham : ∀ s ∈ a, mid s.time) (hbm : ∀ s ∈ b, mid s.time) :
    ACalls Try.prog gl 41 [.int .i64 i, .int .i64 k, .ptr p 0 0, .ptr q 0 0] h fun v h' => v = .int .i64 (crossI a b) ∧ h' = h := by
  refine ACalls.data (.int _ _) (ACalls.body Try.f41 _ mixed Try.func41 rfl rfl (by simp [Try.ntmps41]) ?_)
  have hT : i < T.length := (List.getElem?_eq_some_iff.1 ha).1
  have hQ : k < Q.length := (List.getElem?_eq_some_iff.1 hb).1
  have ha' := (List.getElem?_eq_some_iff.1 ha).2
  have hb' := (List.getElem?_eq_some_iff.1 hb).2
  have hpl := (List.getElem?_eq_some_iff.1 hp).1
  have hql := (List.getElem?_eq_some_iff.1 hq).1
  have hp' := (List.getElem?_eq_some_iff.1 hp).2
  have hq' := (List.getElem?_eq_some_iff.1 hq).2
  simp [hp, hp', hpl, encGs, hT, ha, ha']
  refine AWP.up mixed a.length (fun j fr h' => fr 1 = .int .i64 k ∧ fr 3 = .ptr q 0 0 ∧ fr 16 = .ro (a.map encSeen) ∧ fr 17 = .int .i64 a.length ∧ fr 18 = .int .i64 j ∧ (∃ c, fr 7 = .int .i64 c ∧ crossI a b = crossF c (a.drop j) b) ∧ ∃ g, h' = h ++ g) 0 (by omega)
    ⟨by simp, by simp, by simp, by simp, by simp, ⟨-1, by simp, by simp [crossI]⟩, [], by simp⟩ ?_
  rintro j fr h' hj ⟨e1, e3, e16, e17, e18, ⟨c, e7, hc⟩, g, rfl⟩
  have hq1 : (h ++ g)[q]? = some (.cells 1 [[encGs Q]]) := by rw [List.getElem?_append_left hql]; exact hq
  rcases Nat.lt_or_ge j a.length with hlt | hge
  · obtain ⟨s, hs, hs'⟩ := get_lt hlt
    rw [drop_get hs, crossF] at hc
    have ew := wrap_succ' (i := j) (by omega)
    simp [e1, e3, e16, e17, e18, e7, hlt, hs, hs', hq, hq', hql, encGs, hQ, hb, hb', ew]
    refine AWP.up mixed b.length (fun r fr h' => fr 1 = .int .i64 k ∧ fr 3 = .ptr q 0 0 ∧ fr 16 = .ro (a.map encSeen) ∧ fr 17 = .int .i64 a.length ∧ fr 18 = .int .i64 j ∧ fr 9 = .ptr (h.length + g.length) 0 0 ∧ fr 25 = .ro (b.map encSeen) ∧ fr 26 = .int .i64 b.length ∧ fr 27 = .int .i64 r ∧
      (∃ d, fr 7 = .int .i64 d ∧ rowF c s b = rowF d s (b.drop r)) ∧ ∃ g2, h' = h ++ (g ++ .cells 11 [encSeen s] :: g2)) 0 (by omega)
      ⟨by simp [e1], by simp [e3], by simp [e16], by simp [e17], by simp [e18], by simp, by simp, by simp, by simp, ⟨c, by simp [e7], by simp⟩, [], by simp⟩ ?_
    clear e1 e3 e16 e17 e18 e7
    rintro r fr h' hr ⟨e1, e3, e16, e17, e18, e9, e25, e26, e27, ⟨d, e7, hd⟩, g2, rfl⟩
    rcases Nat.lt_or_ge r b.length with hltr | hger
    · obtain ⟨t, ht, ht'⟩ := get_lt hltr
      rw [drop_get ht, rowF] at hd
      have ewr := wrap_succ' (i := r) (by omega)
      simp [e1, e3, e16, e17, e18, e9, e25, e26, e27, e7, hltr, ht, ht', ewr]
      refine callS.pure _ (fun _ => score_Pair s t (ham s (List.mem_of_getElem? hs)) (hbm t (List.mem_of_getElem? ht))) ?_
      simp [e1, e3, e16, e17, e18, e9, e25, e26, e27, e7, hltr, ht, ht', ewr]
      refine ⟨fun c1 => ⟨c1, fun c2 => ⟨c1, c2⟩⟩, fun c1 c2 => ⟨r + 1, by omega, by omega, by omega, ?_⟩, fun c1 => ⟨r + 1, by omega, by omega, by omega, ?_⟩⟩
      · rw [hd, stepI, if_pos ⟨c1, c2⟩]
      · rw [hd, stepI, if_neg (fun c2 => by have := c1 c2.1; omega)]
    · rw [List.drop_eq_nil_of_le hger, rowF] at hd
      simp [e1, e3, e16, e17, e18, e9, e25, e26, e27, e7, Nat.not_lt.2 hger, ew]
      exact ⟨j + 1, by omega, by omega, by omega, by rw [hc, hd]⟩
  · rw [List.drop_eq_nil_of_le hge, crossF] at hc
    simp [e1, e3, e16, e17, e18, e7, Nat.not_lt.2 hge, hc]
/-- A table: rows of costs, the rows' and the columns' own costs. -/
def encMat (rows : List (List Int)) (r c : List Int) : List AV := [.ro (rows.map fun w => [.ro (w.map fun n => [.int .i64 n])]), .ro (r.map fun n => [.int .i64 n]), .ro (c.map fun n => [.int .i64 n])]
end Go.Proofs.Ytmnmbkcdjpidgaa
