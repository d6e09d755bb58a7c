/-
  Contracts: the library's stable sort of more than one block (Seen).
-/
import Derived.Test.YtmnmbkcdjpidgaaSortSeen
import Derived.Test.YtmnmbkcdjpidgaaAbsSort
set_option linter.unusedVariables false
set_option linter.unusedSimpArgs false
set_option maxRecDepth 100000
namespace Go.Proofs.Ytmnmbkcdjpidgaa
open Go Go.Abs Go.Toll
variable {gl : Globs} {h : AHeap}

set_option maxHeartbeats 1000000 in
theorem swapRange_Seen (b : Nat) (P U M V Q : List (List AV)) (p q n N : Nat) (hp : P.length = p) (hq : p + U.length + M.length = q) (hU : U.length = n) (hV : V.length = n) (hN : N = q + V.length + Q.length) (hl : N ≤ 1000000)
    (hb : b < h.length) (hn : ∀ e ∈ P ++ (U ++ (M ++ (V ++ Q))), e.length = 11) (f : FuncId) (caps : List AV) :
    ACalls Try.prog gl 71 [.own b 0 N, .int .i64 p, .int .i64 q, .int .i64 n, .fn (.func f) [] caps] (h.set b (.cells 11 (P ++ (U ++ (M ++ (V ++ Q))))))
      fun v h' => v = .tup [] ∧ h' = h.set b (.cells 11 (P ++ (V ++ (M ++ (U ++ Q))))) := by
  refine ACalls.body Try.f71 _ mixed Try.func71 rfl rfl (by simp [Try.ntmps71]) ?_
  simp
  refine AWP.up mixed n (fun i fr h' => fr 0 = .own b 0 N ∧ fr 1 = .int .i64 p ∧ fr 2 = .int .i64 q ∧ fr 3 = .int .i64 n ∧ fr 10 = .int .i64 i ∧
    ∃ all, h' = h.set b (.cells 11 all) ∧ all = (P ++ V.take i) ++ (U.drop i ++ (M ++ (U.take i ++ (V.drop i ++ Q))))) 0 (by omega) ⟨by simp, by simp, by simp, by simp, by simp, _, rfl, by simp⟩ ?_
  rintro i fr h' hi ⟨e0, e1, e2, e3, e10, all, rfl, hall⟩
  rcases Nat.lt_or_ge i n with hlt | hge
  · obtain ⟨u, hu, hu'⟩ := get_lt (l := U) (i := i) (by omega)
    obtain ⟨v, hv, hv'⟩ := get_lt (l := V) (i := i) (by omega)
    have hall' : all = (P ++ V.take i) ++ u :: ((U.drop (i + 1) ++ (M ++ U.take i)) ++ v :: (V.drop (i + 1) ++ Q)) := by
      rw [hall, drop_get hu, drop_get hv]; simp
    have hA : (P ++ V.take i).length = p + i := by simp; omega
    have hB : (P ++ V.take i).length + 1 + (U.drop (i + 1) ++ (M ++ U.take i)).length = q + i := by simp; omega
    have g1 := at1 (P ++ V.take i) (U.drop (i + 1) ++ (M ++ U.take i)) (V.drop (i + 1) ++ Q) u v
    have g2 := at2 (P ++ V.take i) (U.drop (i + 1) ++ (M ++ U.take i)) (V.drop (i + 1) ++ Q) u v
    have g3 := set2 (P ++ V.take i) (U.drop (i + 1) ++ (M ++ U.take i)) (V.drop (i + 1) ++ Q) u v
    rw [← hall', hA] at g1
    rw [hB, ← hall'] at g2
    rw [hB, ← hall', hA] at g3
    have hal : all.length = N := by rw [hall']; simp; omega
    have huO := hn u (by simp [List.mem_of_getElem? hu])
    have hu5 : u.length = 11 := huO
    have hvO := hn v (by simp [List.mem_of_getElem? hv])
    have hv5 : v.length = 11 := hvO
    have w1 : IntKind.i64.wrap ((p : Int) + i) = ((p + i : Nat) : Int) := by rw [wrap64_of (by omega) (by omega)]; omega
    have w2 : IntKind.i64.wrap ((q : Int) + i) = ((q + i : Nat) : Int) := by rw [wrap64_of (by omega) (by omega)]; omega
    have ew := wrap_succ' (i := i) (by omega)
    have hnx : (all.set (p + i) v).set (q + i) u = (P ++ V.take (i + 1)) ++ (U.drop (i + 1) ++ (M ++ (U.take (i + 1) ++ (V.drop (i + 1) ++ Q)))) := by
      rw [g3, List.take_add_one, List.take_add_one, hu, hv]; simp
    clear g3 hall' hall hA hB
    have q1 : p + i < q + i := by omega
    have q2 : q + i < N := by omega
    generalize hp' : p + i = pi at *
    generalize hq' : q + i = qi at *
    have q3 : ¬ pi = qi := by omega
    have q4 : ¬ qi = pi := by omega
    have tu : u.take 11 = u := List.take_of_length_le (by omega)
    have tv : v.take 11 = v := List.take_of_length_le (by omega)
    have du : u.drop 11 = [] := List.drop_eq_nil_of_le (by omega)
    have dv : v.drop 11 = [] := List.drop_eq_nil_of_le (by omega)
    simp [e0, e1, e2, e3, e10, hlt, w1, w2, g1, g2, hb, hu5, hv5, tu, tv, du, dv, hal, ew, hnx, q3, q4]
    exact ⟨by decide, by omega, by omega, by omega, i + 1, by omega, by omega, by omega, rfl⟩
  · simp [e0, e1, e2, e3, e10, Nat.not_lt.2 hge, hall]
    rw [List.take_of_length_le (by omega), List.drop_eq_nil_of_le (by omega), List.drop_eq_nil_of_le (by omega), List.take_of_length_le (by omega)]; simp
set_option maxHeartbeats 1000000 in
theorem rotate_Seen (b : Nat) (P U V Q : List (List AV)) (p m z N : Nat) (hp : P.length = p) (hm : p + U.length = m) (hz : m + V.length = z) (hN : N = z + Q.length) (hl : N ≤ 1000000) (hU : 0 < U.length) (hV : 0 < V.length)
    (hb : b < h.length) (hn : ∀ e ∈ P ++ (U ++ (V ++ Q)), e.length = 11) (f : FuncId) (caps : List AV) :
    ACalls Try.prog gl 65 [.own b 0 N, .int .i64 p, .int .i64 m, .int .i64 z, .fn (.func f) [] caps] (h.set b (.cells 11 (P ++ (U ++ (V ++ Q)))))
      fun v h' => v = .tup [] ∧ h' = h.set b (.cells 11 (P ++ (V ++ (U ++ Q)))) := by
  refine ACalls.body Try.f65 _ mixed Try.func65 rfl rfl (by simp [Try.ntmps65]) ?_
  have w1 : IntKind.i64.wrap ((m : Int) - p) = U.length := by rw [wrap64_of (by omega) (by omega)]; omega
  have w2 : IntKind.i64.wrap ((z : Int) - m) = V.length := by rw [wrap64_of (by omega) (by omega)]; omega
  simp [w1, w2]
  refine AWP.down mixed (fun k fr h' => ∃ (P' U' V' Q' : List (List AV)) (u v : Nat), U'.length = u ∧ V'.length = v ∧ fr 0 = .own b 0 N ∧ fr 2 = .int .i64 m ∧ fr 4 = .fn (.func f) [] caps ∧ fr 10 = .int .i64 u ∧ fr 11 = .int .i64 v ∧
    P'.length + u = m ∧ 0 < u ∧ 0 < v ∧ k = u + v ∧ N = m + v + Q'.length ∧ (∀ e ∈ P' ++ (U' ++ (V' ++ Q')), e.length = 11) ∧
    h' = h.set b (.cells 11 (P' ++ (U' ++ (V' ++ Q')))) ∧ P ++ (V ++ (U ++ Q)) = P' ++ (V' ++ (U' ++ Q'))) (U.length + V.length) ⟨P, U, V, Q, _, _, rfl, rfl, by simp, by simp, by simp, by simp, by simp, by omega, hU, hV, rfl, by omega, hn, rfl, rfl⟩ ?_
  rintro k fr h' ⟨P', U', V', Q', u, v, hu, hv, e0, e2, e4, e10, e11, hm', hU', hV', rfl, hN', hn', rfl, hT⟩
  generalize hp' : P'.length = p' at *
  have w3 : IntKind.i64.wrap ((m : Int) - u) = p' := by rw [wrap64_of (by omega) (by omega)]; omega
  clear w1 w2
  rcases Nat.lt_trichotomy u v with hlt | heq | hgt
  · have n1 : ¬ (u : Int) = v := by omega
    have n2 : ¬ v < u := by omega
    have eV : V' = V'.take (v - u) ++ V'.drop (v - u) := (List.take_append_drop _ _).symm
    have l1 : (V'.take (v - u)).length = v - u := by simp; omega
    have l2 : (V'.drop (v - u)).length = u := by simp; omega
    generalize V'.take (v - u) = V1 at *
    generalize V'.drop (v - u) = V2 at *
    subst eV
    have w4 : IntKind.i64.wrap (IntKind.i64.wrap ((m : Int) + v) - u) = (m + v - u : Nat) := by
      rw [wrap64_of (n := (m : Int) + v) (by omega) (by omega), wrap64_of (by omega) (by omega)]; omega
    have w5 : IntKind.i64.wrap ((v : Int) - u) = (v - u : Nat) := by rw [wrap64_of (by omega) (by omega)]; omega
    have hmv : p' + U'.length + V1.length = m + v - u := by omega
    have hNv : N = m + v - u + V2.length + Q'.length := by omega
    generalize m + v - u = mv at *
    generalize v - u = vu at *
    simp [e0, e2, e4, e10, e11, n1, n2, w3, w4, w5]
    have := swapRange_Seen (gl := gl) (h := h) b P' U' V1 V2 Q' p' mv u N hp' hmv hu l2 hNv hl hb (by simpa using hn') f caps
    refine callS.any this ?_
    rintro v' h' ⟨rfl, rfl⟩
    simp [e0, e2, e4, e10, e11, n1, n2, w3, w4, w5]
    refine ⟨u + vu, by omega, P', V2, by omega, V1, by omega, by omega, by omega, by omega, by omega, U' ++ Q', by simp; omega, ?_, by simp, by rw [hT]; simp⟩
    intro e he
    refine hn' e ?_
    simp at he ⊢
    rcases he with h | h | h | h | h <;> simp [h]
  · subst heq
    simp [e0, e2, e4, e10, e11, w3]
    have := swapRange_Seen (gl := gl) (h := h) b P' U' [] V' Q' p' m u N hp' (by simp; omega) hu hv (by omega) hl hb (by simpa using hn') f caps
    refine callS.any this ?_
    rintro v h' ⟨rfl, rfl⟩
    simp [hT]
  · have n1 : ¬ (u : Int) = v := by omega
    have eU : U' = U'.take v ++ U'.drop v := (List.take_append_drop _ _).symm
    have l1 : (U'.take v).length = v := by simp; omega
    have l2 : (U'.drop v).length = u - v := by simp; omega
    generalize U'.take v = U1 at *
    generalize U'.drop v = U2 at *
    subst eU
    have w5 : IntKind.i64.wrap ((u : Int) - v) = (u - v : Nat) := by rw [wrap64_of (by omega) (by omega)]; omega
    generalize huv : u - v = uv at *
    simp [e0, e2, e4, e10, e11, n1, hgt, w3, w5]
    have := swapRange_Seen (gl := gl) (h := h) b P' U1 U2 V' Q' p' m v N hp' (by omega) l1 hv (by omega) hl hb (by simpa using hn') f caps
    refine callS.any this ?_
    rintro v' h' ⟨rfl, rfl⟩
    simp [e0, e2, e4, e10, e11, n1, w3, w5]
    refine ⟨uv + v, by omega, P' ++ V', U2, by omega, U1, by omega, by simp; omega, by omega, by omega, by omega, Q', by omega, ?_, by simp, by rw [hT]; simp⟩
    intro e he
    refine hn' e ?_
    simp at he ⊢
    rcases he with (h | h) | h | h | h <;> simp [h]
end Go.Proofs.Ytmnmbkcdjpidgaa
