/-
  Contracts: the library's stable sort of any length (Seen).
-/
import Derived.Test.YtmnmbkcdjpidgaaSymmSeen
set_option linter.unusedVariables false
set_option linter.unusedSimpArgs false
set_option maxRecDepth 100000
namespace Go.Proofs.Ytmnmbkcdjpidgaa
open Go Go.Abs Go.Toll
variable {gl : Globs} {h : AHeap}

theorem insertionSort_Seen' (b : Nat) (P X Q : List (List AV)) (a z N : Nat) (hP : P.length = a) (hz : a + X.length = z) (hN : N = z + Q.length) (hl : N ≤ 1000000) (hb : b < h.length) (S : List (List AV)) (hn : ∀ e ∈ S, e.length = 11) (hS : ∀ e ∈ P ++ (X ++ Q), e ∈ S) (f : FuncId) (caps : List AV) (c : List AV → List AV → Int)
    (hc : ∀ x ∈ S, ∀ y ∈ S, ∀ o, ACalls Try.prog gl f (.agg x :: .agg y :: caps) (h.set b o) fun v h' => v = .int .i64 (c x y) ∧ h' = h.set b o) :
    ACalls Try.prog gl 58 [.own b 0 N, .int .i64 a, .int .i64 z, .fn (.func f) [] caps] (h.set b (.cells 11 (P ++ (X ++ Q))))
      fun v h' => v = .tup [] ∧ h' = h.set b (.cells 11 (P ++ (sortR (fun x y => decide (c x y < 0)) X ++ Q))) := by
  have hlen : (P ++ X ++ Q).length = N := by simp; omega
  have := insertionSort_Seen (gl := gl) (h := h) b P X Q hb (fun e he => hn e (hS e (by simpa using he))) (by omega) f caps c (fun x hx y hy o => hc x (hS x (by simp [hx])) y (hS y (by simp [hy])) o)
  rw [hlen, hP, hz] at this
  simpa using this
set_option maxHeartbeats 4000000 in
theorem stable_Seen (b : Nat) (seg : List (List AV)) (N : Nat) (hN : seg.length = N) (hl : N ≤ 400000) (hb : b < h.length) (hn : ∀ e ∈ seg, e.length = 11) (f : FuncId) (caps : List AV) (c : List AV → List AV → Int) (o : SWO (fun x y => decide (c x y < 0)))
    (hc : ∀ x ∈ seg, ∀ y ∈ seg, ∀ o, ACalls Try.prog gl f (.agg x :: .agg y :: caps) (h.set b o) fun v h' => v = .int .i64 (c x y) ∧ h' = h.set b o) :
    ACalls Try.prog gl 46 [.own b 0 N, .int .i64 N, .fn (.func f) [] caps] (h.set b (.cells 11 seg))
      fun v h' => v = .tup [] ∧ h' = h.set b (.cells 11 (sortR (fun x y => decide (c x y < 0)) seg)) := by
  refine ACalls.body Try.f46 _ mixed Try.func46 rfl rfl (by simp [Try.ntmps46]) ?_
  simp
  refine AWP.up mixed N (fun k fr h' => ∃ p q : Nat, p = 20 * k ∧ q = 20 * k + 20 ∧ p ≤ N ∧ fr 0 = .own b 0 N ∧ fr 1 = .int .i64 N ∧ fr 2 = .fn (.func f) [] caps ∧ fr 6 = .int .i64 (20 : Nat) ∧ fr 7 = .int .i64 p ∧ fr 8 = .int .i64 q ∧
    h' = h.set b (.cells 11 (hdB (fun x y => decide (c x y < 0)) 20 seg k ++ seg.drop (20 * k)))) 0 (by omega) ⟨0, 20, by omega, by omega, by omega, by simp, by simp, by simp, by simp, by simp, by simp, by simp [hdB]⟩ ?_
  rintro k fr h' hk ⟨p, q, hp, hq, hpN, e0, e1, e2, e6, e7, e8, rfl⟩
  have hhl : (hdB (fun x y => decide (c x y < 0)) 20 seg k).length = p := by rw [hdB_length (by omega), hp]
  rcases Nat.lt_or_ge N q with hlt | hge
  · have n1 : ¬ q ≤ N := by omega
    simp [e0, e1, e2, e6, e7, e8, n1]
    have := insertionSort_Seen' (gl := gl) (h := h) b (hdB (fun x y => decide (c x y < 0)) 20 seg k) (seg.drop (20 * k)) [] p N N hhl (by simp; omega) (by simp) (by omega) hb seg hn (fun e he => by
      simp at he
      rcases he with he | he
      · exact mem_hdB he
      · exact List.mem_of_mem_drop he) f caps c hc
    simp at this
    refine callS.any this ?_
    rintro v h' ⟨rfl, rfl⟩
    rw [hdB_last (by omega) (by simp; omega)]
    simp [e0, e1, e2, e6, e7, e8]
    refine AWP.down mixed (fun k fr h' => ∃ B : Nat, k = N - B ∧ 0 < B ∧ B ≤ N + N + 20 ∧ fr 0 = .own b 0 N ∧ fr 1 = .int .i64 N ∧ fr 2 = .fn (.func f) [] caps ∧ fr 6 = .int .i64 B ∧ h' = h.set b (.cells 11 (csA (fun x y => decide (c x y < 0)) B seg))) (N - 20) ⟨20, rfl, by omega, by omega, by simp [e0], by simp [e1], by simp [e2], by simp [e6], rfl⟩ ?_
    clear this e0 e1 e2 e6 e7 e8 hhl
    rintro k fr h' ⟨B, rfl, hB, hBN, e0, e1, e2, e6, rfl⟩
    rcases Nat.lt_or_ge B N with hlt2 | hge2
    · have w1 : IntKind.i64.wrap (2 * (B : Int)) = (2 * B : Nat) := by rw [wrap64_of (by omega) (by omega)]; omega
      obtain ⟨B2, hB2⟩ : ∃ B2, 2 * B = B2 := ⟨_, rfl⟩
      rw [hB2] at w1
      simp [e0, e1, e2, e6, hlt2, w1]
      refine AWP.down mixed (fun d fr h' => ∃ k p q : Nat, d = N - p ∧ p = B2 * k ∧ q = p + B2 ∧ p ≤ N ∧ fr 0 = .own b 0 N ∧ fr 1 = .int .i64 N ∧ fr 2 = .fn (.func f) [] caps ∧ fr 6 = .int .i64 B ∧ fr 7 = .int .i64 p ∧ fr 8 = .int .i64 q ∧
        h' = h.set b (.cells 11 (hdB (fun x y => decide (c x y < 0)) B2 seg k ++ csA (fun x y => decide (c x y < 0)) B (seg.drop (B2 * k))))) N ⟨0, 0, B2, by omega, by omega, by omega, by omega, by simp [e0], by simp [e1], by simp [e2], by simp [e6], by simp, by simp, by simp [hdB]⟩ ?_
      clear e0 e1 e2 e6
      rintro d fr h' ⟨k, p, q, rfl, hp, hq, hpN, e0, e1, e2, e6, e7, e8, rfl⟩
      have hhl : (hdB (fun x y => decide (c x y < 0)) B2 seg k).length = p := by rw [hdB_length (by omega), hp]
      have w2 : IntKind.i64.wrap ((p : Int) + B) = (p + B : Nat) := by rw [wrap64_of (by omega) (by omega)]; omega
      obtain ⟨m, hm⟩ : ∃ m, p + B = m := ⟨_, rfl⟩
      rw [hm] at w2
      have hmh : ∀ e, e ∈ hdB (fun x y => decide (c x y < 0)) B2 seg k → e ∈ seg := fun e he => mem_hdB he
      rcases Nat.lt_or_ge N q with hlt3 | hge3
      · have n1 : ¬ q ≤ N := by omega
        have hrl : (seg.drop (B2 * k)).length = N - p := by simp; omega
        have hfin : hdB (fun x y => decide (c x y < 0)) B2 seg k ++ sortR (fun x y => decide (c x y < 0)) (seg.drop (B2 * k)) = csA (fun x y => decide (c x y < 0)) B2 seg := hdB_last (by omega) (by omega)
        have w3 : IntKind.i64.wrap ((B : Int) * 2) = B2 := by rw [wrap64_of (by omega) (by omega)]; omega
        have hmr : ∀ e, e ∈ seg.drop (B2 * k) → e ∈ seg := fun e he => List.mem_of_mem_drop he
        generalize hdB (fun x y => decide (c x y < 0)) B2 seg k = H at *
        generalize seg.drop (B2 * k) = R at *
        rcases Nat.lt_or_ge m N with hlt4 | hge4
        · simp [e0, e1, e2, e6, e7, e8, n1, w2, hlt4]
          have hl1 : (R.take B).length = B := by simp; omega
          have hl2 : (R.drop B).length = N - m := by simp; omega
          have := symMerge_Seen (gl := gl) (h := h) b hb N (by omega) seg hn f caps c o hc (B + N) H (sortR (fun x y => decide (c x y < 0)) (R.take B)) (sortR (fun x y => decide (c x y < 0)) (R.drop B)) [] p m N (by simp only [sortR_length]; omega) (by simp only [sortR_length]; omega) (by simp only [sortR_length]; omega) (sortR_srt o _) (sortR_srt o _) hhl (by simp only [sortR_length]; omega) (by simp only [sortR_length]; omega) (by simp) (fun e he => by
            simp [mem_sortR] at he
            rcases he with he | he | he
            · exact hmh e he
            · exact hmr e (List.mem_of_mem_take he)
            · exact hmr e (List.mem_of_mem_drop he))
          rw [sortR_app o, List.take_append_drop, List.append_nil, List.append_nil, hfin] at this
          rw [csA_eq hB, csA_one hB (show (R.drop B).length ≤ B by omega)]
          refine callS.any this ?_
          rintro v h' ⟨rfl, rfl⟩
          simp [e0, e1, e2, e6, w3, w1]
          exact ⟨N - B2, by omega, B2, rfl, by omega, by omega, rfl, rfl⟩
        · have n2 : ¬ m < N := by omega
          simp [e0, e1, e2, e6, e7, e8, n1, w2, n2, w3, w1]
          exact ⟨N - B2, by omega, B2, rfl, by omega, by omega, rfl, by rw [csA_one hB (by omega), hfin]⟩
      · simp [e0, e1, e2, e6, e7, e8, hge3, w2]
        have hrl : (seg.drop (B2 * k)).length = N - p := by simp; omega
        have hnx : hdB (fun x y => decide (c x y < 0)) B2 seg (k + 1) = hdB (fun x y => decide (c x y < 0)) B2 seg k ++ sortR (fun x y => decide (c x y < 0)) ((seg.drop (B2 * k)).take B2) := rfl
        have hdr : seg.drop (B2 * (k + 1)) = (seg.drop (B2 * k)).drop B2 := by rw [List.drop_drop, Nat.mul_succ]
        have hkk : B2 * (k + 1) = q := by rw [Nat.mul_succ]; omega
        have hmr : ∀ e, e ∈ seg.drop (B2 * k) → e ∈ seg := fun e he => List.mem_of_mem_drop he
        have w4 : IntKind.i64.wrap ((q : Int) + B2) = (q + B2 : Nat) := by rw [wrap64_of (by omega) (by omega)]; omega
        generalize hdB (fun x y => decide (c x y < 0)) B2 seg k = H at *
        generalize seg.drop (B2 * k) = R at *
        have hl1 : (R.take B).length = B := by simp; omega
        have hl2 : ((R.drop B).take B).length = B := by simp; omega
        have hl3 : (csA (fun x y => decide (c x y < 0)) B (R.drop B2)).length = N - q := by rw [csA_length hB _ _ (Nat.le_refl _)]; simp; omega
        have := symMerge_Seen (gl := gl) (h := h) b hb N (by omega) seg hn f caps c o hc (B + B) H (sortR (fun x y => decide (c x y < 0)) (R.take B)) (sortR (fun x y => decide (c x y < 0)) ((R.drop B).take B)) (csA (fun x y => decide (c x y < 0)) B (R.drop B2)) p m q (by simp only [sortR_length]; omega) (by simp only [sortR_length]; omega) (by simp only [sortR_length]; omega) (sortR_srt o _) (sortR_srt o _) hhl (by simp only [sortR_length]; omega) (by simp only [sortR_length]; omega) (by rw [hl3]; omega) (fun e he => by
            simp only [List.mem_append, mem_sortR, mem_csA hB _ _ (Nat.le_refl _)] at he
            rcases he with he | he | he | he
            · exact hmh e he
            · exact hmr e (List.mem_of_mem_take he)
            · exact hmr e (List.mem_of_mem_drop (List.mem_of_mem_take he))
            · exact hmr e (List.mem_of_mem_drop he))
        rw [sortR_two o, hB2] at this
        rw [csA_two hB, hB2]
        refine callS.any this ?_
        rintro v h' ⟨rfl, rfl⟩
        simp [e0, e1, e2, e6, e7, e8, w1, w4]
        refine ⟨N - q, by omega, k + 1, q, rfl, hkk.symm, hge3, rfl, ?_⟩
        rw [hnx, hdr]; simp
    · have n1 : ¬ B < N := by omega
      simp [e0, e1, e2, e6, n1]
      rw [csA_one hB (by omega)]
  · simp [e0, e1, e2, e6, e7, e8, hge]
    have hl1 : ((seg.drop (20 * k)).take 20).length = 20 := by simp; omega
    have hdr : seg.drop (20 * k) = (seg.drop (20 * k)).take 20 ++ seg.drop (20 * (k + 1)) := by
      have := (List.take_append_drop 20 (seg.drop (20 * k))).symm
      rw [List.drop_drop] at this
      rwa [Nat.mul_succ]
    have := insertionSort_Seen' (gl := gl) (h := h) b (hdB (fun x y => decide (c x y < 0)) 20 seg k) ((seg.drop (20 * k)).take 20) (seg.drop (20 * (k + 1))) p q N hhl (by omega) (by simp; omega) (by omega) hb seg hn (fun e he => by
      simp only [List.mem_append] at he
      rcases he with he | he | he
      · exact mem_hdB he
      · exact List.mem_of_mem_drop (List.mem_of_mem_take he)
      · exact List.mem_of_mem_drop he) f caps c hc
    rw [← hdr] at this
    refine callS.any this ?_
    rintro v h' ⟨rfl, rfl⟩
    have w4 : IntKind.i64.wrap ((q : Int) + 20) = (q + 20 : Nat) := by rw [wrap64_of (by omega) (by omega)]; omega
    simp [e0, e1, e2, e6, e7, e8, w4]
    refine ⟨k + 1, by omega, by omega, by omega, by omega, ?_⟩
    simp [hdB]
theorem SortStable_Seen (b : Nat) (seg : List (List AV)) (N : Nat) (hN : seg.length = N) (hl : N ≤ 400000) (hb : b < h.length) (hn : ∀ e ∈ seg, e.length = 11) (f : FuncId) (caps : List AV) (c : List AV → List AV → Int) (o : SWO (fun x y => decide (c x y < 0)))
    (hc : ∀ x ∈ seg, ∀ y ∈ seg, ∀ o, ACalls Try.prog gl f (.agg x :: .agg y :: caps) (h.set b o) fun v h' => v = .int .i64 (c x y) ∧ h' = h.set b o) :
    ACalls Try.prog gl 32 [.own b 0 N, .fn (.func f) [] caps] (h.set b (.cells 11 seg))
      fun v h' => v = .tup [] ∧ h' = h.set b (.cells 11 (sortR (fun x y => decide (c x y < 0)) seg)) := by
  refine ACalls.body Try.f32 _ mixed Try.func32 rfl rfl (by simp [Try.ntmps32]) ?_
  simp
  refine callS.any (stable_Seen b seg N hN hl hb hn f caps c o hc) ?_
  rintro v h' ⟨rfl, rfl⟩
  simp
end Go.Proofs.Ytmnmbkcdjpidgaa
