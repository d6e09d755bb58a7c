/-
  Contracts: plates, how far one is from another one.
-/
import Derived.Test.YtmnmbkcdjpidgaaLike
set_option linter.unusedVariables false
set_option linter.unusedSimpArgs false
set_option maxRecDepth 100000
namespace Go.Proofs.Ytmnmbkcdjpidgaa
open Go Go.Abs Go.Toll
variable {gl : Globs} {h : AHeap}

theorem plate_first (s : Bytes) : ACalls Try.prog gl 66 [.str s] h fun v h' => v = .str (cutB s) ∧ h' = h := by
  refine ACalls.body Try.f66 _ mixed Try.func66 rfl rfl (by simp [Try.ntmps66]) ?_
  simp
  refine ⟨⟨by omega, by omega⟩, ?_⟩
  rw [cutB]
  rcases Nat.lt_or_ge s.length 32 with hl | hl
  · rw [List.take_of_length_le (by omega), List.take_of_length_le (by omega)]
  · rw [show (min (s.length : Int) 32).toNat = 32 by omega]
theorem ref10_cut (s : Bytes) : ACalls Try.prog gl 68 [.str s] h fun v h' => v = .str (cutB s) ∧ h' = h := by
  refine ACalls.body Try.f68 _ mixed Try.func68 rfl rfl (by simp [Try.ntmps68]) ?_
  simp
  exact ⟨fun _ => ⟨by omega, rfl⟩, fun q => by rw [cutB, List.take_of_length_le (by omega)]⟩
theorem ref10_least (a b : Int) : ACalls Try.prog gl 70 [.int .i64 a, .int .i64 b] h fun v h' => v = .int .i64 (min a b) ∧ h' = h := by
  refine ACalls.body Try.f70 _ mixed Try.func70 rfl rfl (by simp [Try.ntmps70]) ?_
  simp
  exact ⟨fun _ => by omega, fun _ => by omega⟩
def rowD (a b : Bytes) (i k : Nat) : List AV := [.int .i64 (plD a b i k)]
def zI : List AV := [.int .i64 0]
theorem zI_len : zI.length = 1 := rfl
theorem zI_tail : zI.tail = [] := rfl
theorem zI_drop : zI.drop 1 = [] := rfl
theorem plate_Distance (a b : Bytes) : ACalls Try.prog gl 62 [.str a, .str b] h fun v h' => v = .int .i64 (plateD a b) ∧ h' = h := by
  refine ACalls.data (.int _ _) (ACalls.body Try.f62 _ mixed Try.func62 rfl rfl (by simp [Try.ntmps62]) ?_)
  simp
  refine callS.pure _ (fun _ => plate_first a) ?_
  simp
  refine callS.pure _ (fun _ => plate_first b) ?_
  have hA := cutB_len a
  have hB := cutB_len b
  have hP : plateD a b = plD (cutB a) (cutB b) (cutB a).length (cutB b).length := rfl
  rw [hP]
  generalize cutB a = A at *
  generalize cutB b = B at *
  obtain ⟨m, hm⟩ : ∃ m, m = B.length := ⟨_, rfl⟩
  obtain ⟨N, hN⟩ : ∃ N, N = m + 1 := ⟨_, rfl⟩
  have w1 : IntKind.i64.wrap ((m : Int) + 1) = (N : Int) := by rw [wrap64_of (by omega) (by omega)]; omega
  simp [← hm, w1]
  refine ⟨⟨by omega, by omega⟩, ?_⟩
  rw [fillC_zero (rowD A B 0)]
  refine AWP.up mixed N (fun i fr h' => fr 0 = .str A ∧ fr 1 = .str B ∧ fr 5 = .own h.length 0 N ∧ fr 20 = .int .i64 N ∧ fr 21 = .int .i64 i ∧ ∃ g, h' = h ++ .cells 1 (fillC (rowD A B 0) zI N i) :: g) 0 (by omega) ⟨by simp, by simp, by simp, by simp, by simp, [], by simp [zI]⟩ ?_
  rintro i fr h' hi ⟨e0, e1, e5, e20, e21, g, rfl⟩
  rcases Nat.lt_or_ge i N with hlt | hge
  · have ew := wrap_succ' (i := i) (by omega)
    have hl := fillC_len (rowD A B 0) zI (n := N) (i := i) (by omega)
    have ha := fillC_at (rowD A B 0) zI (n := N) (i := i) (by omega)
    have ha' := (List.getElem?_eq_some_iff.1 ha).2
    have w3 : IntKind.i64.wrap (3 * (i : Int)) = plD A B 0 i := by rw [plD, wrap64_of (by omega) (by omega)]
    simp [e0, e1, e5, e20, e21, hlt, ew, hl, ha, ha', w3, zI_len, zI_drop]
    exact ⟨i + 1, by omega, by omega, by omega, by rw [← fillC_set (rowD A B 0) zI hlt]; rfl⟩
  obtain rfl : i = N := by omega
  rw [fillC_all]
  simp [e0, e1, e5, e20, e21]
  obtain ⟨L, hL⟩ : ∃ L, L = A.length := ⟨_, rfl⟩
  rw [← hL]
  refine AWP.up mixed L (fun j fr h' => fr 0 = .str A ∧ fr 1 = .str B ∧ fr 31 = .int .i64 L ∧ fr 32 = .int .i64 j ∧ Rs 1 h' (fr 5) ((List.range i).map (rowD A B j)) ∧ ∃ g, h' = h ++ g) 0 (by omega)
    ⟨by simp [e0], by simp [e1], by simp, by simp, by simp [e5]; exact Rs.sub (b := h.length) (off := 0) (all := (List.range i).map (rowD A B 0)) (by simp) (by simp) (by rw [List.drop_zero, List.take_of_length_le (by simp)]) (by simp [rowD]), _, rfl⟩ ?_
  clear e0 e1 e5 e20 e21
  rintro j fr H hj ⟨e0, e1, e31, e32, rl, hG⟩
  obtain ⟨x, e5⟩ : ∃ x, fr 5 = x := ⟨_, rfl⟩
  rw [e5] at rl
  rcases Nat.lt_or_ge j L with hlt | hge
  · have ew := wrap_succ' (i := j) (by omega)
    obtain ⟨a1, hx, hx'⟩ := get_lt (l := A) (i := j) (by omega)
    have hltA : j < A.length := by omega
    have w4 : IntKind.i64.wrap (3 * ((j + 1 : Nat) : Int)) = plD A B (j + 1) 0 := by rw [plD, wrap64_of (by omega) (by omega)]
    have rx := rl.fix
    have hN0 : 0 < i := by omega
    simp only [Int.natCast_add, Int.cast_ofNat_Int] at ew w4
    simp [e0, e1, e31, e32, e5, hlt, ew, w4, ← hm, w1, rx, hN0]
    refine ⟨by omega, ?_⟩
    have hset : (List.replicate i [AV.int .i64 0]).set 0 [.int .i64 (plD A B (j + 1) 0)] = fillC (rowD A B (j + 1)) zI i 1 := by
      rw [← fillC_set (rowD A B (j + 1)) zI hN0, ← fillC_zero]; rfl
    rw [hset]
    refine AWP.up mixed m (fun k fr h' => fr 0 = .str A ∧ fr 1 = .str B ∧ fr 31 = .int .i64 L ∧ fr 32 = .int .i64 j ∧ fr 5 = x ∧ fr 7 = .int .i64 j ∧ fr 8 = .own H.length 0 i ∧ fr 45 = .int .i64 m ∧ fr 46 = .int .i64 k ∧
      ∃ g, h' = H ++ .cells 1 (fillC (rowD A B (j + 1)) zI i (k + 1)) :: g) 0 (by omega)
      ⟨by simp [e0], by simp [e1], by simp [e31], by simp [e32], by simp [e5], by simp, by simp, by simp, by simp, [], by simp⟩ ?_
    clear e0 e1 e5 e31 e32
    rintro k fr h' hk ⟨e0, e1, e31, e32, e5, e7, e8, e45, e46, g, rfl⟩
    rcases Nat.lt_or_ge k m with hltk | hgek
    · obtain ⟨b1, hy, hy'⟩ := get_lt (l := B) (i := k) (by omega)
      have hltB : k < B.length := by omega
      have hltN : k < i := by omega
      have hltN1 : k + 1 < i := by omega
      have ewk := wrap_succ' (i := k) (by omega)
      have hl := fillC_len (rowD A B (j + 1)) zI (n := i) (i := k + 1) (by omega)
      have ha := fillC_at (rowD A B (j + 1)) zI (n := i) (i := k + 1) (by omega)
      have ha' := (List.getElem?_eq_some_iff.1 ha).2
      have hb := fillC_old (rowD A B (j + 1)) zI (n := i) (i := k + 1) (k := k) (by omega)
      have hb' := (List.getElem?_eq_some_iff.1 hb).2
      have rx1 := fun g => Rs.ix Try.prog (rl.append g) k (by omega) (y := rowD A B j k) (by simp [hltN])
      have rx2 := fun g => Rs.ix Try.prog (rl.append g) ((k : Int) + 1) (by omega) (y := rowD A B j (k + 1)) (by rw [show ((k : Int) + 1).toNat = k + 1 by omega]; simp [hltN1])
      have rx10 := rx1 []
      have rx20 := rx2 []
      have hst := fillC_set (rowD A B (j + 1)) zI hltN1
      have hmin2 : ∀ p q r : Int, min p (min q r) + 3 = min (p + 3) (min (q + 3) (r + 3)) := fun p q r => by omega
      have hmin : ∀ p q r : Int, min p (min q r + 3) = min p (min (q + 3) (r + 3)) := fun p q r => by omega
      have r1 := plD_range A B j k
      have r2 := plD_range A B j (k + 1)
      have r3 := plD_range A B (j + 1) k
      have w5 : IntKind.i64.wrap (plD A B j k) = plD A B j k := wrap64_of (by omega) (by omega)
      have w6 : IntKind.i64.wrap (plD A B j (k + 1) + 3) = plD A B j (k + 1) + 3 := wrap64_of (by omega) (by omega)
      have w7 : IntKind.i64.wrap (plD A B (j + 1) k + 3) = plD A B (j + 1) k + 3 := wrap64_of (by omega) (by omega)
      have w8 : IntKind.i64.wrap (plD A B j k + 1) = plD A B j k + 1 := wrap64_of (by omega) (by omega)
      have w9 : IntKind.i64.wrap (plD A B j k + 3) = plD A B j k + 3 := wrap64_of (by omega) (by omega)
      have h6 : plD A B (j + 1) (k + 1) = min (plD A B j k + plC a1 b1) (min (plD A B j (k + 1) + 3) (plD A B (j + 1) k + 3)) := by
        rw [plD, List.getD_eq_getElem?_getD, List.getD_eq_getElem?_getD, hx, hy]; rfl
      simp only [Int.natCast_add, Int.cast_ofNat_Int] at ewk
      simp [e0, e1, e31, e32, e5, e7, e8, e45, e46, hltk, hltB, hltN, hltN1, hltA, hx, hx', hy, hy', u8eq]
      refine ⟨by decide, ?_, ?_⟩
      · intro q
        simp [e0, e1, e31, e32, e5, e7, e8, e45, e46, hltk, hltB, hltN, hltN1, hltA, hx, hx', hy, hy', u8eq, ewk, hl, ha, ha', hb, hb', rx, rx1, rx2, rx10, rx20, rowD, zI_len, zI_drop, zI_tail, w5, w6, w7, w8]
        refine ⟨by decide, by omega, ⟨by omega, by omega⟩, k + 1, by omega, by omega, by omega, ?_⟩
        rw [← hst, rowD, h6, plC, if_pos q, Int.add_zero, hmin]
      · intro q
        refine ⟨by decide, ?_⟩
        refine callS.pure _ (fun _ => plate_Like a1 b1) ?_
        simp [e0, e1, e31, e32, e5, e7, e8, e45, e46, hltk, hltB, hltN, hltN1, hltA, hx, hx', hy, hy', u8eq, ewk, hl, ha, ha', hb, hb', rx, rx1, rx2, rx10, rx20, rowD, zI_len, zI_drop, zI_tail, w5, w6, w7, w8, w9]
        refine ⟨fun ql => ⟨by decide, by omega, ⟨by omega, by omega⟩, k + 1, by omega, by omega, by omega, ?_⟩, fun ql => ⟨by decide, by omega, ⟨by omega, by omega⟩, k + 1, by omega, by omega, by omega, ?_⟩⟩
        · rw [← hst, rowD, h6, plC, if_neg q, if_pos ql, hmin]
        · rw [← hst, rowD, h6, plC, if_neg q, if_neg (by rw [ql]; simp), hmin2]
    · obtain rfl : k = m := by omega
      simp [e0, e1, e31, e32, e5, e7, e8, e45, e46, ew]
      refine ⟨j + 1, by omega, by omega, by omega, ?_, ?_⟩
      · rw [← hN, fillC_all]
        exact Rs.sub (b := H.length) (off := 0) (all := (List.range i).map (rowD A B (j + 1))) (by simp) (by simp) (by rw [List.drop_zero, List.take_of_length_le (by simp)]) (by simp [rowD])
      · obtain ⟨gg, rfl⟩ := hG
        exact ⟨_, List.append_assoc _ _ _⟩
  obtain rfl : j = L := by omega
  have hm1 : m < i := by omega
  have rx := Rs.ix Try.prog rl m (by omega) (y := rowD A B j m) (by simp [hm1])
  have hgd := rl.fix
  simp [e0, e1, e31, e32, e5, hgd, rx, ← hm, rowD]
  exact hG
end Go.Proofs.Ytmnmbkcdjpidgaa
