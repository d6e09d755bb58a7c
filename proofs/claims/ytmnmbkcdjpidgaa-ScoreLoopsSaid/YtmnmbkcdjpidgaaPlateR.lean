/-
  Contracts: plates, how far one is from another one: the other telling.
-/
import Derived.Test.YtmnmbkcdjpidgaaPlate
set_option linter.unusedVariables false
set_option linter.unusedSimpArgs false
set_option maxRecDepth 100000
namespace Go.Proofs.Ytmnmbkcdjpidgaa
open Go Go.Abs Go.Toll
variable {gl : Globs} {h : AHeap}

theorem ref10_Distance (a b : Bytes) : ACalls Try.prog gl 64 [.str a, .str b] h fun v h' => v = .int .i64 (plateD a b) ∧ h' = h := by
  refine ACalls.data (.int _ _) (ACalls.body Try.f64 _ mixed Try.func64 rfl rfl (by simp [Try.ntmps64]) ?_)
  simp
  refine callS.pure _ (fun _ => ref10_cut a) ?_
  simp
  refine callS.pure _ (fun _ => ref10_cut b) ?_
  have hA := cutB_len a
  have hB := cutB_len b
  have hP : plateD a b = plD (cutB a) (cutB b) (cutB a).length (cutB b).length := rfl
  rw [hP]
  generalize cutB a = A at *
  generalize cutB b = B at *
  obtain ⟨m, hm⟩ : ∃ m, m = B.length := ⟨_, rfl⟩
  obtain ⟨L, hL⟩ : ∃ L, L = A.length := ⟨_, rfl⟩
  simp [← hm, ← hL]
  refine AWP.up mixed (m + 1) (fun k fr h' => fr 5 = .str A ∧ fr 6 = .str B ∧ fr 8 = .int .i64 k ∧ Ls 1 h.length h' (fr 7) ((List.range k).map (rowD A B 0)) ∧ ∃ g, h' = h ++ g) 0 (by omega)
    ⟨by simp, by simp, by simp, by simp; exact Ls.nil, [], by simp⟩ ?_
  rintro k fr h' hk ⟨e5, e6, e8, hLs, g, rfl⟩
  obtain ⟨x, e7⟩ : ∃ x, fr 7 = x := ⟨_, rfl⟩
  rw [e7] at hLs
  have hf := hLs.rs.fix
  rcases Nat.lt_or_ge k (m + 1) with hlt | hge
  · have ew := wrap_succ' (i := k) (by omega)
    have hle : k ≤ m := by omega
    have w3 : IntKind.i64.wrap (3 * (k : Int)) = plD A B 0 k := by rw [plD, wrap64_of (by omega) (by omega)]
    simp [-appendOk, -appendK, e5, e6, e8, e7, ← hm, hle, w3, hf]
    refine append_ls (lo := h.length) (n := 1) (es := (List.range k).map (rowD A B 0)) (ys := [rowD A B 0 k]) (by simpa using hLs.more [.cells 1 [[.int .i64 (plD A B 0 k)]]]) (by simp) (by simp [appOk, rowD]) (by simp; omega) ?_
    intro s' h'' hs' hgr
    obtain ⟨g3, rfl⟩ := hgr.base h (by simp) ⟨_, by simp; rfl⟩
    simp [e5, e6, e8, ew, hs'.core, hs'.gd]
    exact ⟨k + 1, by omega, by omega, by omega, by rw [List.range_succ, List.map_append]; exact hs'⟩
  obtain rfl : k = m + 1 := by omega
  have hn0 : ¬ ((m : Int) + 1 ≤ m) := by omega
  simp [e5, e6, e8, e7, ← hm, hn0]
  refine AWP.up mixed L (fun j fr h' => fr 5 = .str A ∧ fr 6 = .str B ∧ fr 9 = .int .i64 (j + 1 : Nat) ∧ Rs 1 h' (fr 7) ((List.range (m + 1)).map (rowD A B j)) ∧ ∃ g, h' = h ++ g) 0 (by omega)
    ⟨by simp [e5], by simp [e6], by simp, by simp [e7]; exact hLs.rs, _, rfl⟩ ?_
  clear e5 e6 e8 e7 hLs hf hn0
  rintro j fr H hj ⟨e5, e6, e9, rl, hG⟩
  obtain ⟨x, e7⟩ : ∃ x, fr 7 = x := ⟨_, rfl⟩
  rw [e7] at rl
  have rx := rl.fix
  rcases Nat.lt_or_ge j L with hlt | hge
  · have ew : IntKind.i64.wrap ((j + 1 : Nat) + 1 : Int) = ((j + 1 + 1 : Nat) : Int) := by rw [wrap64_of (by omega) (by omega)]; omega
    obtain ⟨a1, hx, hx'⟩ := get_lt (l := A) (i := j) (by omega)
    have hltA : j < A.length := by omega
    have hle : j + 1 ≤ L := by omega
    have w4 : IntKind.i64.wrap (3 * ((j + 1 : Nat) : Int)) = plD A B (j + 1) 0 := by rw [plD, wrap64_of (by omega) (by omega)]
    have w1 : IntKind.i64.wrap (((j + 1 : Nat) : Int) - 1) = (j : Int) := by rw [wrap64_of (by omega) (by omega)]; omega
    simp [-Int.natCast_add, e5, e6, e7, e9, ← hL, hle, w4]
    refine AWP.up mixed m (fun k fr h' => fr 5 = .str A ∧ fr 6 = .str B ∧ fr 7 = x ∧ fr 9 = .int .i64 (j + 1 : Nat) ∧ fr 11 = .int .i64 (k + 1 : Nat) ∧ Ls 1 H.length h' (fr 10) ((List.range (k + 1)).map (rowD A B (j + 1))) ∧ ∃ g, h' = H ++ g) 0 (by omega)
      ⟨by simp [e5], by simp [e6], by simp [e7], by simp [e9], by simp, by simp; exact Ls.own (b := H.length) (es := [rowD A B (j + 1) 0]) (by simp [rowD]) (by omega) rfl (by simp [rowD]), _, by simp; rfl⟩ ?_
    clear e5 e6 e7 e9
    rintro k fr h' hk ⟨e5, e6, e7, e9, e11, hLs, g, rfl⟩
    obtain ⟨y, e10⟩ : ∃ y, fr 10 = y := ⟨_, rfl⟩
    rw [e10] at hLs
    have hf := hLs.rs.fix
    rcases Nat.lt_or_ge k m with hltk | hgek
    · obtain ⟨b1, hy, hy'⟩ := get_lt (l := B) (i := k) (by omega)
      have hltB : k < B.length := by omega
      have hlek : k + 1 ≤ m := by omega
      have ewk : IntKind.i64.wrap ((k + 1 : Nat) + 1 : Int) = ((k + 1 + 1 : Nat) : Int) := by rw [wrap64_of (by omega) (by omega)]; omega
      have wk1 : IntKind.i64.wrap (((k + 1 : Nat) : Int) - 1) = (k : Int) := by rw [wrap64_of (by omega) (by omega)]; omega
      have rx1 := fun g => Rs.ix Try.prog (rl.append g) k (by omega) (y := rowD A B j k) (by simp [show k < m + 1 by omega])
      have rx2 := fun g => Rs.ix Try.prog (rl.append g) (k + 1 : Nat) (by omega) (y := rowD A B j (k + 1)) (by rw [Int.toNat_natCast]; simp [show k + 1 < m + 1 by omega])
      have rn := Rs.ix Try.prog hLs.rs k (by omega) (y := rowD A B (j + 1) k) (by simp)
      have rx10 := rx1 []
      have rx20 := rx2 []
      have hmin2 : ∀ p q r : Int, min p (min q r) + 3 = min (p + 3) (min (q + 3) (r + 3)) := fun p q r => by omega
      have hmin : ∀ p q r : Int, min p (min q r + 3) = min p (min (q + 3) (r + 3)) := fun p q r => by omega
      have r1 := plD_range A B j k
      have r2 := plD_range A B j (k + 1)
      have r3 := plD_range A B (j + 1) k
      have w5 : IntKind.i64.wrap (plD A B j k) = plD A B j k := wrap64_of (by omega) (by omega)
      have w6 : IntKind.i64.wrap (min (plD A B j (k + 1)) (plD A B (j + 1) k) + 3) = min (plD A B j (k + 1)) (plD A B (j + 1) k) + 3 := wrap64_of (by omega) (by omega)
      have w8 : IntKind.i64.wrap (plD A B j k + 1) = plD A B j k + 1 := wrap64_of (by omega) (by omega)
      have w9 : IntKind.i64.wrap (plD A B j k + 3) = plD A B j k + 3 := wrap64_of (by omega) (by omega)
      have h6 : plD A B (j + 1) (k + 1) = min (plD A B j k + plC a1 b1) (min (plD A B j (k + 1)) (plD A B (j + 1) k) + 3) := by
        rw [hmin, plD, List.getD_eq_getElem?_getD, List.getD_eq_getElem?_getD, hx, hy]; rfl
      simp [-Int.natCast_add, e5, e6, e7, e9, e10, e11, ← hm, hlek, w1, wk1, hltB, hltA, hx, hx', hy, hy', u8eq]
      refine ⟨by decide, by omega, fun q => ?_, fun q => ?_⟩
      · simp [-appendOk, -appendK, -Int.natCast_add, e5, e6, e7, e9, e10, e11, ← hm, hlek, w1, wk1, hltB, hltA, hx, hx', hy, hy', u8eq, rx, rx1, rx2, rx10, rx20, rn, hf, rowD, w5, w6, w8, w9]
        refine ⟨by decide, ?_⟩
        refine callS.pure _ (fun _ => ref10_least _ _) ?_
        simp [-appendOk, -appendK, -Int.natCast_add, e5, e6, e7, e9, e10, e11, ← hm, hlek, w1, wk1, hltB, hltA, hx, hx', hy, hy', u8eq, rx, rx1, rx2, rx10, rx20, rn, hf, rowD, w5, w6, w8, w9]
        refine callS.pure _ (fun _ => ref10_least _ _) ?_
        simp [-appendOk, -appendK, -Int.natCast_add, e5, e6, e7, e9, e10, e11, ← hm, hlek, w1, wk1, hltB, hltA, hx, hx', hy, hy', u8eq, rx, rx1, rx2, rx10, rx20, rn, hf, rowD, w5, w6, w8, w9]
        have ev : min (plD A B j k) (min (plD A B j (k + 1)) (plD A B (j + 1) k) + 3) = plD A B (j + 1) (k + 1) := by rw [h6, plC, if_pos q, Int.add_zero]
        rw [ev]
        refine append_ls (lo := H.length) (n := 1) (es := (List.range (k + 1)).map (rowD A B (j + 1))) (ys := [rowD A B (j + 1) (k + 1)]) (by simpa using hLs.more [.cells 1 [[.int .i64 (plD A B (j + 1) (k + 1))]]]) (by simp) (by simp [appOk, rowD]) (by simp; omega) ?_
        intro s' h'' hs' hgr
        obtain ⟨g3, rfl⟩ := hgr.base H (by simp) ⟨_, by simp; rfl⟩
        simp [-Int.natCast_add, e5, e6, e7, e9, e11, ewk, hs'.core, hs'.gd]
        exact ⟨k + 1, by omega, by omega, by omega, by rw [List.range_succ, List.map_append]; exact hs'⟩
      · refine ⟨by decide, by omega, ?_⟩
        refine callS.pure _ (fun _ => ref10_Like a1 b1) ?_
        simp [-appendOk, -appendK, -Int.natCast_add, e5, e6, e7, e9, e10, e11, ← hm, hlek, w1, wk1, hltB, hltA, hx, hx', hy, hy', u8eq, rx, rx1, rx2, rx10, rx20, rn, hf, rowD, w5, w6, w8, w9]
        refine ⟨fun ql => ?_, fun ql => ?_⟩
        · have ev : min (plD A B j k + 1) (min (plD A B j (k + 1)) (plD A B (j + 1) k) + 3) = plD A B (j + 1) (k + 1) := by rw [h6, plC, if_neg q, if_pos ql]
          refine ⟨by decide, ?_⟩
          refine callS.pure _ (fun _ => ref10_least _ _) ?_
          simp [-appendOk, -appendK, -Int.natCast_add, e5, e6, e7, e9, e10, e11, ← hm, hlek, w1, wk1, hltB, hltA, hx, hx', hy, hy', u8eq, rx, rx1, rx2, rx10, rx20, rn, hf, rowD, w5, w6, w8, w9]
          refine callS.pure _ (fun _ => ref10_least _ _) ?_
          simp [-appendOk, -appendK, -Int.natCast_add, e5, e6, e7, e9, e10, e11, ← hm, hlek, w1, wk1, hltB, hltA, hx, hx', hy, hy', u8eq, rx, rx1, rx2, rx10, rx20, rn, hf, rowD, w5, w6, w8, w9]
          rw [ev]
          refine append_ls (lo := H.length) (n := 1) (es := (List.range (k + 1)).map (rowD A B (j + 1))) (ys := [rowD A B (j + 1) (k + 1)]) (by simpa using hLs.more [.cells 1 [[.int .i64 (plD A B (j + 1) (k + 1))]]]) (by simp) (by simp [appOk, rowD]) (by simp; omega) ?_
          intro s' h'' hs' hgr
          obtain ⟨g3, rfl⟩ := hgr.base H (by simp) ⟨_, by simp; rfl⟩
          simp [-Int.natCast_add, e5, e6, e7, e9, e11, ewk, hs'.core, hs'.gd]
          exact ⟨k + 1, by omega, by omega, by omega, by rw [List.range_succ, List.map_append]; exact hs'⟩
        · have ev : min (plD A B j k) (min (plD A B j (k + 1)) (plD A B (j + 1) k)) + 3 = plD A B (j + 1) (k + 1) := by rw [h6, plC, if_neg q, if_neg (by rw [ql]; simp)]; omega
          refine ⟨by decide, ?_⟩
          refine callS.pure _ (fun _ => ref10_least _ _) ?_
          simp [-appendOk, -appendK, -Int.natCast_add, e5, e6, e7, e9, e10, e11, ← hm, hlek, w1, wk1, hltB, hltA, hx, hx', hy, hy', u8eq, rx, rx1, rx2, rx10, rx20, rn, hf, rowD, w5, w6, w8, w9]
          refine callS.pure _ (fun _ => ref10_least _ _) ?_
          simp [-appendOk, -appendK, -Int.natCast_add, e5, e6, e7, e9, e10, e11, ← hm, hlek, w1, wk1, hltB, hltA, hx, hx', hy, hy', u8eq, rx, rx1, rx2, rx10, rx20, rn, hf, rowD, w5, w6, w8, w9]
          rw [ev]
          refine append_ls (lo := H.length) (n := 1) (es := (List.range (k + 1)).map (rowD A B (j + 1))) (ys := [rowD A B (j + 1) (k + 1)]) (by simpa using hLs.more [.cells 1 [[.int .i64 (plD A B (j + 1) (k + 1))]]]) (by simp) (by simp [appOk, rowD]) (by simp; omega) ?_
          intro s' h'' hs' hgr
          obtain ⟨g3, rfl⟩ := hgr.base H (by simp) ⟨_, by simp; rfl⟩
          simp [-Int.natCast_add, e5, e6, e7, e9, e11, ewk, hs'.core, hs'.gd]
          exact ⟨k + 1, by omega, by omega, by omega, by rw [List.range_succ, List.map_append]; exact hs'⟩
    · obtain rfl : k = m := by omega
      have hn0 : ¬ (((k + 1 : Nat) : Int) ≤ k) := by omega
      simp [-Int.natCast_add, e5, e6, e7, e9, e10, e11, ← hm, hn0, hf, ew]
      exact ⟨j + 1, by omega, by omega, by omega, hLs.rs, by obtain ⟨gg, rfl⟩ := hG; exact ⟨_, List.append_assoc _ _ _⟩⟩
  obtain rfl : j = L := by omega
  have hn0 : ¬ (((j + 1 : Nat) : Int) ≤ j) := by omega
  have rx2 := Rs.ix Try.prog rl m (by omega) (y := rowD A B j m) (by simp)
  simp [-Int.natCast_add, e5, e6, e7, e9, ← hm, ← hL, hn0, rx, rx2, rowD]
  exact hG
theorem plate_Same (a b : Bytes) : ACalls Try.prog gl 51 [.str a, .str b] h fun v h' => v = .bool (decide (plateD a b ≤ 2)) ∧ h' = h := by
  refine ACalls.body Try.f51 _ mixed Try.func51 rfl rfl (by simp [Try.ntmps51]) ?_
  simp
  refine callS.pure _ (fun _ => plate_Distance a b) ?_
  simp
theorem ref10_Same (a b : Bytes) : ACalls Try.prog gl 56 [.str a, .str b] h fun v h' => v = .bool (decide (plateD a b ≤ 2)) ∧ h' = h := by
  refine ACalls.body Try.f56 _ mixed Try.func56 rfl rfl (by simp [Try.ntmps56]) ?_
  simp
  refine callS.pure _ (fun _ => ref10_Distance a b) ?_
  simp
end Go.Proofs.Ytmnmbkcdjpidgaa
