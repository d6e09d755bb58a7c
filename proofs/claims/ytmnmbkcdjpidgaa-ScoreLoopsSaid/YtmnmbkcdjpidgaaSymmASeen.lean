/-
  Contracts: the library's stable sort of more than one block (Seen).
-/
import Derived.Test.YtmnmbkcdjpidgaaMergeSeen
import Derived.Test.YtmnmbkcdjpidgaaAbsSort
set_option linter.unusedVariables false
set_option linter.unusedSimpArgs false
set_option maxRecDepth 100000
namespace Go.Proofs.Ytmnmbkcdjpidgaa
open Go Go.Abs Go.Toll
variable {gl : Globs} {h : AHeap}

set_option maxHeartbeats 4000000 in
theorem symMergeX_Seen (b : Nat) (hb : b < h.length) (N : Nat) (hl : N ≤ 1000000) (S : List (List AV)) (hn : ∀ e ∈ S, e.length = 11) (f : FuncId) (caps : List AV) (c : List AV → List AV → Int) (o : SWO (fun x y => decide (c x y < 0)))
    (hc : ∀ x ∈ S, ∀ y ∈ S, ∀ o, ACalls Try.prog gl f (.agg x :: .agg y :: caps) (h.set b o) fun v h' => v = .int .i64 (c x y) ∧ h' = h.set b o) : ∀ (P X Y Q : List (List AV)) (a m z : Nat), X.length = 1 → 0 < Y.length →
    Srt (fun x y => decide (c x y < 0)) X → Srt (fun x y => decide (c x y < 0)) Y → P.length = a → a + X.length = m → m + Y.length = z → N = z + Q.length → (∀ e ∈ P ++ (X ++ (Y ++ Q)), e ∈ S) →
    ACalls Try.prog gl 59 [.own b 0 N, .int .i64 a, .int .i64 m, .int .i64 z, .fn (.func f) [] caps] (h.set b (.cells 11 (P ++ (X ++ (Y ++ Q)))))
      fun v h' => v = .tup [] ∧ h' = h.set b (.cells 11 (P ++ (sortR (fun x y => decide (c x y < 0)) (X ++ Y) ++ Q))) := by
  intro P X Y Q a m z hX1 hY sX sY ha hm hz hN hS
  have hX : 0 < X.length := by omega
  refine ACalls.body Try.f59 _ mixed Try.func59 rfl rfl (by simp [Try.ntmps59]) ?_
  have w1 : IntKind.i64.wrap ((m : Int) - a) = X.length := by rw [wrap64_of (by omega) (by omega)]; omega
  have w2 : IntKind.i64.wrap ((z : Int) - m) = Y.length := by rw [wrap64_of (by omega) (by omega)]; omega
  have gX : ∀ t x, a ≤ t → t < m → X[t - a]? = some x → (P ++ (X ++ (Y ++ Q)))[t]? = some x := fun t x h1 h2 hx => by rw [getX (by omega) (by omega), ha]; exact hx
  have gY : ∀ t y, m ≤ t → t < z → Y[t - m]? = some y → (P ++ (X ++ (Y ++ Q)))[t]? = some y := fun t y h1 h2 hy => by rw [getY (by omega) (by omega), ha, hm]; exact hy
  have hal : (P ++ (X ++ (Y ++ Q))).length = N := by simp; omega
  obtain ⟨x, rfl⟩ := List.length_eq_one_iff.1 hX1
  simp [w1, w2]
  have hx := gX a x (by omega) (by omega) (by simp)
  generalize hall : P ++ ([x] ++ (Y ++ Q)) = all at hx gX gY hal
  have hall' : P ++ x :: (Y ++ Q) = all := by rw [← hall]; rfl
  rw [hall']
  have hxS : x ∈ S := hS x (by simp)
  have hxO := hn x hxS
  have hx5 : x.length = 11 := hxO
  have tx : x.take 11 = x := List.take_of_length_le (by omega)
  have dx : x.drop 11 = [] := List.drop_eq_nil_of_le (by omega)
  refine AWP.down mixed (fun k fr h' => ∃ i j : Nat, k = j - i ∧ m ≤ i ∧ i ≤ j ∧ j ≤ z ∧ fr 0 = .own b 0 N ∧ fr 1 = .int .i64 a ∧ fr 2 = .int .i64 m ∧ fr 3 = .int .i64 z ∧ fr 4 = .fn (.func f) [] caps ∧ fr 10 = .int .i64 i ∧ fr 11 = .int .i64 j ∧
    (∀ t y, t < i - m → Y[t]? = some y → c y x < 0) ∧ (∀ t y, j ≤ t + m → Y[t]? = some y → 0 ≤ c y x) ∧ h' = h.set b (.cells 11 all)) (z - m) ⟨m, z, rfl, by omega, by omega, by omega, by simp, by simp, by simp, by simp, by simp, by simp, by simp, by omega, fun t y ht hy => by have := lt_of_get hy; omega, by simp⟩ ?_
  rintro k fr h' ⟨i, j, rfl, hmi, hij, hjb, e0, e1, e2, e3, e4, e10, e11, hlo, hhi, rfl⟩
  rcases Nat.lt_or_ge i j with hlt | hge
  · have wh := wrap_half (i := i) (j := j) (by omega)
    have ht1 : i ≤ (i + j) / 2 := by omega
    have ht2 : (i + j) / 2 < j := by omega
    generalize (i + j) / 2 = t at wh ht1 ht2
    obtain ⟨y, hy, hy'⟩ := get_lt (l := Y) (i := t - m) (by omega)
    have hgy := gY t y (by omega) (by omega) hy
    have hyS : y ∈ S := hS y (by simp [List.mem_of_getElem? hy])
    have hyO := hn y hyS
    have hy5 : y.length = 11 := hyO
    have ty : y.take 11 = y := List.take_of_length_le (by omega)
    have ew := wrap_succ' (i := t) (by omega)
    simp [e0, e1, e2, e3, e4, e10, e11, hlt, wh, hgy, hx, hb, hal, hx5, hy5]
    refine ⟨by decide, by omega, by omega, ?_⟩
    rw [tx, ty]
    refine callS.pure _ (fun _ => hc y hyS x hxS _) ?_
    simp [e0, e1, e2, e3, e4, e10, e11, wh, ew]
    refine ⟨fun hcy => ⟨j - (t + 1), by omega, t + 1, j, rfl, by omega, by omega, by omega, by omega, by omega, ?_, hhi⟩, fun hcy => ⟨t - i, by omega, i, t, rfl, by omega, by omega, by omega, by omega, by omega, hlo, ?_⟩⟩
    · intro t' y' ht' hy'
      have := sY.get o (i := t') (j := t - m) (by omega) hy' hy
      have h2 := o.le_lt this (by simpa using hcy : decide (c y x < 0) = true)
      simpa using h2
    · intro t' y' ht' hy'
      have := sY.get o (i := t - m) (j := t') (by omega) hy hy'
      have h2 := o.trans _ _ _ this (by simpa using hcy : decide (c y x < 0) = false)
      simpa using h2
  · obtain rfl : i = j := by omega
    have hfin : P ++ (Y.take (i - m) ++ x :: (Y.drop (i - m) ++ Q)) = P ++ (sortR (fun x y => decide (c x y < 0)) ([x] ++ Y) ++ Q) := by
      have := merge_one o (x := x) (y1 := Y.take (i - m)) (y2 := Y.drop (i - m)) (by rw [List.take_append_drop]; exact sY) ?_ ?_
      · rw [List.take_append_drop] at this
        rw [show [x] ++ Y = x :: Y from rfl, ← this]; simp
      · intro y hy
        obtain ⟨t, ht, hy⟩ := mem_take_iff.1 hy
        simpa using hlo t y ht hy
      · intro y hy
        obtain ⟨t, ht, hy⟩ := mem_drop_iff.1 hy
        simpa using hhi t y (by omega) hy
    have w3 : IntKind.i64.wrap ((i : Int) - 1) = (i - 1 : Nat) := by rw [wrap64_of (by omega) (by omega)]; omega
    simp [e0, e1, e2, e3, e4, e10, e11]
    refine AWP.up mixed (i - m) (fun t fr h' => ∃ q : Nat, q = a + t ∧ fr 0 = .own b 0 N ∧ fr 10 = .int .i64 i ∧ fr 13 = .int .i64 q ∧ h' = h.set b (.cells 11 (P ++ (Y.take t ++ x :: (Y.drop t ++ Q))))) 0 (by omega) ⟨a, by omega, by simp [e0], by simp [e10], by simp, by simp [hall']⟩ ?_
    rintro t fr h' ht ⟨q, hq, e0, e10, e13, rfl⟩
    rcases Nat.lt_or_ge t (i - m) with hlt | hge
    · obtain ⟨y, hy, hy'⟩ := get_lt (l := Y) (i := t) (by omega)
      have hA : (P ++ Y.take t).length = q := by simp; omega
      have g1 := at1 (P ++ Y.take t) [] (Y.drop (t + 1) ++ Q) x y
      have g2 := at2 (P ++ Y.take t) [] (Y.drop (t + 1) ++ Q) x y
      have g3 := set2 (P ++ Y.take t) [] (Y.drop (t + 1) ++ Q) x y
      have hcur : P ++ (Y.take t ++ x :: (Y.drop t ++ Q)) = (P ++ Y.take t) ++ x :: ([] ++ y :: (Y.drop (t + 1) ++ Q)) := by rw [drop_get hy]; simp
      have hnx : (P ++ Y.take t) ++ y :: ([] ++ x :: (Y.drop (t + 1) ++ Q)) = P ++ (Y.take (t + 1) ++ x :: (Y.drop (t + 1) ++ Q)) := by rw [List.take_add_one, hy]; simp
      have hcl : (P ++ (Y.take t ++ x :: (Y.drop t ++ Q))).length = N := by simp at hal ⊢; omega
      rw [hnx] at g3
      rw [← hcur] at g1 g2 g3
      rw [hA] at g1 g2 g3
      have hyS : y ∈ S := hS y (by simp [List.mem_of_getElem? hy])
      have hyO := hn y hyS
      have hy5 : y.length = 11 := hyO
      have ty : y.take 11 = y := List.take_of_length_le (by omega)
      have dy : y.drop 11 = [] := List.drop_eq_nil_of_le (by omega)
      have ew := wrap_succ (i := q) (by omega)
      have hqi : q < i - 1 := by omega
      generalize P ++ (Y.take t ++ x :: (Y.drop t ++ Q)) = cur at *
      generalize hnn : P ++ (Y.take (t + 1) ++ x :: (Y.drop (t + 1) ++ Q)) = nxt at *
      generalize i - 1 = i1 at *
      simp only [List.length_nil, Nat.add_zero] at g2 g3
      simp [e0, e10, e13, w3, hqi, ew, g1, g2, hb, hcl, hx5, hy5, tx, ty, dx, dy, g3]
      refine ⟨by decide, ⟨by omega, by omega⟩, by omega, by omega, ⟨by omega, by omega⟩, by omega, t + 1, by omega, by omega, by omega, ?_⟩
      rw [hnn]
    · obtain rfl : t = i - m := by omega
      have hqi : ¬ q < i - 1 := by omega
      generalize i - 1 = i1 at *
      simp [e0, e10, e13, w3, hqi]
      rw [hfin]; simp
set_option maxHeartbeats 4000000 in
theorem symMergeY_Seen (b : Nat) (hb : b < h.length) (N : Nat) (hl : N ≤ 1000000) (S : List (List AV)) (hn : ∀ e ∈ S, e.length = 11) (f : FuncId) (caps : List AV) (c : List AV → List AV → Int) (o : SWO (fun x y => decide (c x y < 0)))
    (hc : ∀ x ∈ S, ∀ y ∈ S, ∀ o, ACalls Try.prog gl f (.agg x :: .agg y :: caps) (h.set b o) fun v h' => v = .int .i64 (c x y) ∧ h' = h.set b o) : ∀ (P X Y Q : List (List AV)) (a m z : Nat), ¬ X.length = 1 → 0 < X.length → Y.length = 1 →
    Srt (fun x y => decide (c x y < 0)) X → Srt (fun x y => decide (c x y < 0)) Y → P.length = a → a + X.length = m → m + Y.length = z → N = z + Q.length → (∀ e ∈ P ++ (X ++ (Y ++ Q)), e ∈ S) →
    ACalls Try.prog gl 59 [.own b 0 N, .int .i64 a, .int .i64 m, .int .i64 z, .fn (.func f) [] caps] (h.set b (.cells 11 (P ++ (X ++ (Y ++ Q)))))
      fun v h' => v = .tup [] ∧ h' = h.set b (.cells 11 (P ++ (sortR (fun x y => decide (c x y < 0)) (X ++ Y) ++ Q))) := by
  intro P X Y Q a m z hX1 hX hY1 sX sY ha hm hz hN hS
  have hY : 0 < Y.length := by omega
  refine ACalls.body Try.f59 _ mixed Try.func59 rfl rfl (by simp [Try.ntmps59]) ?_
  have w1 : IntKind.i64.wrap ((m : Int) - a) = X.length := by rw [wrap64_of (by omega) (by omega)]; omega
  have w2 : IntKind.i64.wrap ((z : Int) - m) = Y.length := by rw [wrap64_of (by omega) (by omega)]; omega
  have gX : ∀ t x, a ≤ t → t < m → X[t - a]? = some x → (P ++ (X ++ (Y ++ Q)))[t]? = some x := fun t x h1 h2 hx => by rw [getX (by omega) (by omega), ha]; exact hx
  have gY : ∀ t y, m ≤ t → t < z → Y[t - m]? = some y → (P ++ (X ++ (Y ++ Q)))[t]? = some y := fun t y h1 h2 hy => by rw [getY (by omega) (by omega), ha, hm]; exact hy
  have hal : (P ++ (X ++ (Y ++ Q))).length = N := by simp; omega
  obtain ⟨y, rfl⟩ := List.length_eq_one_iff.1 hY1
  have n1 : ¬ (X.length : Int) = 1 := by omega
  simp [w1, w2, n1]
  have hy := gY m y (by omega) (by omega) (by simp)
  generalize hall : P ++ (X ++ ([y] ++ Q)) = all at hy gX gY hal
  have hall' : P ++ (X ++ y :: Q) = all := by rw [← hall]; rfl
  rw [hall']
  have hyS : y ∈ S := hS y (by simp)
  have hyO := hn y hyS
  have hy5 : y.length = 11 := hyO
  have ty : y.take 11 = y := List.take_of_length_le (by omega)
  have dy : y.drop 11 = [] := List.drop_eq_nil_of_le (by omega)
  refine AWP.down mixed (fun k fr h' => ∃ i j : Nat, k = j - i ∧ a ≤ i ∧ i ≤ j ∧ j ≤ m ∧ fr 0 = .own b 0 N ∧ fr 1 = .int .i64 a ∧ fr 2 = .int .i64 m ∧ fr 3 = .int .i64 z ∧ fr 4 = .fn (.func f) [] caps ∧ fr 14 = .int .i64 i ∧ fr 15 = .int .i64 j ∧
    (∀ t x, t < i - a → X[t]? = some x → 0 ≤ c y x) ∧ (∀ t x, j ≤ t + a → X[t]? = some x → c y x < 0) ∧ h' = h.set b (.cells 11 all)) (m - a) ⟨a, m, rfl, by omega, by omega, by omega, by simp, by simp, by simp, by simp, by simp, by simp, by simp, by omega, fun t y ht hy => by have := lt_of_get hy; omega, by simp⟩ ?_
  rintro k fr h' ⟨i, j, rfl, hmi, hij, hjb, e0, e1, e2, e3, e4, e14, e15, hlo, hhi, rfl⟩
  rcases Nat.lt_or_ge i j with hlt | hge
  · have wh := wrap_half (i := i) (j := j) (by omega)
    have ht1 : i ≤ (i + j) / 2 := by omega
    have ht2 : (i + j) / 2 < j := by omega
    generalize (i + j) / 2 = t at wh ht1 ht2
    obtain ⟨x, hx, hx'⟩ := get_lt (l := X) (i := t - a) (by omega)
    have hgx := gX t x (by omega) (by omega) hx
    have hxS : x ∈ S := hS x (by simp [List.mem_of_getElem? hx])
    have hxO := hn x hxS
    have hx5 : x.length = 11 := hxO
    have tx : x.take 11 = x := List.take_of_length_le (by omega)
    have ew := wrap_succ' (i := t) (by omega)
    simp [e0, e1, e2, e3, e4, e14, e15, hlt, wh, hgx, hy, hb, hal, hx5, hy5]
    refine ⟨by decide, by omega, by omega, ?_⟩
    rw [tx, ty]
    refine callS.pure _ (fun _ => hc y hyS x hxS _) ?_
    simp [e0, e1, e2, e3, e4, e14, e15, wh, ew]
    refine ⟨fun hcy => ⟨j - (t + 1), by omega, t + 1, j, rfl, by omega, by omega, by omega, by omega, by omega, ?_, hhi⟩, fun hcy => ⟨t - i, by omega, i, t, rfl, by omega, by omega, by omega, by omega, by omega, hlo, ?_⟩⟩
    · intro t' x' ht' hx'
      have := sX.get o (i := t') (j := t - a) (by omega) hx' hx
      have h2 := o.trans _ _ _ (by simpa using hcy : decide (c y x < 0) = false) this
      simpa using h2
    · intro t' x' ht' hx'
      have := sX.get o (i := t - a) (j := t') (by omega) hx hx'
      have h2 := o.lt_le (by simpa using hcy : decide (c y x < 0) = true) this
      simpa using h2
  · obtain rfl : i = j := by omega
    have hfin : P ++ (X.take (i - a) ++ y :: (X.drop (i - a) ++ Q)) = P ++ (sortR (fun x y => decide (c x y < 0)) (X ++ [y]) ++ Q) := by
      have := merge_last o (y := y) (x1 := X.take (i - a)) (x2 := X.drop (i - a)) (by rw [List.take_append_drop]; exact sX) ?_ ?_
      · rw [List.take_append_drop] at this
        rw [← this]; simp
      · intro x hx
        obtain ⟨t, ht, hx⟩ := mem_take_iff.1 hx
        simpa using hlo t x ht hx
      · intro x hx
        obtain ⟨t, ht, hx⟩ := mem_drop_iff.1 hx
        simpa using hhi t x (by omega) hx
    simp [e0, e1, e2, e3, e4, e14, e15]
    refine AWP.down mixed (fun t fr h' => ∃ q : Nat, q = a + t ∧ i ≤ q ∧ t ≤ X.length ∧ fr 0 = .own b 0 N ∧ fr 14 = .int .i64 i ∧ fr 17 = .int .i64 q ∧ h' = h.set b (.cells 11 (P ++ (X.take t ++ y :: (X.drop t ++ Q))))) X.length ⟨m, by omega, by omega, by omega, by simp [e0], by simp [e14], by simp, by simp [← hall']⟩ ?_
    rintro t fr h' ⟨q, hq, hiq, htX, e0, e14, e17, rfl⟩
    rcases Nat.lt_or_ge i q with hlt | hge
    · obtain ⟨s, rfl⟩ : ∃ s, t = s + 1 := ⟨t - 1, by omega⟩
      obtain ⟨x, hx, hx'⟩ := get_lt (l := X) (i := s) (by omega)
      obtain ⟨r, rfl⟩ : ∃ r, q = r + 1 := ⟨q - 1, by omega⟩
      have hA : (P ++ X.take s).length = r := by simp; omega
      have g1 := at1 (P ++ X.take s) [] (X.drop (s + 1) ++ Q) x y
      have g2 := at2 (P ++ X.take s) [] (X.drop (s + 1) ++ Q) x y
      have g3 := set2' (P ++ X.take s) [] (X.drop (s + 1) ++ Q) x y
      have hcur : P ++ (X.take (s + 1) ++ y :: (X.drop (s + 1) ++ Q)) = (P ++ X.take s) ++ x :: ([] ++ y :: (X.drop (s + 1) ++ Q)) := by rw [List.take_add_one, hx]; simp
      have hnx : (P ++ X.take s) ++ y :: ([] ++ x :: (X.drop (s + 1) ++ Q)) = P ++ (X.take s ++ y :: (X.drop s ++ Q)) := by rw [drop_get hx]; simp
      have hcl : (P ++ (X.take (s + 1) ++ y :: (X.drop (s + 1) ++ Q))).length = N := by simp at hal ⊢; omega
      rw [hnx] at g3
      rw [← hcur] at g1 g2 g3
      rw [hA] at g1 g2 g3
      have hxS : x ∈ S := hS x (by simp [List.mem_of_getElem? hx])
      have hxO := hn x hxS
      have hx5 : x.length = 11 := hxO
      have tx : x.take 11 = x := List.take_of_length_le (by omega)
      have dx : x.drop 11 = [] := List.drop_eq_nil_of_le (by omega)
      have e17' : fr 17 = .int .i64 ((r : Int) + 1) := by rw [e17]; simp
      have w4 : IntKind.i64.wrap (r : Int) = r := wrap64_of (by omega) (by omega)
      have hir : (i : Int) < r + 1 := by omega
      generalize P ++ (X.take (s + 1) ++ y :: (X.drop (s + 1) ++ Q)) = cur at *
      generalize hnn : P ++ (X.take s ++ y :: (X.drop s ++ Q)) = nxt at *
      simp only [List.length_nil, Nat.add_zero] at g2 g3
      simp [e0, e14, e17', hir, w4, g1, g2, hb, hcl, hx5, hy5, tx, ty, dx, dy, g3]
      refine ⟨by decide, by omega, ⟨by omega, by omega⟩, by omega, ⟨by omega, by omega⟩, by omega, by omega, s, by omega, by omega, by omega, by omega, ?_⟩
      rw [hnn]
    · obtain rfl : t = i - a := by omega
      have hqi : ¬ i < q := by omega
      simp [e0, e14, e17, hqi]
      rw [hfin]
end Go.Proofs.Ytmnmbkcdjpidgaa
