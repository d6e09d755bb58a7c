/-
  Contracts: the library's stable sort of more than one block (Seen).
-/
import Derived.Test.YtmnmbkcdjpidgaaSymmASeen
import Derived.Test.YtmnmbkcdjpidgaaAbsList
import Derived.Test.YtmnmbkcdjpidgaaAbsSort
set_option linter.unusedVariables false
set_option linter.unusedSimpArgs false
set_option maxRecDepth 100000
namespace Go.Proofs.Ytmnmbkcdjpidgaa
open Go Go.Abs Go.Toll
variable {gl : Globs} {h : AHeap}

set_option maxHeartbeats 1000000 in
theorem symmSteps_Seen (b : Nat) (hb : b < h.length) (N : Nat) (hl : N ≤ 1000000) (S : List (List AV)) (hn : ∀ e ∈ S, e.length = 11) (f : FuncId) (caps : List AV) (c : List AV → List AV → Int) (o : SWO (fun x y => decide (c x y < 0)))
    (hc : ∀ x ∈ S, ∀ y ∈ S, ∀ o, ACalls Try.prog gl f (.agg x :: .agg y :: caps) (h.set b o) fun v h' => v = .int .i64 (c x y) ∧ h' = h.set b o)
    (P X Y Q : List (List AV)) (a m z : Nat) (hX : 0 < X.length) (hY : 0 < Y.length) (sX : Srt (fun x y => decide (c x y < 0)) X) (sY : Srt (fun x y => decide (c x y < 0)) Y) (ha : P.length = a) (hm : a + X.length = m) (hz : m + Y.length = z) (hN : N = z + Q.length)
    (hS : ∀ e ∈ P ++ (X ++ (Y ++ Q)), e ∈ S) (n : Nat) (hXY : X.length + Y.length ≤ n + 1)
    (ih : ∀ (P X Y Q : List (List AV)) (a m z : Nat), X.length + Y.length ≤ n → 0 < X.length → 0 < Y.length →
    Srt (fun x y => decide (c x y < 0)) X → Srt (fun x y => decide (c x y < 0)) Y → P.length = a → a + X.length = m → m + Y.length = z → N = z + Q.length → (∀ e ∈ P ++ (X ++ (Y ++ Q)), e ∈ S) →
      ACalls Try.prog gl 59 [.own b 0 N, .int .i64 a, .int .i64 m, .int .i64 z, .fn (.func f) [] caps] (h.set b (.cells 11 (P ++ (X ++ (Y ++ Q)))))
        fun v h' => v = .tup [] ∧ h' = h.set b (.cells 11 (P ++ (sortR (fun x y => decide (c x y < 0)) (X ++ Y) ++ Q))))
    (mid nn i e : Nat) (hm1 : 2 * mid ≤ a + z) (hm2 : a + z < 2 * mid + 2) (hnn : mid + m = nn) (hia : a ≤ i) (him : i ≤ m) (g1 : m ≤ nn - i) (g2 : nn - i ≤ z) (he : nn - i = e)
    (hdone : sortR (fun x y => decide (c x y < 0)) (X.take (i - a) ++ Y.take (nn - i - m)) ++ sortR (fun x y => decide (c x y < 0)) (X.drop (i - a) ++ Y.drop (nn - i - m)) = sortR (fun x y => decide (c x y < 0)) (X ++ Y)) :
    ∃ cur2 cur3 : List (List AV),
      (i < m → m < e → ACalls Try.prog gl 65 [.own b 0 N, .int .i64 i, .int .i64 m, .int .i64 e, .fn (.func f) [] caps] (h.set b (.cells 11 (P ++ (X ++ (Y ++ Q))))) fun v h' => v = .tup [] ∧ h' = h.set b (.cells 11 cur2)) ∧ (¬ (i < m ∧ m < e) → P ++ (X ++ (Y ++ Q)) = cur2) ∧
      (a < i → i < mid → ACalls Try.prog gl 59 [.own b 0 N, .int .i64 a, .int .i64 i, .int .i64 mid, .fn (.func f) [] caps] (h.set b (.cells 11 cur2)) fun v h' => v = .tup [] ∧ h' = h.set b (.cells 11 cur3)) ∧ (¬ (a < i ∧ i < mid) → cur2 = cur3) ∧
      (mid < e → e < z → ACalls Try.prog gl 59 [.own b 0 N, .int .i64 mid, .int .i64 e, .int .i64 z, .fn (.func f) [] caps] (h.set b (.cells 11 cur3)) fun v h' => v = .tup [] ∧ h' = h.set b (.cells 11 (P ++ (sortR (fun x y => decide (c x y < 0)) (X ++ Y) ++ Q)))) ∧ (¬ (mid < e ∧ e < z) → cur3 = P ++ (sortR (fun x y => decide (c x y < 0)) (X ++ Y) ++ Q)) := by
  have hl1 : (X.take (i - a)).length = i - a := by simp; omega
  have hl2 : (X.drop (i - a)).length = m - i := by simp; omega
  have hl3 : (Y.take (nn - i - m)).length = nn - i - m := by simp; omega
  have hl4 : (Y.drop (nn - i - m)).length = z - (nn - i) := by simp; omega
  have hX' : X = X.take (i - a) ++ X.drop (i - a) := (List.take_append_drop _ _).symm
  have hY' : Y = Y.take (nn - i - m) ++ Y.drop (nn - i - m) := (List.take_append_drop _ _).symm
  have sx1 := sX.take (i - a)
  have sx2 := sX.drop (i - a)
  have sy1 := sY.take (nn - i - m)
  have sy2 := sY.drop (nn - i - m)
  generalize X.take (i - a) = x1 at *
  generalize X.drop (i - a) = x2 at *
  generalize Y.take (nn - i - m) = y1 at *
  generalize Y.drop (nn - i - m) = y2 at *
  have g1 : m ≤ nn - i := by omega
  have g2 : nn - i ≤ z := by omega
  have g3 : i - a + (nn - i - m) = mid - a := by omega
  rw [he] at hl3 hl4 g1 g2 g3
  have hS' : ∀ q ∈ P ++ (x1 ++ (x2 ++ (y1 ++ (y2 ++ Q)))), q ∈ S := by rw [hX', hY'] at hS; simpa using hS
  have ha1 : P ++ (X ++ (Y ++ Q)) = P ++ (x1 ++ (x2 ++ (y1 ++ (y2 ++ Q)))) := by rw [hX', hY']; simp
  clear hX' hY'
  have hfin : P ++ (sortR (fun x y => decide (c x y < 0)) (X ++ Y) ++ Q) = (P ++ sortR (fun x y => decide (c x y < 0)) (x1 ++ y1)) ++ (sortR (fun x y => decide (c x y < 0)) (x2 ++ y2) ++ Q) := by rw [← hdone]; simp
  have hrot : i < m → m < e → ACalls Try.prog gl 65 [.own b 0 N, .int .i64 i, .int .i64 m, .int .i64 e, .fn (.func f) [] caps] (h.set b (.cells 11 (P ++ (X ++ (Y ++ Q))))) fun v h' => v = .tup [] ∧ h' = h.set b (.cells 11 (P ++ (x1 ++ (y1 ++ (x2 ++ (y2 ++ Q)))))) := by
    intro k1 k2
    have := rotate_Seen (gl := gl) (h := h) b (P ++ x1) x2 y1 (y2 ++ Q) i m e N (by simp; omega) (by omega) (by omega) (by simp; omega) hl (by omega) (by omega) hb (fun q hq => hn q (hS' q (by simpa using hq))) f caps
    rw [ha1]
    simpa using this
  have hsame : ¬ (i < m ∧ m < e) → P ++ (X ++ (Y ++ Q)) = P ++ (x1 ++ (y1 ++ (x2 ++ (y2 ++ Q)))) := by
    intro k
    rw [ha1]
    rcases Nat.lt_or_ge i m with k1 | k1
    · have : y1 = [] := List.length_eq_zero_iff.1 (by omega)
      simp [this]
    · have : x2 = [] := List.length_eq_zero_iff.1 (by omega)
      simp [this]
  have hr1 : a < i → i < mid → ACalls Try.prog gl 59 [.own b 0 N, .int .i64 a, .int .i64 i, .int .i64 mid, .fn (.func f) [] caps] (h.set b (.cells 11 (P ++ (x1 ++ (y1 ++ (x2 ++ (y2 ++ Q))))))) fun v h' => v = .tup [] ∧ h' = h.set b (.cells 11 (P ++ (sortR (fun x y => decide (c x y < 0)) (x1 ++ y1) ++ (x2 ++ (y2 ++ Q))))) := by
    intro k1 k2
    refine ih P x1 y1 (x2 ++ (y2 ++ Q)) a i mid (by omega) (by omega) (by omega) sx1 sy1 ha (by omega) (by omega) (by simp; omega) (fun q hq => hS' q ?_)
    simp at hq ⊢
    rcases hq with k | k | k | k | k | k <;> simp [k]
  have hsame1 : ¬ (a < i ∧ i < mid) → P ++ (x1 ++ (y1 ++ (x2 ++ (y2 ++ Q)))) = P ++ (sortR (fun x y => decide (c x y < 0)) (x1 ++ y1) ++ (x2 ++ (y2 ++ Q))) := by
    intro k
    rcases Nat.lt_or_ge a i with k1 | k1
    · have : y1 = [] := List.length_eq_zero_iff.1 (by omega)
      rw [this, List.append_nil, sortR_of_srt o sx1]; simp
    · have : x1 = [] := List.length_eq_zero_iff.1 (by omega)
      rw [this, List.nil_append, List.nil_append, sortR_of_srt o sy1]
  have hl5 : (sortR (fun x y => decide (c x y < 0)) (x1 ++ y1)).length = mid - a := by rw [sortR_length]; simp; omega
  have hr2 : mid < e → e < z → ACalls Try.prog gl 59 [.own b 0 N, .int .i64 mid, .int .i64 e, .int .i64 z, .fn (.func f) [] caps] (h.set b (.cells 11 (P ++ (sortR (fun x y => decide (c x y < 0)) (x1 ++ y1) ++ (x2 ++ (y2 ++ Q)))))) fun v h' => v = .tup [] ∧ h' = h.set b (.cells 11 (P ++ (sortR (fun x y => decide (c x y < 0)) (X ++ Y) ++ Q))) := by
    intro k1 k2
    have := ih (P ++ sortR (fun x y => decide (c x y < 0)) (x1 ++ y1)) x2 y2 Q mid e z (by omega) (by omega) (by omega) sx2 sy2 (by simp [hl5]; omega) (by omega) (by omega) (by omega) (fun q hq => hS' q ?_)
    · rw [hfin]; simpa using this
    simp only [List.mem_append, mem_sortR] at hq ⊢
    rcases hq with (k | k | k) | k | k | k <;> simp [k]
  have hsame2 : ¬ (mid < e ∧ e < z) → P ++ (sortR (fun x y => decide (c x y < 0)) (x1 ++ y1) ++ (x2 ++ (y2 ++ Q))) = P ++ (sortR (fun x y => decide (c x y < 0)) (X ++ Y) ++ Q) := by
    intro k
    rw [hfin]
    rcases Nat.lt_or_ge mid e with k1 | k1
    · have : y2 = [] := List.length_eq_zero_iff.1 (by omega)
      rw [this, List.append_nil, sortR_of_srt o sx2]; simp
    · have : x2 = [] := List.length_eq_zero_iff.1 (by omega)
      rw [this, List.nil_append, List.nil_append, sortR_of_srt o sy2]; simp
  exact ⟨_, _, hrot, hsame, hr1, hsame1, hr2, hsame2⟩
set_option maxHeartbeats 4000000 in
theorem symMergeG_Seen (b : Nat) (hb : b < h.length) (N : Nat) (hl : N ≤ 1000000) (S : List (List AV)) (hn : ∀ e ∈ S, e.length = 11) (f : FuncId) (caps : List AV) (c : List AV → List AV → Int) (o : SWO (fun x y => decide (c x y < 0)))
    (hc : ∀ x ∈ S, ∀ y ∈ S, ∀ o, ACalls Try.prog gl f (.agg x :: .agg y :: caps) (h.set b o) fun v h' => v = .int .i64 (c x y) ∧ h' = h.set b o) (n : Nat)
    (ih : ∀ (P X Y Q : List (List AV)) (a m z : Nat), X.length + Y.length ≤ n → 0 < X.length → 0 < Y.length →
    Srt (fun x y => decide (c x y < 0)) X → Srt (fun x y => decide (c x y < 0)) Y → P.length = a → a + X.length = m → m + Y.length = z → N = z + Q.length → (∀ e ∈ P ++ (X ++ (Y ++ Q)), e ∈ S) →
      ACalls Try.prog gl 59 [.own b 0 N, .int .i64 a, .int .i64 m, .int .i64 z, .fn (.func f) [] caps] (h.set b (.cells 11 (P ++ (X ++ (Y ++ Q)))))
        fun v h' => v = .tup [] ∧ h' = h.set b (.cells 11 (P ++ (sortR (fun x y => decide (c x y < 0)) (X ++ Y) ++ Q)))) : ∀ (P X Y Q : List (List AV)) (a m z : Nat), X.length + Y.length ≤ n + 1 → ¬ X.length = 1 → ¬ Y.length = 1 → 0 < X.length → 0 < Y.length →
    Srt (fun x y => decide (c x y < 0)) X → Srt (fun x y => decide (c x y < 0)) Y → P.length = a → a + X.length = m → m + Y.length = z → N = z + Q.length → (∀ e ∈ P ++ (X ++ (Y ++ Q)), e ∈ S) →
    ACalls Try.prog gl 59 [.own b 0 N, .int .i64 a, .int .i64 m, .int .i64 z, .fn (.func f) [] caps] (h.set b (.cells 11 (P ++ (X ++ (Y ++ Q)))))
      fun v h' => v = .tup [] ∧ h' = h.set b (.cells 11 (P ++ (sortR (fun x y => decide (c x y < 0)) (X ++ Y) ++ Q))) := by
  intro P X Y Q a m z hXY hX1 hY1 hX hY sX sY ha hm hz hN hS
  refine ACalls.body Try.f59 _ mixed Try.func59 rfl rfl (by simp [Try.ntmps59]) ?_
  have w1 : IntKind.i64.wrap ((m : Int) - a) = X.length := by rw [wrap64_of (by omega) (by omega)]; omega
  have w2 : IntKind.i64.wrap ((z : Int) - m) = Y.length := by rw [wrap64_of (by omega) (by omega)]; omega
  have gX : ∀ t x, a ≤ t → t < m → X[t - a]? = some x → (P ++ (X ++ (Y ++ Q)))[t]? = some x := fun t x h1 h2 hx => by rw [getX (by omega) (by omega), ha]; exact hx
  have gY : ∀ t y, m ≤ t → t < z → Y[t - m]? = some y → (P ++ (X ++ (Y ++ Q)))[t]? = some y := fun t y h1 h2 hy => by rw [getY (by omega) (by omega), ha, hm]; exact hy
  have hal : (P ++ (X ++ (Y ++ Q))).length = N := by simp; omega
  have n1 : ¬ (X.length : Int) = 1 := by omega
  have n2 : ¬ (Y.length : Int) = 1 := by omega
  have wh := wrap_half (i := a) (j := z) (by omega)
  obtain ⟨mid, hmid⟩ : ∃ mid, (a + z) / 2 = mid := ⟨_, rfl⟩
  rw [hmid] at wh
  have hm1 : 2 * mid ≤ a + z := by omega
  have hm2 : a + z < 2 * mid + 2 := by omega
  have w3 : IntKind.i64.wrap ((mid : Int) + m) = (mid + m : Nat) := by rw [wrap64_of (by omega) (by omega)]; omega
  obtain ⟨nn, hnn⟩ : ∃ nn, mid + m = nn := ⟨_, rfl⟩
  rw [hnn] at w3
  have w4 : IntKind.i64.wrap ((nn : Int) - 1) = (nn - 1 : Nat) := by rw [wrap64_of (by omega) (by omega)]; omega
  obtain ⟨pp, hpp⟩ : ∃ pp, nn - 1 = pp := ⟨_, rfl⟩
  rw [hpp] at w4
  obtain ⟨s0, r0, hbr, F1, F2, F3, F4, F5, F6, F7, F8⟩ : ∃ s0 r0 : Nat, ((mid < m ∧ nn - z = s0 ∧ mid = r0 ∧ IntKind.i64.wrap ((nn : Int) - z) = (s0 : Nat)) ∨ (m ≤ mid ∧ a = s0 ∧ m = r0)) ∧ a ≤ s0 ∧ s0 ≤ r0 ∧
      (∀ c, s0 ≤ c → c < r0 → a ≤ c ∧ c < m ∧ m ≤ pp - c ∧ pp - c < z ∧ c ≤ pp) ∧ r0 ≤ m ∧ m ≤ nn - r0 ∧ nn - s0 ≤ z ∧ (r0 = m ∨ nn - r0 = m) ∧ (s0 = a ∨ nn - s0 = z) := by
    rcases Nat.lt_or_ge mid m with hmm | hmm
    · exact ⟨nn - z, mid, .inl ⟨hmm, rfl, rfl, by rw [wrap64_of (by omega) (by omega)]; omega⟩, by omega, by omega, fun c h1 h2 => by omega, by omega, by omega, by omega, by omega, by omega⟩
    · exact ⟨a, m, .inr ⟨hmm, rfl, rfl⟩, by omega, by omega, fun c h1 h2 => by omega, by omega, by omega, by omega, by omega, by omega⟩
  have done : ∀ s, s0 ≤ s → s ≤ r0 → (s0 < s → ∀ x y, X[s - 1 - a]? = some x → Y[pp - (s - 1) - m]? = some y → 0 ≤ c y x) → (s < r0 → ∀ x y, X[s - a]? = some x → Y[pp - s - m]? = some y → c y x < 0) →
      sortR (fun x y => decide (c x y < 0)) (X.take (s - a) ++ Y.take (nn - s - m)) ++ sortR (fun x y => decide (c x y < 0)) (X.drop (s - a) ++ Y.drop (nn - s - m)) = sortR (fun x y => decide (c x y < 0)) (X ++ Y) := by
    intro s h1 h2 h3 h4
    refine cut_ok o sX sY (by omega) (by omega) ?_ ?_
    · intro k1 k2 x y hx hy
      have : s < r0 := by omega
      have := h4 this x y hx (by rw [show pp - s - m = nn - s - m - 1 by omega]; exact hy)
      simpa using this
    · intro k1 k2 x y hx hy
      have : s0 < s := by omega
      have := h3 this x y (by rw [show s - 1 - a = s - a - 1 by omega]; exact hx) (by rw [show pp - (s - 1) - m = nn - s - m by omega]; exact hy)
      simpa using this
  generalize hall : P ++ (X ++ (Y ++ Q)) = all at gX gY hal
  simp [w1, w2, n1, n2, wh, w3, w4, hall]
  refine AWP.join (fun fr h' => fr 0 = .own b 0 N ∧ fr 1 = .int .i64 a ∧ fr 2 = .int .i64 m ∧ fr 3 = .int .i64 z ∧ fr 4 = .fn (.func f) [] caps ∧ fr 18 = .int .i64 mid ∧ fr 19 = .int .i64 nn ∧ fr 20 = .int .i64 s0 ∧ fr 21 = .int .i64 r0 ∧ fr 22 = .int .i64 pp ∧ h' = h.set b (.cells 11 all)) (fun hp => ?_) (fun hq => ?_) ?_
  · rcases hbr with ⟨_, hs0, hr0, w5⟩ | ⟨hbr, _⟩
    · exact ⟨by simp, by simp, by simp, by simp, by simp, by simp, by simp, by simp [w5], by simp [hr0], by simp, rfl⟩
    · omega
  · rcases hbr with ⟨hbr, _⟩ | ⟨hbr, hs0, hr0⟩
    · omega
    · exact ⟨by simp, by simp, by simp, by simp, by simp, by simp, by simp, by simp [hs0], by simp [hr0], by simp, rfl⟩
  clear hbr
  rintro fr h' ⟨e0, e1, e2, e3, e4, e18, e19, e20, e21, e22, rfl⟩
  refine AWP.down mixed (fun k fr h' => ∃ i j : Nat, k = j - i ∧ s0 ≤ i ∧ i ≤ j ∧ j ≤ r0 ∧ fr 0 = .own b 0 N ∧ fr 1 = .int .i64 a ∧ fr 2 = .int .i64 m ∧ fr 3 = .int .i64 z ∧ fr 4 = .fn (.func f) [] caps ∧ fr 18 = .int .i64 mid ∧ fr 19 = .int .i64 nn ∧ fr 20 = .int .i64 i ∧ fr 21 = .int .i64 j ∧ fr 22 = .int .i64 pp ∧
    (s0 < i → ∀ x y, X[i - 1 - a]? = some x → Y[pp - (i - 1) - m]? = some y → 0 ≤ c y x) ∧ (j < r0 → ∀ x y, X[j - a]? = some x → Y[pp - j - m]? = some y → c y x < 0) ∧ h' = h.set b (.cells 11 all)) (r0 - s0) ⟨s0, r0, rfl, by omega, by omega, by omega, e0, e1, e2, e3, e4, e18, e19, e20, e21, e22, by omega, by omega, rfl⟩ ?_
  clear e0 e1 e2 e3 e4 e18 e19 e20 e21 e22
  rintro k fr h' ⟨i, j, rfl, hmi, hij, hjb, e0, e1, e2, e3, e4, e18, e19, e20, e21, e22, hlo, hhi, rfl⟩
  rcases Nat.lt_or_ge i j with hlt | hge
  · have wh := wrap_half (i := i) (j := j) (by omega)
    have ht1 : i ≤ (i + j) / 2 := by omega
    have ht2 : (i + j) / 2 < j := by omega
    generalize (i + j) / 2 = t at wh ht1 ht2
    obtain ⟨k1, k2, k3, k4, k5⟩ := F3 t (by omega) (by omega)
    obtain ⟨x, hx, hx'⟩ := get_lt (l := X) (i := t - a) (by omega)
    obtain ⟨y, hy, hy'⟩ := get_lt (l := Y) (i := pp - t - m) (by omega)
    have hgx := gX t x (by omega) (by omega) hx
    have hgy := gY (pp - t) y (by omega) (by omega) hy
    have w6 : IntKind.i64.wrap ((pp : Int) - t) = (pp - t : Nat) := by rw [wrap64_of (by omega) (by omega)]; omega
    have hxS : x ∈ S := hS x (by simp [List.mem_of_getElem? hx])
    have hyS : y ∈ S := hS y (by simp [List.mem_of_getElem? hy])
    have hxO := hn x hxS
    have hx5 : x.length = 11 := hxO
    have hyO := hn y hyS
    have hy5 : y.length = 11 := hyO
    have tx : x.take 11 = x := List.take_of_length_le (by omega)
    have ty : y.take 11 = y := List.take_of_length_le (by omega)
    have ew := wrap_succ' (i := t) (by omega)
    obtain ⟨u, hu⟩ : ∃ u, pp - t = u := ⟨_, rfl⟩
    rw [hu] at hgy w6
    have hi0 : (0 : Int) ≤ u := by omega
    simp [e0, e1, e2, e3, e4, e18, e19, e20, e21, e22, hlt, wh, w6, hgx, hgy, hb, hal, hx5, hy5]
    refine ⟨by decide, by omega, by omega, ?_⟩
    rw [tx, ty]
    refine callS.pure _ (fun _ => hc y hyS x hxS _) ?_
    simp [e0, e1, e2, e3, e4, e18, e19, e20, e21, e22, wh, ew]
    refine ⟨fun hcy => ⟨j - (t + 1), by omega, t + 1, j, rfl, by omega, by omega, by omega, by omega, by omega, ?_, hhi⟩, fun hcy => ⟨t - i, by omega, i, t, rfl, by omega, by omega, by omega, by omega, by omega, hlo, ?_⟩⟩
    · intro _ x' y' hx' hy'
      rw [show t + 1 - 1 = t by omega] at hx' hy'
      rw [hx] at hx'; rw [hy] at hy'
      injection hx' with hx'; injection hy' with hy'
      rw [← hx', ← hy']; exact hcy
    · intro _ x' y' hx' hy'
      rw [hx] at hx'; rw [hy] at hy'
      injection hx' with hx'; injection hy' with hy'
      rw [← hx', ← hy']; exact hcy
  · obtain rfl : i = j := by omega
    have w7 : IntKind.i64.wrap ((nn : Int) - i) = (nn - i : Nat) := by rw [wrap64_of (by omega) (by omega)]; omega
    obtain ⟨e, he⟩ : ∃ e, nn - i = e := ⟨_, rfl⟩
    rw [he] at w7
    obtain ⟨cur2, cur3, hrot, hsame, hr1, hsame1, hr2, hsame2⟩ := symmSteps_Seen (gl := gl) (h := h) b hb N hl S hn f caps c o hc P X Y Q a m z hX hY sX sY ha hm hz hN hS n hXY ih mid nn i e hm1 hm2 hnn (by omega) (by omega) (by omega) (by omega) he (done i (by omega) (by omega) hlo hhi)
    rw [hall] at hrot hsame
    clear hlo hhi done F3 gX gY ih hS hall sX sY hc
    generalize P ++ (sortR (fun x y => decide (c x y < 0)) (X ++ Y) ++ Q) = fin at *
    by_cases c1 : i < m ∧ m < e
    · simp [e0, e1, e2, e3, e4, e18, e19, e20, e21, e22, w7, c1.1, c1.2]
      refine callS.any (hrot c1.1 c1.2) ?_
      rintro v h' ⟨rfl, rfl⟩
      by_cases c2 : a < i ∧ i < mid
      · simp [e0, e1, e2, e3, e4, e18, e19, e20, e21, e22, w7, c2.1, c2.2]
        refine callS.any (hr1 c2.1 c2.2) ?_
        rintro v h' ⟨rfl, rfl⟩
        by_cases c3 : mid < e ∧ e < z
        · simp [e0, e1, e2, e3, e4, e18, e19, e20, e21, e22, w7, c3.1, c3.2]
          refine callS.any (hr2 c3.1 c3.2) ?_
          rintro v h' ⟨rfl, rfl⟩
          simp
        · simp [e0, e1, e2, e3, e4, e18, e19, e20, e21, e22, w7]
          exact ⟨fun k1 k2 => absurd ⟨k1, k2⟩ c3, fun _ => by rw [hsame2 c3]⟩
      · simp [e0, e1, e2, e3, e4, e18, e19, e20, e21, e22, w7]
        refine ⟨fun k1 k2 => absurd ⟨k1, k2⟩ c2, fun _ => ?_⟩
        rw [hsame1 c2]
        refine ⟨fun k1 k2 => ?_, fun k => by rw [hsame2 (fun hh => by have := k hh.1; omega)]⟩
        refine callS.any (hr2 k1 k2) ?_
        rintro v h' ⟨rfl, rfl⟩
        simp
    · simp [e0, e1, e2, e3, e4, e18, e19, e20, e21, e22, w7]
      refine ⟨fun k1 k2 => absurd ⟨k1, k2⟩ c1, fun _ => ?_⟩
      rw [hsame c1]
      refine ⟨fun k1 k2 => ?_, fun k => ?_⟩
      · refine callS.any (hr1 k1 k2) ?_
        rintro v h' ⟨rfl, rfl⟩
        simp [e0, e1, e2, e3, e4, e18, e19, e20, e21, e22, w7]
        refine ⟨fun k1 k2 => ?_, fun k => by rw [hsame2 (fun hh => by have := k hh.1; omega)]⟩
        refine callS.any (hr2 k1 k2) ?_
        rintro v h' ⟨rfl, rfl⟩
        simp
      · rw [hsame1 (fun hh => by have := k hh.1; omega)]
        refine ⟨fun k1 k2 => ?_, fun k => by rw [hsame2 (fun hh => by have := k hh.1; omega)]⟩
        refine callS.any (hr2 k1 k2) ?_
        rintro v h' ⟨rfl, rfl⟩
        simp
theorem symMerge_Seen (b : Nat) (hb : b < h.length) (N : Nat) (hl : N ≤ 1000000) (S : List (List AV)) (hn : ∀ e ∈ S, e.length = 11) (f : FuncId) (caps : List AV) (c : List AV → List AV → Int) (o : SWO (fun x y => decide (c x y < 0)))
    (hc : ∀ x ∈ S, ∀ y ∈ S, ∀ o, ACalls Try.prog gl f (.agg x :: .agg y :: caps) (h.set b o) fun v h' => v = .int .i64 (c x y) ∧ h' = h.set b o) : ∀ (n : Nat) (P X Y Q : List (List AV)) (a m z : Nat), X.length + Y.length ≤ n → 0 < X.length → 0 < Y.length →
    Srt (fun x y => decide (c x y < 0)) X → Srt (fun x y => decide (c x y < 0)) Y → P.length = a → a + X.length = m → m + Y.length = z → N = z + Q.length → (∀ e ∈ P ++ (X ++ (Y ++ Q)), e ∈ S) →
    ACalls Try.prog gl 59 [.own b 0 N, .int .i64 a, .int .i64 m, .int .i64 z, .fn (.func f) [] caps] (h.set b (.cells 11 (P ++ (X ++ (Y ++ Q)))))
      fun v h' => v = .tup [] ∧ h' = h.set b (.cells 11 (P ++ (sortR (fun x y => decide (c x y < 0)) (X ++ Y) ++ Q))) := by
  intro n
  induction n with
  | zero => intro P X Y Q a m z h1 h2; omega
  | succ n ih =>
    intro P X Y Q a m z hXY hX hY sX sY ha hm hz hN hS
    by_cases hX1 : X.length = 1
    · exact symMergeX_Seen b hb N hl S hn f caps c o hc P X Y Q a m z hX1 hY sX sY ha hm hz hN hS
    by_cases hY1 : Y.length = 1
    · exact symMergeY_Seen b hb N hl S hn f caps c o hc P X Y Q a m z hX1 hX hY1 sX sY ha hm hz hN hS
    exact symMergeG_Seen b hb N hl S hn f caps c o hc n ih P X Y Q a m z hXY hX1 hY1 hX hY sX sY ha hm hz hN hS
end Go.Proofs.Ytmnmbkcdjpidgaa
