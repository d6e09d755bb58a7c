/-
  Caps: no cap is exceeded, and a charge is reduced only where one is reached; many charges; the order does not matter. No program in sight.
-/
import Derived.Test.YtillfoacekifbaaDoorTollPay
set_option linter.unusedVariables false
set_option linter.unusedSimpArgs false
namespace Go.Toll
open Go Go.Abs

theorem sumC_perm {c : TCap} {p : Int} {l l' : List TChg} (h : l.Perm l') : sumC c p l = sumC c p l' := by
  induction h with
  | nil => rfl
  | cons x _ ih => rw [sumC, sumC, ih]
  | swap x y l => rw [sumC, sumC, sumC, sumC]; omega
  | trans _ _ h1 h2 => exact h1.trans h2
theorem sumC_nonneg {c : TCap} {p : Int} : ∀ {l : List TChg}, (∀ y ∈ l, 0 ≤ y.cents) → 0 ≤ sumC c p l
  | [], _ => Int.le_refl _
  | x :: l, h => by
    rw [sumC]
    have h1 := h x (by simp)
    have h2 := sumC_nonneg (c := c) (p := p) (l := l) fun y hy => h y (by simp [hy])
    split <;> omega

/-- What was paid of one charge. -/
def paidOf (ch : List TChg) (P : List Int) (i : Nat) : TChg := { chD ch i with cents := P.getD i 0 }
theorem paySeq_data (l : List TCap) : ∀ (r paid : List TChg) (j : Nat) (x : TChg), r[j]? = some x → ∃ n, (paySeq l paid r)[paid.length + j]? = some { x with cents := n }
  | [], _, _, _, h => by simp at h
  | y :: r, paid, 0, x, h => by
    obtain rfl : y = x := by simpa using h
    obtain ⟨t, ht⟩ := paySeq_pre l r (paid ++ [{ y with cents := payN l paid y y.cents }])
    refine ⟨payN l paid y y.cents, ?_⟩
    rw [paySeq, ht]; simp
  | y :: r, paid, j + 1, x, h => by
    obtain ⟨n, hn⟩ := paySeq_data l r (paid ++ [{ y with cents := payN l paid y y.cents }]) j x (by simpa using h)
    refine ⟨n, ?_⟩
    rw [paySeq, ← hn]; congr 1; simp; omega
theorem paid_map (l : List TCap) (ch : List TChg) : paySeq l [] ((ordI ch).map (chD ch)) = (ordI ch).map (paidOf ch (appApply l ch)) := by
  refine List.ext_getElem? fun j => ?_
  have hlen := paySeq_len l ((ordI ch).map (chD ch)) []
  rw [List.getElem?_map]
  cases hj : (ordI ch)[j]? with
  | none =>
    rw [Option.map_none, List.getElem?_eq_none]
    rw [hlen]; simpa using List.getElem?_eq_none_iff.1 hj
  | some i =>
    obtain ⟨n, hn⟩ := paySeq_data l ((ordI ch).map (chD ch)) [] j (chD ch i) (by simp [hj])
    rw [List.length_nil, Nat.zero_add] at hn
    have h2 := (app_get l ch).2.2 j i hj
    rw [hn] at h2 ⊢
    simp only [Option.map_some] at h2 ⊢
    simp only [paidOf, List.getD_eq_getElem?_getD, h2, Option.getD_some]
theorem ord_perm (ch : List TChg) : (ordI ch).Perm (List.range ch.length) :=
  (List.perm_ext_iff_of_nodup (ord_pw ch).nodup List.nodup_range).2 fun i => by rw [ord_mem, List.mem_range]

/-- What is paid in the period of a time. -/
def totI (c : TCap) (p : Int) : List TChg → List Int → Int
  | x :: l, n :: P => (if countsB c p x then n else 0) + totI c p l P
  | _, _ => 0
theorem totI_sum (c : TCap) (p : Int) : ∀ (ch : List TChg) (P : List Int), P.length = ch.length → totI c p ch P = sumC c p ((List.range ch.length).map (paidOf ch P))
  | [], P, h => by
    have : P = [] := List.eq_nil_of_length_eq_zero h
    subst this; rfl
  | x :: l, [], h => by simp at h
  | x :: l, n :: P, h => by
    rw [totI, List.length_cons, List.range_succ_eq_map, List.map_cons, sumC, totI_sum c p l P (by simpa using h), List.map_map]
    have h1 : ((paidOf (x :: l) (n :: P)) ∘ Nat.succ) = paidOf l P := by
      funext i
      simp [paidOf, chD]
    rw [h1]
    congr 1
theorem tot_final (l : List TCap) (ch : List TChg) (c : TCap) (p : Int) : totI c p ch (appApply l ch) = sumC c p (paySeq l [] ((ordI ch).map (chD ch))) := by
  rw [totI_sum c p ch _ (app_get l ch).2.1, paid_map]
  exact (sumC_perm ((ord_perm ch).map _)).symm

/-- THE THEOREM OF THE STAGE. -/
theorem never {l : List TCap} {ch : List TChg} (h : applyErr l ch = 0) {i : Nat} {x : TChg} (hx : ch[i]? = some x) :
    ∃ n, (appApply l ch)[i]? = some n ∧ 0 ≤ n ∧ n ≤ x.cents ∧ (∀ c ∈ l, matchB c x = true → totI c (perI c.days x.time) ch (appApply l ch) ≤ c.cents) ∧
      (n = x.cents ∨ ∃ c ∈ l, matchB c x = true ∧ totI c (perI c.days x.time) ch (appApply l ch) = c.cents) := by
  obtain ⟨_, _, hcaps, hchgs⟩ := apply_ok h
  have hil := (List.getElem?_eq_some_iff.1 hx).1
  obtain ⟨j, hj⟩ := List.getElem?_of_mem (ord_mem.2 hil)
  have hall : ∀ y ∈ (ordI ch).map (chD ch), perOk l y ∧ 0 ≤ y.cents := by
    intro y hy
    obtain ⟨k, hk, rfl⟩ := List.mem_map.1 hy
    have hkl := ord_mem.1 hk
    have hkx : ch[k]? = some ch[k] := List.getElem?_eq_getElem hkl
    rw [chD_get hkx]
    have hm := List.mem_of_getElem? hkx
    exact ⟨perOk_of h hm, (hchgs _ hm).1.1⟩
  have hf0 := fine_nil fun c hc => (hcaps c hc).1
  have hfin := paySeq_fine l _ _ hf0 hall
  -- the moment at which it is paid
  have hsplit : ordI ch = (ordI ch).take j ++ i :: (ordI ch).drop (j + 1) := by
    rw [← drop_get hj, List.take_append_drop]
  have hseq : paySeq l [] ((ordI ch).map (chD ch)) = paySeq l (paySeq l [] (((ordI ch).take j).map (chD ch)) ++ [{ x with cents := payN l (paySeq l [] (((ordI ch).take j).map (chD ch))) x x.cents }]) (((ordI ch).drop (j + 1)).map (chD ch)) := by
    conv => lhs; rw [hsplit]
    rw [List.map_append, paySeq_append, List.map_cons, chD_get hx, paySeq]
  have hf1 : Fine l (paySeq l [] (((ordI ch).take j).map (chD ch))) := paySeq_fine l _ _ hf0 fun y hy => hall y (by
    obtain ⟨k, hk, rfl⟩ := List.mem_map.1 hy
    exact List.mem_map.2 ⟨k, List.mem_of_mem_take hk, rfl⟩)
  have hxm := List.mem_of_getElem? hx
  have hper := perOk_of h hxm
  obtain ⟨a1, a2, a3, a4⟩ := payN_le l hf1 hper l x.cents (fun c hc => hc) (hchgs x hxm).1.1
  have hlen : (paySeq l [] (((ordI ch).take j).map (chD ch))).length = j := by
    rw [paySeq_len]; simp
    have := (List.getElem?_eq_some_iff.1 hj).1
    omega
  generalize hpaid : paySeq l [] (((ordI ch).take j).map (chD ch)) = paid at *
  obtain ⟨t, ht⟩ := paySeq_pre l (((ordI ch).drop (j + 1)).map (chD ch)) (paid ++ [{ x with cents := payN l paid x x.cents }])
  have hout : (appApply l ch)[i]? = some (payN l paid x x.cents) := by
    rw [(app_get l ch).2.2 j i hj, hseq, ht]
    simp [List.getElem?_append, hlen]
  have htail : ∀ y ∈ t, 0 ≤ y.cents := fun y hy => hfin.1 y (by rw [hseq, ht]; simp [hy])
  refine ⟨_, hout, a1, a2, fun c hc hm => ?_, ?_⟩
  · rw [tot_final]; exact (hfin.2 c hc _).2
  · rcases a4 with a4 | ⟨c, hc, hm, e⟩
    · exact .inl a4
    · refine .inr ⟨c, hc, hm, ?_⟩
      have h1 := (hfin.2 c hc (perI c.days x.time)).2
      rw [tot_final]
      rw [hseq, ht, sumC_append, sumC_append, sumC_one] at h1 ⊢
      have hct : countsB c (perI c.days x.time) { x with cents := payN l paid x x.cents } = true := by
        have m' : matchB c { x with cents := payN l paid x x.cents } = true := hm
        simp [countsB, m']
      rw [if_pos hct] at h1 ⊢
      have h2 := sumC_nonneg (c := c) (p := perI c.days x.time) htail
      simp only at h1 ⊢
      omega

/-! ### Many charges -/
def chgM (t : Int) : TChg := ⟨[], [], [], 0, t, [], 1⟩
def manyC (n : Nat) : List TChg := (List.range n).map fun i => chgM (i : Nat)
theorem many_get {n i : Nat} (h : i < n) : (manyC n)[i]? = some (chgM i) := by simp [manyC, h]
theorem chgCmp_M {a b : Int} (h : b < a) : chgCmp (chgM a) (chgM b) = 1 := by
  have h1 : cmpI (chgM a).time (chgM b).time = 1 := by
    show cmpI a b = 1
    unfold cmpI; rw [if_neg (by omega), if_pos h]
  rw [chgCmp, if_neg (by rw [h1]; omega), h1]
theorem chgErr_M {t : Nat} (h : t < 86400) : chgErr (chgM t) = 0 := by
  have h0 : amountB (chgM t).cents = true := rfl
  have h1 : isTimeB (chgM t).time = true := by show isTimeB (t : Int) = true; simp [isTimeB]; omega
  have h2 : dayI (chgM t).time = 0 := by
    show dayI (t : Int) = 0
    rw [dayI, if_pos (by simp [isTimeB]; omega)]
    have : (t : Int).tdiv 86400 = ((t / 86400 : Nat) : Int) := by rw [Int.tdiv_eq_ediv_of_nonneg (by omega)]; rfl
    rw [this, Nat.div_eq_of_lt h]; rfl
  rw [chgErr, if_neg (by rw [h0]; decide), if_neg (by rw [h1, h2]; decide)]
theorem ord_many (n : Nat) : ordI (manyC n) = List.range n := by
  have hl : (manyC n).length = n := by simp [manyC]
  rw [ordI, hl]
  refine sortR_of_srt (swo_ltI _) (List.pairwise_iff_getElem.2 fun i k hi hk hik => ?_)
  simp only [List.length_range] at hi hk
  simp only [List.getElem_range]
  rw [ltI, decide_eq_false_iff_not, chD_get (many_get hi), chD_get (many_get hk), chgCmp_M (by omega)]
  omega
def capL (L : Nat) : TCap := ⟨[100], [], 1, L⟩
def oneI (L n : Nat) : Int := if n < L then 1 else 0
def payQ (L n : Nat) : List TChg := (List.range n).map fun i => { chgM (i : Nat) with cents := oneI L i }
theorem payQ_succ (L n : Nat) : payQ L (n + 1) = payQ L n ++ [{ chgM n with cents := oneI L n }] := by
  rw [payQ, List.range_succ, List.map_append]; rfl
theorem perI_small {t : Nat} (h : t < 86400) : perI 1 (t : Int) = 0 := by
  have hd : dayI (t : Int) = 0 := by
    rw [dayI, if_pos (by simp [isTimeB]; omega)]
    have : (t : Int).tdiv 86400 = ((t / 86400 : Nat) : Int) := by rw [Int.tdiv_eq_ediv_of_nonneg (by omega)]; rfl
    rw [this, Nat.div_eq_of_lt h]; rfl
  rw [perI, hd]; rfl
theorem counts_L {L n : Nat} {m : Int} (h : n < 86400) : countsB (capL L) 0 { chgM n with cents := m } = true := by
  have h1 : perI 1 (n : Int) = 0 := perI_small h
  have h2 : matchB (capL L) { chgM n with cents := m } = true := rfl
  have h3 : perI (capL L).days ({ chgM n with cents := m } : TChg).time = 0 := h1
  rw [countsB, h2, h3]; rfl
theorem sum_payQ (L : Nat) : ∀ n, n < 86400 → sumC (capL L) 0 (payQ L n) = ((min n L : Nat) : Int)
  | 0, _ => by rw [Nat.zero_min]; rfl
  | n + 1, h => by
    rw [payQ_succ, sumC_append, sumC_one, sum_payQ L n (by omega), if_pos (counts_L (by omega))]
    show _ + oneI L n = _
    unfold oneI
    split <;> omega
theorem payN_one (c : TCap) (paid : List TChg) (x : TChg) (n : Int) (h : matchB c x = true) : payN [c] paid x n = min n (leftI c paid x.time) := by
  simp [payN, h]
theorem payN_many (L n : Nat) (h : n < 86400) : payN [capL L] (payQ L n) (chgM n) 1 = oneI L n := by
  have hp : perI (capL L).days (chgM n).time = 0 := perI_small (t := n) h
  rw [payN_one _ _ _ _ rfl, leftI, hp, if_neg (by omega), leftR_sum, sum_payQ L n h]
  show min 1 (max ((L : Int) - _) 0) = _
  unfold oneI
  split <;> omega
theorem paySeq_many (L : Nat) : ∀ m n, n + m < 86400 → paySeq [capL L] (payQ L n) ((List.range' n m).map fun i => chgM (i : Nat)) = payQ L (n + m)
  | 0, n, _ => rfl
  | m + 1, n, h => by
    have h1 : payN [capL L] (payQ L n) (chgM n) (chgM n).cents = oneI L n := payN_many L n (by omega)
    have ih := paySeq_many L m (n + 1) (by omega)
    rw [List.range'_succ, List.map_cons, paySeq, h1, ← payQ_succ, ih, Nat.add_assoc, Nat.add_comm 1 m]
theorem app_many (L n : Nat) (h : n < 86400) : appApply [capL L] (manyC n) = (List.range n).map (oneI L) := by
  have hl : (manyC n).length = n := by simp [manyC]
  have hseq : paySeq [capL L] [] ((ordI (manyC n)).map (chD (manyC n))) = payQ L n := by
    rw [ord_many]
    have : (List.range n).map (chD (manyC n)) = (List.range' 0 n).map fun i => chgM (i : Nat) := by
      rw [← List.range_eq_range']
      exact List.map_congr_left fun i hi => chD_get (many_get (List.mem_range.1 hi))
    rw [this]
    have := paySeq_many L n 0 (by omega)
    rwa [Nat.zero_add] at this
  obtain ⟨_, h2, h3⟩ := app_get [capL L] (manyC n)
  refine List.ext_getElem? fun i => ?_
  rcases Nat.lt_or_ge i n with hi | hi
  · rw [h3 i i (by rw [ord_many]; simp [hi]), hseq]
    simp [payQ, hi]
  · rw [List.getElem?_eq_none (by omega), List.getElem?_eq_none (by simp; omega)]
theorem apply_many (n : Nat) : applyErr [capL 1000] (manyC n) = if 1024 < n then 3 else 0 := by
  have hl : (manyC n).length = n := by simp [manyC]
  rw [applyErr, hl]
  by_cases h : 1024 < n
  · rw [if_pos (.inr h), if_pos h]
  · have hc : firstI capErr [capL 1000] = 0 := by decide +kernel
    rw [if_neg (by simp; omega), if_neg h, if_neg (by simp [hc])]
    refine firstI_zero.2 fun x hx => ?_
    obtain ⟨i, hi, rfl⟩ := List.mem_map.1 hx
    have hi := List.mem_range.1 hi
    exact chgErr_M (by omega)
theorem apply_spoilt (n : Nat) (x : TChg) (r : List TChg) (hx : chgErr x = 12) (hr : r.length + 1 = n) : applyErr [capL 1000] (x :: r) = if 1024 < n then 3 else 12 := by
  have hl : (x :: r).length = n := by rw [List.length_cons, hr]
  rw [applyErr, hl]
  by_cases h : 1024 < n
  · rw [if_pos (.inr h), if_pos h]
  · have hc : firstI capErr [capL 1000] = 0 := by decide +kernel
    rw [if_neg (by simp; omega), if_neg h, if_neg (by simp [hc]), firstI, if_pos (by rw [hx]; decide), hx]
end Go.Toll
