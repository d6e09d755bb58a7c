/-
  Caps: the program's way of paying (sort, then pay) is the reference's (pick the first that is left, pay). No program in sight.
-/
import Derived.Test.YtillfoacekifbaaDoorTollCap
import Derived.Test.YtillfoacekifbaaDoorAbsOrd
import Derived.Test.YtillfoacekifbaaDoorAbsList
import Derived.Test.YtillfoacekifbaaDoorTollRate
set_option linter.unusedVariables false
set_option linter.unusedSimpArgs false
namespace Go.Toll
open Go Go.Abs

/-! ### The order -/
def cmpS (a b : Bytes) : Int := if Op.bytesLess a b then -1 else if a = b then 0 else 1
theorem cmpS_eq (a b : Bytes) : cmpS a b = Lib.compareBytes a b := by
  have h1 := cmpB_less a b
  have h2 := cmpB_eq a b
  have h3 := cmpB_vals a b
  rw [cmpS, ← h1]
  by_cases hl : Lib.compareBytes a b < 0
  · rw [if_pos (by simpa using hl)]; omega
  · rw [if_neg (by simpa using hl)]
    by_cases he : a = b
    · rw [if_pos he]; exact (h2.2 he).symm
    · rw [if_neg he]
      have : Lib.compareBytes a b ≠ 0 := fun h => he (h2.1 h)
      omega
theorem ord3_cmpS : Ord3 cmpS := by
  have : cmpS = Lib.compareBytes := by funext a b; exact cmpS_eq a b
  rw [this]; exact ord3_bytes
theorem cmpI_zero {a b : Int} : cmpI a b = 0 ↔ a = b := by
  unfold cmpI
  split
  · omega
  · split <;> omega
theorem cmpI_neg {a b : Int} : cmpI a b < 0 ↔ a < b := by
  unfold cmpI
  split
  · omega
  · split <;> omega
theorem cmpS_zero {a b : Bytes} : cmpS a b = 0 ↔ a = b := by rw [cmpS_eq]; exact cmpB_eq a b
theorem cmpS_neg {a b : Bytes} : cmpS a b < 0 ↔ Op.bytesLess a b = true := by
  rw [cmpS_eq, ← cmpB_less]; simp
def chgCmp (x y : TChg) : Int := if cmpI x.time y.time = 0 then cmpS x.key y.key else cmpI x.time y.time
theorem ord3_chg : Ord3 chgCmp := (ord3_int.comap (fun x : TChg => x.time)).lex (ord3_cmpS.comap (fun x : TChg => x.key))
def chg0 : TChg := ⟨[], [], [], 0, 0, [], 0⟩
def chD (ch : List TChg) (i : Nat) : TChg := ch.getD i chg0
theorem chD_get {ch : List TChg} {i : Nat} {x : TChg} (h : ch[i]? = some x) : chD ch i = x := by simp [chD, List.getD_eq_getElem?_getD, h]
def ltI (ch : List TChg) (i k : Nat) : Bool := decide (chgCmp (chD ch i) (chD ch k) < 0)
theorem swo_ltI (ch : List TChg) : SWO (ltI ch) := (ord3_chg.comap (chD ch)).swo
def ordI (ch : List TChg) : List Nat := sortR (ltI ch) (List.range ch.length)

theorem firstB_iff (x y : TChg) (i k : Nat) : firstB x y i k = true ↔ chgCmp x y < 0 ∨ (chgCmp x y = 0 ∧ i < k) := by
  rw [firstB, chgCmp]
  by_cases ht : x.time = y.time
  · rw [if_neg (by simp [ht]), if_pos (cmpI_zero.2 ht)]
    by_cases hk : x.key = y.key
    · rw [if_neg (by simp [hk]), decide_eq_true_eq]
      have := (cmpS_zero (a := x.key) (b := y.key)).2 hk
      rw [this]
      constructor
      · exact fun h => .inr ⟨rfl, h⟩
      · rintro (h | h)
        · cases h
        · exact h.2
    · rw [if_pos hk, ← cmpS_neg]
      have := fun h => hk ((cmpS_zero (a := x.key) (b := y.key)).1 h)
      exact ⟨.inl, fun h => h.elim id fun h => absurd h.1 this⟩
  · rw [if_pos ht, if_neg (fun h => ht (cmpI_zero.1 h)), decide_eq_true_eq, ← cmpI_neg]
    have := fun h => ht ((cmpI_zero (a := x.time) (b := y.time)).1 h)
    exact ⟨.inl, fun h => h.elim id fun h => absurd h.1 this⟩
theorem firstB_asymm {x y : TChg} {i k : Nat} (h : firstB x y i k = true) : firstB y x k i = false := by
  rw [Bool.eq_false_iff]
  intro h'
  rw [firstB_iff] at h h'
  have h1 := ord3_chg.anti x y
  have h2 := ord3_chg.anti y x
  rcases h with h | h <;> rcases h' with h' | h' <;> omega

/-- Sorted, and equal ones by their places. -/
def Pw (ch : List TChg) (l : List Nat) : Prop := l.Pairwise fun i k => firstB (chD ch i) (chD ch k) i k = true
theorem insR_pw {ch : List TChg} {m : Nat} {l : List Nat} (hs : Srt (ltI ch) l) (hp : Pw ch l) (hm : ∀ i ∈ l, i < m) : Pw ch (insR (ltI ch) m l) := by
  obtain ⟨h1, h2, h3⟩ := insK_spec (swo_ltI ch) m l hs l.length (Nat.le_refl _)
  unfold insR
  generalize insK (ltI ch) m l l.length = k at h1 h2 h3
  have hp' : Pw ch (l.take k ++ l.drop k) := by rw [List.take_append_drop]; exact hp
  have hq := List.pairwise_append.1 hp'
  have ht : ∀ y ∈ l.take k, firstB (chD ch y) (chD ch m) y m = true := by
    intro y hy
    obtain ⟨i, hi⟩ := List.getElem?_of_mem hy
    rw [List.getElem?_take] at hi
    split at hi
    · rename_i hik
      have := h2 i y hik hi
      simp only [ltI, decide_eq_false_iff_not] at this
      have h4 := ord3_chg.anti (chD ch m) (chD ch y)
      have h5 := hm y (List.mem_of_mem_take hy)
      rw [firstB_iff]
      by_cases e : chgCmp (chD ch y) (chD ch m) = 0
      · exact .inr ⟨e, h5⟩
      · exact .inl (by omega)
    · cases hi
  have hd : ∀ y ∈ l.drop k, firstB (chD ch m) (chD ch y) m y = true := by
    intro y hy
    obtain ⟨i, hi⟩ := List.getElem?_of_mem hy
    rw [List.getElem?_drop] at hi
    have := h3 (k + i) y (by omega) (List.getElem?_eq_some_iff.1 hi).1 hi
    simp only [ltI, decide_eq_true_eq] at this
    rw [firstB_iff]; exact .inl this
  refine List.pairwise_append.2 ⟨hq.1, List.pairwise_cons.2 ⟨hd, hq.2.1⟩, fun y hy z hz => ?_⟩
  rcases List.mem_cons.1 hz with rfl | hz
  · exact ht y hy
  · exact hq.2.2 y hy z hz
theorem sort_range_succ (lt : Nat → Nat → Bool) (m : Nat) : sortR lt (List.range (m + 1)) = insR lt m (sortR lt (List.range m)) := by
  rw [sortR, List.range_succ, List.foldl_append]; rfl
theorem sort_pw (ch : List TChg) : ∀ m, Pw ch (sortR (ltI ch) (List.range m))
  | 0 => List.Pairwise.nil
  | m + 1 => by
    rw [sort_range_succ]
    exact insR_pw (sortR_srt (swo_ltI ch) _) (sort_pw ch m) fun i hi => List.mem_range.1 ((mem_sortR _).1 hi)
theorem ord_pw (ch : List TChg) : Pw ch (ordI ch) := sort_pw ch _
theorem ord_mem {ch : List TChg} {i : Nat} : i ∈ ordI ch ↔ i < ch.length := by rw [ordI, mem_sortR, List.mem_range]
theorem ord_len (ch : List TChg) : (ordI ch).length = ch.length := by rw [ordI, sortR_length, List.length_range]
theorem Pw.nodup {ch : List TChg} {l : List Nat} (h : Pw ch l) : l.Nodup := by
  refine List.Pairwise.imp ?_ h
  rintro i k hik rfl
  have := firstB_asymm hik
  rw [hik] at this; cases this
/-- It is the only one. -/
theorem pw_uniq {ch : List TChg} : ∀ {l l' : List Nat}, Pw ch l → Pw ch l' → (∀ i, i ∈ l ↔ i ∈ l') → l = l'
  | [], [], _, _, _ => rfl
  | [], k :: l', _, _, h => by have := (h k).2 (by simp); simp at this
  | i :: l, [], _, _, h => by have := (h i).1 (by simp); simp at this
  | i :: l, k :: l', h1, h2, h => by
    have hn1 := h1.nodup
    have hn2 := h2.nodup
    obtain ⟨p1, p2⟩ := List.pairwise_cons.1 h1
    obtain ⟨q1, q2⟩ := List.pairwise_cons.1 h2
    have : i = k := by
      rcases List.mem_cons.1 ((h i).1 (by simp)) with e | hi
      · exact e
      · rcases List.mem_cons.1 ((h k).2 (by simp)) with e | hk
        · exact e.symm
        · have a := firstB_asymm (q1 i hi)
          rw [p1 k hk] at a; cases a
    subst this
    rw [List.nodup_cons] at hn1 hn2
    have := pw_uniq p2 q2 fun j => by
      constructor
      · intro hj
        rcases List.mem_cons.1 ((h j).1 (List.mem_cons_of_mem _ hj)) with rfl | hj'
        · exact absurd hj hn1.1
        · exact hj'
      · intro hj
        rcases List.mem_cons.1 ((h j).2 (List.mem_cons_of_mem _ hj)) with rfl | hj'
        · exact absurd hj hn2.1
        · exact hj'
    rw [this]

/-! ### Paying one after the other -/
def stepAt (l : List TCap) (ch : List TChg) (s : RSt) (i : Nat) : RSt := match ch[i]? with
  | none => s
  | some x => ⟨s.out.set i (payN l s.paid x x.cents), s.done.set i true, s.paid ++ [{ x with cents := payN l s.paid x x.cents }]⟩
def st0 (ch : List TChg) : RSt := ⟨List.replicate ch.length 0, List.replicate ch.length false, []⟩
def appRun (l : List TCap) (ch : List TChg) : RSt := (ordI ch).foldl (stepAt l ch) (st0 ch)
def appApply (l : List TCap) (ch : List TChg) : List Int := (appRun l ch).out

theorem nextGo_min {ch : List TChg} {done : List Bool} {i : Nat} (hi : i < ch.length) (hd : done[i]? = some false)
    (hmin : ∀ k, k ≠ i → done[k]? = some false → firstB (chD ch i) (chD ch k) i k = true) : ∀ (r pre : List TChg) (a : Option Nat), ch = pre ++ r → (i < pre.length → a = some i) →
      (pre.length ≤ i → ∀ k, a = some k → k < pre.length ∧ done[k]? = some false) → nextGo ch done r pre.length a = some i
  | [], pre, a, hch, h1, h2 => by
    rw [nextGo]
    exact h1 (by rw [hch] at hi; simpa using hi)
  | x :: r, pre, a, hch, h1, h2 => by
    rw [nextGo]
    have hx : ch[pre.length]? = some x := by rw [hch]; simp
    have ih := nextGo_min hi hd hmin r (pre ++ [x]) (if done[pre.length]? = some false ∧ firstO ch x pre.length a = true then some pre.length else a) (by rw [hch]; simp)
    rw [List.length_append, List.length_singleton] at ih
    apply ih
    · intro hlt
      by_cases e : i = pre.length
      · subst e
        rw [if_pos]
        refine ⟨hd, ?_⟩
        cases a with
        | none => rfl
        | some k =>
          obtain ⟨hk, hkd⟩ := h2 (Nat.le_refl _) k rfl
          have hky : ∃ y, ch[k]? = some y := ⟨_, List.getElem?_eq_getElem (by omega)⟩
          obtain ⟨y, hy⟩ := hky
          have := hmin k (by omega) hkd
          rw [chD_get hx, chD_get hy] at this
          simp only [firstO, hy]; exact this
      · have ha := h1 (by omega)
        rw [if_neg]
        · exact ha
        · rintro ⟨q1, q2⟩
          have hiy : ∃ y, ch[i]? = some y := ⟨_, List.getElem?_eq_getElem hi⟩
          obtain ⟨y, hy⟩ := hiy
          rw [ha] at q2
          simp only [firstO, hy] at q2
          have := firstB_asymm (hmin pre.length (Ne.symm e) q1)
          rw [chD_get hx, chD_get hy] at this
          rw [q2] at this; cases this
    · intro hle k hk
      split at hk
      · rename_i hc
        obtain rfl : pre.length = k := by simpa using hk
        exact ⟨by omega, hc.1⟩
      · have := h2 (by omega) k hk
        exact ⟨by omega, this.2⟩
theorem nextI_min {ch : List TChg} {done : List Bool} {i : Nat} (hi : i < ch.length) (hd : done[i]? = some false)
    (hmin : ∀ k, k ≠ i → done[k]? = some false → firstB (chD ch i) (chD ch k) i k = true) : nextI ch done = some i :=
  nextGo_min hi hd hmin ch [] none rfl (fun h => by simp at h) (fun _ k h => by cases h)

theorem run_eq (l : List TCap) (ch : List TChg) : ∀ (rest pre : List Nat) (s : RSt), ordI ch = pre ++ rest → s.done.length = ch.length → (∀ i, s.done[i]? = some false ↔ i ∈ rest) →
    refRun l ch rest.length s = rest.foldl (stepAt l ch) s
  | [], _, _, _, _, _ => rfl
  | i :: rest, pre, s, ho, hl, hd => by
    have hpw : Pw ch (pre ++ i :: rest) := ho ▸ ord_pw ch
    have hpw2 := List.pairwise_cons.1 (List.pairwise_append.1 hpw).2.1
    have hil : i < ch.length := ord_mem.1 (by rw [ho]; simp)
    have hn : nextI ch s.done = some i := nextI_min hil ((hd i).2 (by simp)) fun k hk hkd => by
      rcases List.mem_cons.1 ((hd k).1 hkd) with e | hk'
      · exact absurd e hk
      · exact hpw2.1 k hk'
    have hnd := List.nodup_cons.1 (List.nodup_append.1 hpw.nodup).2.1
    obtain ⟨x, hx⟩ : ∃ x, ch[i]? = some x := ⟨_, List.getElem?_eq_getElem hil⟩
    have hstep : refStep l ch s = stepAt l ch s i := by rw [refStep, hn]; rfl
    rw [List.length_cons, refRun, hstep, List.foldl_cons]
    refine run_eq l ch rest (pre ++ [i]) _ (by rw [ho]; simp) ?_ ?_
    · simp only [stepAt, hx]; rw [List.length_set]; exact hl
    · intro k
      simp only [stepAt, hx]
      rw [List.getElem?_set]
      by_cases e : i = k
      · subst e
        rw [if_pos rfl, if_pos (by omega)]
        simp [hnd.1]
      · rw [if_neg e, hd k, List.mem_cons]
        constructor
        · rintro (rfl | h)
          · exact absurd rfl e
          · exact h
        · exact .inr
/-- The two ways agree. -/
theorem ref_app (l : List TCap) (ch : List TChg) : refApply l ch = appApply l ch := by
  have h := run_eq l ch (ordI ch) [] (st0 ch) rfl (by simp [st0]) fun i => by
    rw [ord_mem]
    simp [st0, List.getElem?_replicate]
  rw [ord_len] at h
  rw [refApply, appApply, appRun, ← h]; rfl

/-! ### What was paid for a cap in a period -/
def sumC (c : TCap) (p : Int) : List TChg → Int
  | [] => 0
  | x :: l => (if countsB c p x then x.cents else 0) + sumC c p l
theorem leftR_sum (c : TCap) (p : Int) : ∀ (l : List TChg) (a : Int), leftR c p l a = a - sumC c p l
  | [], a => by rw [leftR, sumC]; omega
  | x :: l, a => by
    rw [leftR, sumC, leftR_sum c p l]
    split <;> omega
theorem sumC_append (c : TCap) (p : Int) : ∀ (l r : List TChg), sumC c p (l ++ r) = sumC c p l + sumC c p r
  | [], r => by rw [List.nil_append, sumC]; omega
  | x :: l, r => by rw [List.cons_append, sumC, sumC, sumC_append c p l r]; omega
theorem sumC_one (c : TCap) (p : Int) (y : TChg) : sumC c p [y] = if countsB c p y then y.cents else 0 := by rw [sumC, sumC]; omega

/-- No cap is exceeded. -/
def Fine (l : List TCap) (paid : List TChg) : Prop := (∀ y ∈ paid, 0 ≤ y.cents) ∧ ∀ c ∈ l, ∀ p, 0 ≤ sumC c p paid ∧ sumC c p paid ≤ c.cents
/-- A charge whose time has periods. -/
def perOk (l : List TCap) (x : TChg) : Prop := ∀ c ∈ l, 0 ≤ perI c.days x.time
theorem leftI_fine {l : List TCap} {paid : List TChg} (h : Fine l paid) {x : TChg} (hx : perOk l x) {c : TCap} (hc : c ∈ l) : leftI c paid x.time = c.cents - sumC c (perI c.days x.time) paid := by
  rw [leftI, if_neg (by have := hx c hc; omega), leftR_sum]
  have := h.2 c hc (perI c.days x.time)
  omega
theorem payN_le (l₀ : List TCap) {paid : List TChg} (h : Fine l₀ paid) {x : TChg} (hx : perOk l₀ x) : ∀ (l : List TCap) (n : Int), (∀ c ∈ l, c ∈ l₀) → 0 ≤ n →
    0 ≤ payN l paid x n ∧ payN l paid x n ≤ n ∧ (∀ c ∈ l, matchB c x = true → payN l paid x n ≤ c.cents - sumC c (perI c.days x.time) paid) ∧
    (payN l paid x n = n ∨ ∃ c ∈ l, matchB c x = true ∧ payN l paid x n = c.cents - sumC c (perI c.days x.time) paid)
  | [], n, _, hn => ⟨hn, Int.le_refl _, by simp, .inl rfl⟩
  | c :: l, n, hl, hn => by
    have hs : payN (c :: l) paid x n = payN l paid x (if matchB c x then min n (leftI c paid x.time) else n) := rfl
    rw [hs]
    have hcl := hl c (by simp)
    rw [leftI_fine h hx hcl]
    have hf := h.2 c hcl (perI c.days x.time)
    by_cases hm : matchB c x = true
    · rw [if_pos hm]
      obtain ⟨a1, a2, a3, a4⟩ := payN_le l₀ h hx l (min n (c.cents - sumC c (perI c.days x.time) paid)) (fun d hd => hl d (by simp [hd])) (by omega)
      refine ⟨a1, by omega, fun d hd hm' => ?_, ?_⟩
      · rcases List.mem_cons.1 hd with rfl | hd
        · omega
        · exact a3 d hd hm'
      · rcases a4 with a4 | ⟨d, hd, hm', e⟩
        · by_cases hle : n ≤ c.cents - sumC c (perI c.days x.time) paid
          · exact .inl (by omega)
          · exact .inr ⟨c, by simp, hm, by omega⟩
        · exact .inr ⟨d, by simp [hd], hm', e⟩
    · rw [if_neg hm]
      obtain ⟨a1, a2, a3, a4⟩ := payN_le l₀ h hx l n (fun d hd => hl d (by simp [hd])) hn
      refine ⟨a1, a2, fun d hd hm' => ?_, ?_⟩
      · rcases List.mem_cons.1 hd with rfl | hd
        · exact absurd hm' hm
        · exact a3 d hd hm'
      · rcases a4 with a4 | ⟨d, hd, hm', e⟩
        · exact .inl a4
        · exact .inr ⟨d, by simp [hd], hm', e⟩
theorem fine_nil {l : List TCap} (hl : ∀ c ∈ l, okC c.cents) : Fine l [] := ⟨by simp, fun c hc p => by rw [sumC]; have := (hl c hc).1; omega⟩
theorem fine_step {l : List TCap} {paid : List TChg} (h : Fine l paid) {x : TChg} (hx : perOk l x) (hc : 0 ≤ x.cents) : Fine l (paid ++ [{ x with cents := payN l paid x x.cents }]) := by
  obtain ⟨a1, a2, a3, a4⟩ := payN_le l h hx l x.cents (fun c hc => hc) hc
  refine ⟨fun y hy => ?_, fun c hcl p => ?_⟩
  · rcases List.mem_append.1 hy with hy | hy
    · exact h.1 y hy
    · rw [List.mem_singleton.1 hy]; exact a1
  · rw [sumC_append, sumC_one]
    have := h.2 c hcl p
    split
    · rename_i hq
      simp only [countsB, Bool.and_eq_true, decide_eq_true_eq] at hq
      obtain ⟨hm, hp⟩ := hq
      have := a3 c hcl hm
      rw [hp] at this
      show 0 ≤ _ + payN l paid x x.cents ∧ _ + payN l paid x x.cents ≤ _
      omega
    · omega

/-- The charges that are paid, in their order. -/
def paySeq (l : List TCap) : List TChg → List TChg → List TChg
  | paid, [] => paid
  | paid, x :: r => paySeq l (paid ++ [{ x with cents := payN l paid x x.cents }]) r
theorem paySeq_len (l : List TCap) : ∀ (r paid : List TChg), (paySeq l paid r).length = paid.length + r.length
  | [], paid => by rw [paySeq]; simp
  | x :: r, paid => by rw [paySeq, paySeq_len l r, List.length_append]; simp; omega
theorem paySeq_pre (l : List TCap) : ∀ (r paid : List TChg), ∃ t, paySeq l paid r = paid ++ t
  | [], paid => ⟨[], by rw [paySeq]; simp⟩
  | x :: r, paid => by
    obtain ⟨t, ht⟩ := paySeq_pre l r (paid ++ [{ x with cents := payN l paid x x.cents }])
    exact ⟨[{ x with cents := payN l paid x x.cents }] ++ t, by rw [paySeq, ht, List.append_assoc]⟩
theorem paySeq_append (l : List TCap) : ∀ (r r' paid : List TChg), paySeq l paid (r ++ r') = paySeq l (paySeq l paid r) r'
  | [], r', paid => rfl
  | x :: r, r', paid => by rw [List.cons_append, paySeq, paySeq, paySeq_append l r]
theorem paySeq_fine (l : List TCap) : ∀ (r paid : List TChg), Fine l paid → (∀ x ∈ r, perOk l x ∧ 0 ≤ x.cents) → Fine l (paySeq l paid r)
  | [], paid, h, _ => h
  | x :: r, paid, h, hr => by
    rw [paySeq]
    exact paySeq_fine l r _ (fine_step h (hr x (by simp)).1 (hr x (by simp)).2) fun y hy => hr y (by simp [hy])

/-- What the state of paying holds. -/
theorem steps_get (l : List TCap) (ch : List TChg) : ∀ (rest : List Nat) (s : RSt), (∀ i ∈ rest, i < ch.length) → rest.Nodup → s.out.length = ch.length →
    (rest.foldl (stepAt l ch) s).paid = paySeq l s.paid (rest.map (chD ch)) ∧ (rest.foldl (stepAt l ch) s).out.length = ch.length ∧
    (∀ j i, rest[j]? = some i → (rest.foldl (stepAt l ch) s).out[i]? = ((paySeq l s.paid (rest.map (chD ch)))[s.paid.length + j]?).map TChg.cents) ∧
    (∀ i, i ∉ rest → (rest.foldl (stepAt l ch) s).out[i]? = s.out[i]?)
  | [], s, _, _, hl => ⟨rfl, hl, by simp, fun _ _ => rfl⟩
  | i :: rest, s, hi, hn, hl => by
    obtain ⟨hn1, hn2⟩ := List.nodup_cons.1 hn
    have hil := hi i (by simp)
    obtain ⟨x, hx⟩ : ∃ x, ch[i]? = some x := ⟨_, List.getElem?_eq_getElem hil⟩
    have hxD := chD_get hx
    have hs : stepAt l ch s i = ⟨s.out.set i (payN l s.paid x x.cents), s.done.set i true, s.paid ++ [{ x with cents := payN l s.paid x x.cents }]⟩ := by simp only [stepAt, hx]
    obtain ⟨h1, h2, h3, h4⟩ := steps_get l ch rest (stepAt l ch s i) (fun k hk => hi k (by simp [hk])) hn2 (by rw [hs]; simpa using hl)
    have hp : paySeq l s.paid ((i :: rest).map (chD ch)) = paySeq l (stepAt l ch s i).paid (rest.map (chD ch)) := by rw [List.map_cons, paySeq, hxD, hs]
    rw [List.foldl_cons, hp]
    refine ⟨h1, h2, fun j k hj => ?_, fun k hk => ?_⟩
    · cases j with
      | zero =>
        obtain rfl : i = k := by simpa using hj
        rw [h4 i hn1]
        obtain ⟨t, ht⟩ := paySeq_pre l (rest.map (chD ch)) (stepAt l ch s i).paid
        rw [ht, hs]
        simp [List.getElem?_append, hl, hil]
      | succ j =>
        have := h3 j k (by simpa using hj)
        rw [this]
        congr 2
        rw [hs]; simp; omega
    · rw [h4 k (fun h => hk (by simp [h])), hs]
      simp only
      rw [List.getElem?_set_ne (fun e => hk (by simp [e]))]

/-- The program's result, by places in the order. -/
theorem app_get (l : List TCap) (ch : List TChg) : (appRun l ch).paid = paySeq l [] ((ordI ch).map (chD ch)) ∧ (appApply l ch).length = ch.length ∧
    ∀ j i : Nat, (ordI ch)[j]? = some i → (appApply l ch)[i]? = ((paySeq l [] ((ordI ch).map (chD ch)))[j]?).map TChg.cents := by
  obtain ⟨h1, h2, h3, h4⟩ := steps_get l ch (ordI ch) (st0 ch) (fun i hi => ord_mem.1 hi) (ord_pw ch).nodup (by simp [st0])
  refine ⟨h1, h2, fun j i hj => ?_⟩
  have := h3 j i hj
  rw [show (st0 ch).paid = [] from rfl, List.length_nil, Nat.zero_add] at this
  exact this

/-! ### Of what is checked -/
theorem apply_ok {l : List TCap} {ch : List TChg} (h : applyErr l ch = 0) : l.length ≤ 12 ∧ ch.length ≤ 1024 ∧ (∀ c ∈ l, okC c.cents ∧ (c.days = 0 ∨ c.days = 1)) ∧ ∀ x ∈ ch, okC x.cents ∧ isTimeB x.time = true ∧ isDayB (dayI x.time) = true := by
  rw [applyErr] at h
  split at h
  · simp at h
  · rename_i h0
    split at h
    · rename_i h1; exact absurd h h1
    · rename_i h1
      refine ⟨by omega, by omega, fun c hc => ?_, fun x hx => ?_⟩
      · have h3 := firstI_zero.1 (Decidable.not_not.1 h1) c hc
        rw [capErr] at h3
        split at h3
        · simp at h3
        · split at h3
          · simp at h3
          · rename_i hd
            split at h3
            · simp at h3
            · rename_i h4
              have h4 : amountB c.cents = true := by simpa using h4
              exact ⟨by simpa [okC, amountB] using h4, by omega⟩
      · have h3 := firstI_zero.1 h x hx
        rw [chgErr] at h3
        split at h3
        · simp at h3
        · rename_i h4
          have h4 : amountB x.cents = true := by simpa using h4
          split at h3
          · simp at h3
          · rename_i h5
            rw [not_or] at h5
            exact ⟨by simpa [okC, amountB] using h4, by simpa using h5.1, by simpa using h5.2⟩
theorem perOk_of {l : List TCap} {ch : List TChg} (h : applyErr l ch = 0) {x : TChg} (hx : x ∈ ch) : perOk l x := by
  obtain ⟨_, _, h3, h4⟩ := apply_ok h
  obtain ⟨_, h5, h6⟩ := h4 x hx
  intro c hc
  rcases (h3 c hc).2 with e | e
  · rw [e]
    have := mt (perI_month h5).1 (by rw [h6]; simp)
    omega
  · rw [e]
    have := mt (perI_day x.time).1 (by rw [h5]; simp)
    omega

/-! ### The map of what is paid: by the number of a cap and a period -/
def encE (e : Int × Int × Int) : AV × AV := (.agg [.int .i64 e.1, .int .i64 e.2.1], .int .i64 e.2.2)
def lookE : List (Int × Int × Int) → Int → Int → Option Int
  | [], _, _ => none
  | e :: l, k, p => if k = e.1 ∧ p = e.2.1 then some e.2.2 else lookE l k p
def setE : List (Int × Int × Int) → Int → Int → Int → List (Int × Int × Int)
  | [], k, p, v => [(k, p, v)]
  | e :: l, k, p, v => if k = e.1 ∧ p = e.2.1 then (k, p, v) :: l else e :: setE l k p v
theorem look_set : ∀ (l : List (Int × Int × Int)) (k p v k' p' : Int), lookE (setE l k p v) k' p' = if k' = k ∧ p' = p then some v else lookE l k' p'
  | [], k, p, v, k', p' => rfl
  | e :: l, k, p, v, k', p' => by
    rw [setE]
    by_cases h : k = e.1 ∧ p = e.2.1
    · rw [if_pos h, lookE, lookE]
      simp only
      by_cases h' : k' = k ∧ p' = p
      · rw [if_pos h', if_pos h']
      · rw [if_neg h', if_neg h', if_neg (by rw [← h.1, ← h.2]; exact h')]
    · rw [if_neg h, lookE, lookE, look_set l]
      by_cases h' : k' = e.1 ∧ p' = e.2.1
      · rw [if_pos h', if_pos h', if_neg (fun q => h ⟨by rw [← q.1]; exact h'.1, by rw [← q.2]; exact h'.2⟩)]
      · rw [if_neg h', if_neg h']
theorem ceq_E (k p : Int) (e : Int × Int × Int) : ceq (acells (.agg [.int .i64 k, .int .i64 p])) (acells (encE e).1) = (decide (k = e.1) && decide (p = e.2.1)) := by
  simp only [encE, acells, ceq, ceq1, Bool.and_true]
  rw [Bool.eq_iff_iff]; simp
theorem alook_E : ∀ (l : List (Int × Int × Int)) (k p : Int), alook (l.map encE) (.agg [.int .i64 k, .int .i64 p]) = (lookE l k p).map fun n => .int .i64 n
  | [], k, p => rfl
  | e :: l, k, p => by
    rw [List.map_cons, alook_cons, ceq_E, lookE, alook_E l]
    by_cases h : k = e.1 ∧ p = e.2.1
    · rw [if_pos (by simp [h]), if_pos h]; rfl
    · rw [if_neg (by simpa using h), if_neg h]
theorem aset_E : ∀ (l : List (Int × Int × Int)) (k p v : Int), aset (l.map encE) (.agg [.int .i64 k, .int .i64 p]) (.int .i64 v) = (setE l k p v).map encE
  | [], k, p, v => rfl
  | e :: l, k, p, v => by
    rw [List.map_cons, aset_cons, ceq_E, setE, aset_E l]
    by_cases h : k = e.1 ∧ p = e.2.1
    · rw [if_pos (by simp [h]), if_pos h]; rfl
    · rw [if_neg (by simpa using h), if_neg h]; rfl
theorem aentry_E (l : List (Int × Int × Int)) (k p v : Int) (z : AV) : aentry (aput (l.map encE) (.agg [.int .i64 k, .int .i64 p]) z) (aplace (l.map encE) (.agg [.int .i64 k, .int .i64 p])) (.int .i64 v) = (setE l k p v).map encE := by
  rw [aput_set, aset_E]
  intro q hq hc
  obtain ⟨e, _, rfl⟩ := List.mem_map.1 hq
  rw [ceq_E] at hc
  simp at hc
  simp [encE, hc]
theorem alookD_E (l : List (Int × Int × Int)) (k p : Int) : (alook (l.map encE) (.agg [.int .i64 k, .int .i64 p])).getD (.int .i64 0) = .int .i64 ((lookE l k p).getD 0) := by
  rw [alook_E]; cases lookE l k p <;> rfl
def putE (l : List (Int × Int × Int)) (k p : Int) : List (Int × Int × Int) := if (lookE l k p).isSome then l else l ++ [(k, p, 0)]
theorem aidx_E : ∀ (l : List (Int × Int × Int)) (k p : Int), (aidx (l.map encE) (.agg [.int .i64 k, .int .i64 p])).isSome = (lookE l k p).isSome
  | [], k, p => rfl
  | e :: l, k, p => by
    rw [List.map_cons, aidx_cons, ceq_E, lookE]
    by_cases h : k = e.1 ∧ p = e.2.1
    · rw [if_pos (by simp [h]), if_pos h]; rfl
    · rw [if_neg (by simpa using h), if_neg h, Option.isSome_map, aidx_E l]
theorem aput_E (l : List (Int × Int × Int)) (k p : Int) : aput (l.map encE) (.agg [.int .i64 k, .int .i64 p]) (.int .i64 0) = (putE l k p).map encE := by
  have h := aidx_E l k p
  unfold aput putE
  cases hx : aidx (l.map encE) (.agg [.int .i64 k, .int .i64 p]) with
  | none => rw [hx] at h; rw [← h]; simp [encE]
  | some i => rw [hx] at h; rw [← h]; simp
theorem look_snoc : ∀ (l : List (Int × Int × Int)) (k p : Int), lookE l k p = none → lookE (l ++ [(k, p, 0)]) k p = some 0
  | [], k, p, _ => by simp [lookE]
  | e :: l, k, p, h => by
    rw [lookE] at h
    rw [List.cons_append, lookE]
    split at h
    · cases h
    · rename_i hn; rw [if_neg hn, look_snoc l k p h]
theorem look_put (l : List (Int × Int × Int)) (k p : Int) : (lookE (putE l k p) k p).getD 0 = (lookE l k p).getD 0 := by
  unfold putE
  cases h : lookE l k p with
  | none => simp [look_snoc l k p h]
  | some v => simp [h]
theorem aentry_put (l : List (Int × Int × Int)) (k p v : Int) : aentry ((putE l k p).map encE) (aplace (l.map encE) (.agg [.int .i64 k, .int .i64 p])) (.int .i64 v) = (setE l k p v).map encE := by
  rw [← aput_E, aentry_E]
theorem aplace_E (l : List (Int × Int × Int)) (k p : Int) : aplace (l.map encE) (.agg [.int .i64 k, .int .i64 p]) < (putE l k p).length := by
  have := aplace_lt (l.map encE) (.agg [.int .i64 k, .int .i64 p]) (.int .i64 0)
  rwa [aput_E, List.length_map] at this
theorem mem_E {l : List (Int × Int × Int)} {a b : AV} : (a, b) ∈ l.map encE ↔ ∃ k p n, (k, p, n) ∈ l ∧ a = .agg [.int .i64 k, .int .i64 p] ∧ b = .int .i64 n := by
  simp only [List.mem_map, encE]
  constructor
  · rintro ⟨⟨k, p, n⟩, h, e⟩
    injection e with e1 e2
    exact ⟨k, p, n, h, e1.symm, e2.symm⟩
  · rintro ⟨k, p, n, h, rfl, rfl⟩
    exact ⟨(k, p, n), h, rfl⟩
/-- The map holds what is paid for the first caps, some of them told with one charge more. -/
def MapOk (l : List TCap) (ms : List (Int × Int × Int)) (paid paid' : List TChg) (k : Nat) : Prop :=
  ∀ (i : Nat) (c : TCap) (p : Int), l[i]? = some c → (lookE ms i p).getD 0 = if i < k then sumC c p paid' else sumC c p paid
theorem MapOk.set {l : List TCap} {ms : List (Int × Int × Int)} {paid paid' : List TChg} {k : Nat} (h : MapOk l ms paid paid' k) {c : TCap} (hc : l[k]? = some c) {p v : Int} (hv : v = sumC c p paid') (ho : ∀ p', p' ≠ p → sumC c p' paid' = sumC c p' paid) :
    MapOk l (setE ms k p v) paid paid' (k + 1) := by
  intro i d q hd
  rw [look_set]
  have hi := h i d q hd
  by_cases e : i = k
  · subst e
    obtain rfl : c = d := by rw [hc] at hd; exact Option.some.inj hd
    rw [if_neg (by omega)] at hi
    by_cases e2 : q = p
    · subst e2; simp [hv]
    · simp [e2, hi, ho q e2]
  · have e' : ¬ ((i : Int) = (k : Int) ∧ q = p) := by omega
    rw [if_neg e', hi]
    by_cases e3 : i < k
    · rw [if_pos e3, if_pos (by omega)]
    · rw [if_neg e3, if_neg (by omega)]
theorem MapOk.skip {l : List TCap} {ms : List (Int × Int × Int)} {paid paid' : List TChg} {k : Nat} (h : MapOk l ms paid paid' k) {c : TCap} (hc : l[k]? = some c) (ho : ∀ p', sumC c p' paid' = sumC c p' paid) : MapOk l ms paid paid' (k + 1) := by
  intro i d q hd
  have hi := h i d q hd
  by_cases e : i = k
  · subst e
    obtain rfl : c = d := by rw [hc] at hd; exact Option.some.inj hd
    rw [if_neg (by omega)] at hi
    rw [hi, if_pos (by omega), ho q]
  · rw [hi]
    by_cases e3 : i < k
    · rw [if_pos e3, if_pos (by omega)]
    · rw [if_neg e3, if_neg (by omega)]
theorem MapOk.done {l : List TCap} {ms : List (Int × Int × Int)} {paid paid' : List TChg} {k : Nat} (h : MapOk l ms paid paid' k) (hk : l.length ≤ k) (paid'' : List TChg) : MapOk l ms paid' paid'' 0 := by
  intro i c p hc
  have := h i c p hc
  have hi := (List.getElem?_eq_some_iff.1 hc).1
  rw [if_pos (by omega)] at this
  rw [if_neg (by omega), this]
theorem sumC_other {c : TCap} {paid : List TChg} {y : TChg} {p : Int} (h : countsB c p y = false) : sumC c p (paid ++ [y]) = sumC c p paid := by
  rw [sumC_append, sumC_one, h]; simp

/-! ### The order as it is filled in -/
def encNat (k : Nat) : List AV := [.int .i64 (k : Int)]
def ordC (n i : Nat) : List (List AV) := (List.range i).map encNat ++ List.replicate (n - i) [.int .i64 0]
theorem ordC_len {n i : Nat} (h : i ≤ n) : (ordC n i).length = n := by simp [ordC]; omega
theorem ordC_at {n i : Nat} (h : i < n) : (ordC n i)[i]? = some [.int .i64 0] := by
  unfold ordC
  rw [List.getElem?_append_right (by simp), List.length_map, List.length_range, Nat.sub_self, show n - i = (n - (i + 1)) + 1 by omega, List.replicate_succ]
  rfl
theorem ordC_zero (n : Nat) : List.replicate n [AV.int .i64 0] = ordC n 0 := by simp [ordC]
theorem ordC_all (n : Nat) : ordC n n = (List.range n).map encNat := by simp [ordC]
theorem ordC_set {n i : Nat} (h : i < n) : (ordC n i).set i [.int .i64 (i : Int)] = ordC n (i + 1) := by
  unfold ordC
  rw [List.set_append, if_neg (by simp), List.length_map, List.length_range, Nat.sub_self, show n - i = (n - (i + 1)) + 1 by omega, List.replicate_succ, List.set_cons_zero, List.range_succ, List.map_append, List.append_assoc]
  rfl
def toN (e : List AV) : Nat := (aint (e.getD 0 .junk)).toNat
theorem toN_enc (k : Nat) : toN (encNat k) = k := by simp [toN, encNat, aint]
theorem sort_enc (ch : List TChg) (l : List Nat) : sortR (fun x y => decide (chgCmp (chD ch (toN x)) (chD ch (toN y)) < 0)) (l.map encNat) = (sortR (ltI ch) l).map encNat :=
  sortR_map (fun x y => by rw [toN_enc, toN_enc]; rfl) l
theorem swo_enc (ch : List TChg) : SWO (fun x y : List AV => decide (chgCmp (chD ch (toN x)) (chD ch (toN y)) < 0)) := (ord3_chg.comap fun e : List AV => chD ch (toN e)).swo

def stN (l : List TCap) (ch : List TChg) (j : Nat) : RSt := ((ordI ch).take j).foldl (stepAt l ch) (st0 ch)
theorem stN_zero (l : List TCap) (ch : List TChg) : stN l ch 0 = st0 ch := rfl
theorem stN_succ {l : List TCap} {ch : List TChg} {j i : Nat} {x : TChg} (h : (ordI ch)[j]? = some i) (hx : ch[i]? = some x) :
    stN l ch (j + 1) = ⟨(stN l ch j).out.set i (payN l (stN l ch j).paid x x.cents), (stN l ch j).done.set i true, (stN l ch j).paid ++ [{ x with cents := payN l (stN l ch j).paid x x.cents }]⟩ := by
  rw [stN, List.take_add_one, h, List.foldl_append]
  simp only [Option.toList, List.foldl_cons, List.foldl_nil]
  rw [← stN, stepAt, hx]
theorem stN_all (l : List TCap) (ch : List TChg) : (stN l ch ch.length).out = appApply l ch := by
  rw [stN, List.take_of_length_le (by rw [ord_len]; exact Nat.le_refl _)]; rfl
end Go.Toll
