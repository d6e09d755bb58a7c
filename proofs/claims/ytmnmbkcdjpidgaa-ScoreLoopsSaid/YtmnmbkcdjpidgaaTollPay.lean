/-
  The calendar: years and months of a day, from the first of 2001, and with leaps of 400 years.
  Caps and charges: their data, how they show as abstract values, what is checked, and what is left.
  Caps: the program's way of paying (sort, then pay) is the reference's (pick the first that is left, pay). No program in sight.
-/
import Derived.Test.YtmnmbkcdjpidgaaTollBase
import Derived.Test.YtmnmbkcdjpidgaaTollNet
import Derived.Test.YtmnmbkcdjpidgaaAbsSort
import Derived.Test.YtmnmbkcdjpidgaaAbsList
import Derived.Test.YtmnmbkcdjpidgaaTollCmp
set_option linter.unusedVariables false
set_option linter.unusedSimpArgs false

section 

namespace Go.Toll
open Go Go.Abs

def leapB (y : Nat) : Bool := (y % 4 == 0 && y % 100 != 0) || y % 400 == 0
def ylen (y : Nat) : Nat := if leapB y then 366 else 365
theorem ylen_pos (y : Nat) : 365 ≤ ylen y ∧ ylen y ≤ 366 := by rw [ylen]; split <;> omega
/-- The year of a day that is counted from the first of a year, and the day of that year. -/
def yearGo (y rest : Nat) : Nat × Nat := if rest < ylen y then (y, rest) else yearGo (y + 1) (rest - ylen y)
termination_by rest
decreasing_by have := (ylen_pos y).1; omega
def years (y : Nat) : Nat → Nat
  | 0 => 0
  | n + 1 => ylen y + years (y + 1) n

theorem yearGo_skip (r : Nat) : ∀ n y, yearGo y (r + years y n) = yearGo (y + n) r
  | 0, y => rfl
  | n + 1, y => by
    rw [yearGo, years, if_neg (by omega), show r + (ylen y + years (y + 1) n) - ylen y = r + years (y + 1) n by omega, yearGo_skip r n (y + 1), show y + 1 + n = y + (n + 1) by omega]
theorem leapB_400 (y : Nat) : leapB (y + 400) = leapB y := by
  have h1 : (y + 400) % 4 = y % 4 := by omega
  have h2 : (y + 400) % 100 = y % 100 := by omega
  have h3 : (y + 400) % 400 = y % 400 := by omega
  rw [leapB, leapB, h1, h2, h3]
theorem years_400 : ∀ n y, years (y + 400) n = years y n
  | 0, y => rfl
  | n + 1, y => by
    rw [years, years, show y + 400 + 1 = y + 1 + 400 by omega, years_400 n (y + 1), ylen, ylen, leapB_400]
theorem years_cycle : ∀ q, years (2001 + 400 * q) 400 = 146097
  | 0 => by decide +kernel
  | q + 1 => by rw [show 2001 + 400 * (q + 1) = 2001 + 400 * q + 400 by omega, years_400, years_cycle q]
theorem yearGo_cycle (r : Nat) : ∀ q, yearGo 2001 (r + 146097 * q) = yearGo (2001 + 400 * q) r
  | 0 => rfl
  | q + 1 => by
    rw [show r + 146097 * (q + 1) = (r + 146097) + 146097 * q by omega, yearGo_cycle (r + 146097) q]
    have h := yearGo_skip r 400 (2001 + 400 * q)
    rw [years_cycle q] at h
    rw [h, show 2001 + 400 * q + 400 = 2001 + 400 * (q + 1) by omega]
/-- The program's way gives the reference's year. -/
theorem yearGo_div (d : Nat) : yearGo (2001 + d / 146097 * 400) (d % 146097) = yearGo 2001 d := by
  have h := yearGo_cycle (d % 146097) (d / 146097)
  rw [Nat.mod_add_div] at h
  rw [h, Nat.mul_comm]
theorem yearGo_lt : ∀ (rest y : Nat), (yearGo y rest).2 < ylen (yearGo y rest).1 := by
  intro rest
  induction rest using Nat.strongRecOn with
  | ind rest ih =>
    intro y
    rw [yearGo]
    split
    · assumption
    · exact ih _ (by have := (ylen_pos y).1; omega) _

def mlens (y : Nat) : List Nat := [31, if leapB y then 29 else 28, 31, 30, 31, 30, 31, 31, 30, 31, 30, 31]
def monthGo : List Nat → Nat → Nat → Nat × Nat
  | [], m, r => (m, r)
  | n :: l, m, r => if r < n then (m, r) else monthGo l (m + 1) (r - n)
theorem mlens_sum (y : Nat) : (mlens y).sum = ylen y := by
  rw [mlens, ylen]; split <;> rfl
theorem mlens_len (y : Nat) : (mlens y).length = 12 := rfl
theorem monthGo_le : ∀ (l : List Nat) (m r : Nat), r < l.sum → m ≤ (monthGo l m r).1 ∧ (monthGo l m r).1 < m + l.length
  | [], m, r, h => by simp at h
  | n :: l, m, r, h => by
    rw [monthGo]
    split
    · simp
    · have := monthGo_le l (m + 1) (r - n) (by rw [List.sum_cons] at h; omega)
      rw [List.length_cons]; omega

/-- Year, month, day of the month; three times 0: none. -/
def dateN (d : Nat) : Nat × Nat × Nat := ((yearGo 2001 d).1, (monthGo (mlens (yearGo 2001 d).1) 1 (yearGo 2001 d).2).1, (monthGo (mlens (yearGo 2001 d).1) 1 (yearGo 2001 d).2).2 + 1)
def dateI (d : Int) : Int × Int × Int := if isDayB d then ((dateN d.toNat).1, (dateN d.toNat).2.1, (dateN d.toNat).2.2) else (0, 0, 0)
theorem yearGo_ge : ∀ (rest y : Nat), y ≤ (yearGo y rest).1 ∧ (yearGo y rest).1 * 365 + (yearGo y rest).2 ≤ y * 365 + rest := by
  intro rest
  induction rest using Nat.strongRecOn with
  | ind rest ih =>
    intro y
    rw [yearGo]
    split
    · exact ⟨Nat.le_refl _, Nat.le_refl _⟩
    · have h := (ylen_pos y).1
      have := ih (rest - ylen y) (by omega) (y + 1)
      omega
theorem dateN_month (d : Nat) : 1 ≤ (dateN d).2.1 ∧ (dateN d).2.1 ≤ 12 := by
  have h := monthGo_le (mlens (yearGo 2001 d).1) 1 (yearGo 2001 d).2 (by rw [mlens_sum]; exact yearGo_lt d 2001)
  rw [mlens_len] at h
  exact ⟨h.1, by have := h.2; simp only [dateN]; omega⟩
theorem dateN_year (d : Nat) : 2001 ≤ (dateN d).1 := (yearGo_ge d 2001).1

/-! ### Periods -/
def perI (days t : Int) : Int :=
  if dayI t < 0 then -1 else if days = 1 then dayI t else if days = 0 then
    if isDayB (dayI t) then 12 * ((dateI (dayI t)).1 - 2001) + (dateI (dayI t)).2.1 - 1 else -1
  else -1
end Go.Toll
end

section 

namespace Go.Toll
open Go Go.Abs

structure TCap where
  name : Bytes
  sys : Bytes
  days : Int
  cents : Int
deriving DecidableEq
/-- A charge; its lines are never looked at. -/
structure TChg where
  key : Bytes
  veh : Bytes
  sys : Bytes
  cls : Int
  time : Int
  lines : List (List AV)
  cents : Int
def encCap (c : TCap) : List AV := [.str c.name, .str c.sys, .int .i64 c.days, .int .i64 c.cents]
def encChg (x : TChg) : List AV := [.str x.key, .str x.veh, .str x.sys, .int .i64 x.cls, .int .i64 x.time, .ro x.lines, .int .i64 x.cents]
@[simp] theorem encCap_len (c : TCap) : (encCap c).length = 4 := rfl
@[simp] theorem encChg_len (c : TChg) : (encChg c).length = 7 := rfl
@[simp] theorem encCap_eq (c : TCap) : encCap c = [.str c.name, .str c.sys, .int .i64 c.days, .int .i64 c.cents] := rfl
@[simp] theorem encChg_eq (x : TChg) : encChg x = [.str x.key, .str x.veh, .str x.sys, .int .i64 x.cls, .int .i64 x.time, .ro x.lines, .int .i64 x.cents] := rfl

def amountB (n : Int) : Bool := decide (0 ≤ n) && decide (n ≤ 1125899906842624)
def capErr (c : TCap) : Int :=
  if nameB c.name = false ∨ (c.sys ≠ [] ∧ nameB c.sys = false) then 6 else if c.days ≠ 0 ∧ c.days ≠ 1 then 1 else if amountB c.cents = false then 13 else 0
def matchB (c : TCap) (x : TChg) : Bool := decide (c.sys = []) || decide (c.sys = x.sys)

/-! ### What is left -/
def countsB (c : TCap) (p : Int) (x : TChg) : Bool := matchB c x && decide (perI c.days x.time = p)
def leftR (c : TCap) (p : Int) : List TChg → Int → Int
  | [], a => a
  | x :: l, a => leftR c p l (if countsB c p x then a - x.cents else a)
def leftP (c : TCap) (p : Int) : List TChg → Int → Int
  | [], a => a
  | x :: l, a => leftP c p l (if countsB c p x then a - min x.cents (max a 0) else a)
theorem leftR_neg (c : TCap) (p : Int) : ∀ (l : List TChg) (a : Int), (∀ x ∈ l, 0 ≤ x.cents) → a ≤ 0 → leftR c p l a ≤ 0
  | [], a, h, ha => ha
  | x :: l, a, h, ha => by
    rw [leftR]
    have := h x (by simp)
    exact leftR_neg c p l _ (fun y hy => h y (by simp [hy])) (by split <;> omega)
/-- The program's way of reducing gives what is left. -/
theorem leftP_eq (c : TCap) (p : Int) : ∀ (l : List TChg) (a : Int), (∀ x ∈ l, 0 ≤ x.cents) → 0 ≤ a → leftP c p l a = max (leftR c p l a) 0
  | [], a, h, ha => by rw [leftP, leftR]; omega
  | x :: l, a, h, ha => by
    have hx := h x (by simp)
    have hl : ∀ y ∈ l, 0 ≤ y.cents := fun y hy => h y (by simp [hy])
    rw [leftP, leftR]
    split
    · by_cases hle : x.cents ≤ a
      · rw [show a - min x.cents (max a 0) = a - x.cents by omega]
        exact leftP_eq c p l _ hl (by omega)
      · rw [show a - min x.cents (max a 0) = 0 by omega, leftP_eq c p l 0 hl (by omega)]
        have h1 := leftR_neg c p l 0 hl (by omega)
        have h2 := leftR_neg c p l (a - x.cents) hl (by omega)
        omega
    · exact leftP_eq c p l a hl ha
theorem leftP_nonneg (c : TCap) (p : Int) (l : List TChg) (a : Int) (h : ∀ x ∈ l, 0 ≤ x.cents) (ha : 0 ≤ a) : 0 ≤ leftP c p l a := by
  rw [leftP_eq c p l a h ha]; omega
def leftI (c : TCap) (l : List TChg) (t : Int) : Int := if perI c.days t < 0 then 0 else max (leftR c (perI c.days t) l c.cents) 0
/-- An amount that is not negative and fits. -/
def okC (n : Int) : Prop := 0 ≤ n ∧ n ≤ 1125899906842624

/-! ### What Apply checks -/
/-- The first number that is not 0; 0: none. -/
def firstI {α : Type} (f : α → Int) : List α → Int
  | [] => 0
  | x :: l => if f x ≠ 0 then f x else firstI f l
def chgErr (x : TChg) : Int := if amountB x.cents = false then 13 else if isTimeB x.time = false ∨ isDayB (dayI x.time) = false then 12 else 0
def applyErr (l : List TCap) (ch : List TChg) : Int :=
  if 12 < l.length ∨ 1024 < ch.length then 3 else if firstI capErr l ≠ 0 then firstI capErr l else firstI chgErr ch
theorem firstI_zero {α : Type} {f : α → Int} : ∀ {l : List α}, firstI f l = 0 ↔ ∀ x ∈ l, f x = 0
  | [] => by simp [firstI]
  | x :: l => by
    rw [firstI]
    by_cases h : f x = 0
    · rw [if_neg (by simp [h]), firstI_zero]; simp [h]
    · rw [if_pos h]; simp [h]
theorem perI_day (t : Int) : perI 1 t < 0 ↔ isTimeB t = false := by
  rw [perI, dayI]
  cases ht : isTimeB t with
  | false => simp
  | true =>
    have := isTime_range ht
    have h2 : 0 ≤ t.tdiv 86400 := Int.tdiv_nonneg this.1 (by omega)
    simp only [if_true]
    rw [if_neg (by omega)]
    simp; omega
theorem perI_month {t : Int} (ht : isTimeB t = true) : perI 0 t < 0 ↔ isDayB (dayI t) = false := by
  have h := isTime_range ht
  have h2 : 0 ≤ t.tdiv 86400 := Int.tdiv_nonneg h.1 (by omega)
  have hd : dayI t = t.tdiv 86400 := by rw [dayI, if_pos ht]
  rw [perI, if_neg (by omega), if_neg (by omega), if_pos rfl]
  cases hq : isDayB (dayI t) with
  | false => simp
  | true =>
    rw [if_pos rfl, dateI, if_pos hq]
    have h3 := dateN_month (dayI t).toNat
    have h4 := dateN_year (dayI t).toNat
    simp only
    constructor
    · intro; omega
    · intro h; simp at h

def encN (n : Int) : List AV := [.int .i64 n]
@[simp] theorem encN_eq (n : Int) : encN n = [.int .i64 n] := rfl
/-- Is the charge at one place processed before that at another one? -/
def firstB (x y : TChg) (i k : Nat) : Bool := if x.time ≠ y.time then decide (x.time < y.time) else if x.key ≠ y.key then Op.bytesLess x.key y.key else decide (i < k)
def fitsC (l : List TChg) : Bool := decide (l.length ≤ 60) && l.all fun x => amountB x.cents

/-! The place that is processed next, out of places from i on; a: the best before. -/
def firstO (l : List TChg) (x : TChg) (i : Nat) : Option Nat → Bool
  | none => true
  | some k => match l[k]? with
    | some y => firstB x y i k
    | none => true
def nextGo (l : List TChg) (done : List Bool) : List TChg → Nat → Option Nat → Option Nat
  | [], _, a => a
  | x :: r, i, a => nextGo l done r (i + 1) (if done[i]? = some false ∧ firstO l x i a = true then some i else a)
def nextI (l : List TChg) (done : List Bool) : Option Nat := nextGo l done l 0 none
def encB (b : Bool) : List AV := [.bool b]
@[simp] theorem encB_eq (b : Bool) : encB b = [.bool b] := rfl

theorem nextGo_some {l : List TChg} {done : List Bool} : ∀ (r : List TChg) (i : Nat) (a : Option Nat) (k : Nat), nextGo l done r i a = some k → a = some k ∨ (done[k]? = some false ∧ i ≤ k ∧ k < i + r.length)
  | [], i, a, k, h => .inl h
  | x :: r, i, a, k, h => by
    rw [nextGo] at h
    rcases nextGo_some r (i + 1) _ k h with h1 | ⟨h1, h2, h3⟩
    · split at h1
      · rename_i hc
        obtain rfl : i = k := by simpa using h1
        exact .inr ⟨hc.1, Nat.le_refl _, by rw [List.length_cons]; omega⟩
      · exact .inl h1
    · exact .inr ⟨h1, by omega, by rw [List.length_cons]; omega⟩
theorem nextGo_none {l : List TChg} {done : List Bool} : ∀ (r : List TChg) (i : Nat) (a : Option Nat), nextGo l done r i a = none → a = none ∧ ∀ j, i ≤ j → j < i + r.length → done[j]? ≠ some false
  | [], i, a, h => ⟨h, fun j h1 h2 => by simp at h2; omega⟩
  | x :: r, i, a, h => by
    rw [nextGo] at h
    obtain ⟨h1, h2⟩ := nextGo_none r (i + 1) _ h
    split at h1
    · simp at h1
    · rename_i hc
      subst h1
      refine ⟨rfl, fun j h3 h4 => ?_⟩
      rcases Nat.eq_or_lt_of_le h3 with rfl | h5
      · exact fun h6 => hc ⟨h6, rfl⟩
      · exact h2 j h5 (by rw [List.length_cons] at h4; omega)
theorem next_there {l : List TChg} {done : List Bool} (hd : done.length = l.length) (hc : done.count true < l.length) : ∃ i, nextI l done = some i ∧ done[i]? = some false ∧ i < l.length := by
  cases h : nextI l done with
  | some i =>
    rcases nextGo_some l 0 none i h with h1 | ⟨h1, _, h3⟩
    · simp at h1
    · exact ⟨i, rfl, h1, by omega⟩
  | none =>
    exfalso
    obtain ⟨_, h2⟩ := nextGo_none l 0 none h
    have : done.count true = done.length := by
      rw [List.count_eq_length]
      intro b hb
      obtain ⟨j, hj, hj'⟩ := List.getElem_of_mem hb
      have := h2 j (by omega) (by omega)
      rw [List.getElem?_eq_getElem hj, hj'] at this
      cases b
      · simp at this
      · rfl
    omega

/-! ### The reference's way of paying -/
def payN (l : List TCap) (paid : List TChg) (x : TChg) (n : Int) : Int := l.foldl (fun n c => if matchB c x then min n (leftI c paid x.time) else n) n
structure RSt where
  out : List Int
  done : List Bool
  paid : List TChg
def refStep (l : List TCap) (ch : List TChg) (s : RSt) : RSt :=
  match nextI ch s.done with
  | none => s
  | some i => match ch[i]? with
    | none => s
    | some x => ⟨s.out.set i (payN l s.paid x x.cents), s.done.set i true, s.paid ++ [{ x with cents := payN l s.paid x x.cents }]⟩
def refRun (l : List TCap) (ch : List TChg) : Nat → RSt → RSt
  | 0, s => s
  | n + 1, s => refRun l ch n (refStep l ch s)
def refApply (l : List TCap) (ch : List TChg) : List Int := (refRun l ch ch.length ⟨List.replicate ch.length 0, List.replicate ch.length false, []⟩).out
theorem leftI_ok (c : TCap) (paid : List TChg) (t : Int) (hc : okC c.cents) (hp : ∀ x ∈ paid, 0 ≤ x.cents) : okC (leftI c paid t) := by
  have hR : ∀ (l : List TChg) (p a : Int), (∀ x ∈ l, 0 ≤ x.cents) → leftR c p l a ≤ a := by
    intro l
    induction l with
    | nil => intro p a _; exact Int.le_refl _
    | cons x l ih =>
      intro p a h
      rw [leftR]
      have h1 := h x (by simp)
      by_cases hq : countsB c p x = true
      · rw [if_pos hq]
        have := ih p (a - x.cents) (fun y hy => h y (by simp [hy]))
        omega
      · rw [if_neg hq]
        exact ih p a (fun y hy => h y (by simp [hy]))
  rw [leftI]
  split
  · unfold okC; omega
  · have := hR paid (perI c.days t) c.cents hp
    unfold okC at *; omega
theorem payN_ok (l : List TCap) (paid : List TChg) (x : TChg) : ∀ (n : Int), (∀ c ∈ l, okC c.cents) → (∀ y ∈ paid, 0 ≤ y.cents) → okC n → okC (payN l paid x n) := by
  induction l with
  | nil => intro n _ _ h; exact h
  | cons c l ih =>
    intro n hl hp hn
    refine ih _ (fun d hd => hl d (by simp [hd])) hp ?_
    show okC (if matchB c x then min n (leftI c paid x.time) else n)
    split
    · have := leftI_ok c paid x.time (hl c (by simp)) hp
      unfold okC at *; omega
    · exact hn
end Go.Toll
end

section 

namespace Go.Toll
open Go Go.Abs

/-! ### The order -/
def chgCmp (x y : TChg) : Int := if cmpI x.time y.time = 0 then cmpS x.key y.key else cmpI x.time y.time
theorem ord3_chg : Ord3 chgCmp := (ord3_int.comap (fun x : TChg => x.time)).lex (ord3_cmpS.comap (fun x : TChg => x.key))
def chg0 : TChg := ⟨[], [], [], 0, 0, [], 0⟩
def chD (ch : List TChg) (i : Nat) : TChg := ch.getD i chg0
theorem chD_get {ch : List TChg} {i : Nat} {x : TChg} (h : ch[i]? = some x) : chD ch i = x := by simp [chD, List.getD_eq_getElem?_getD, h]
def ltI (ch : List TChg) (i k : Nat) : Bool := decide (chgCmp (chD ch i) (chD ch k) < 0)
theorem swo_ltI (ch : List TChg) : SWO (ltI ch) := (ord3_chg.comap (chD ch)).swo
def ordI (ch : List TChg) : List Nat := sortR (ltI ch) (List.range ch.length)

theorem firstB_iff (x y : TChg) (i k : Nat) : firstB x y i k = true ↔ chgCmp x y < 0 ∨ (chgCmp x y = 0 ∧ i < k) := by
  rw [firstB, chgCmp]
  by_cases ht : x.time = y.time
  · rw [if_neg (by simp [ht]), if_pos (cmpI_zero.2 ht)]
    by_cases hk : x.key = y.key
    · rw [if_neg (by simp [hk]), decide_eq_true_eq]
      have := (cmpS_zero (a := x.key) (b := y.key)).2 hk
      rw [this]
      constructor
      · exact fun h => .inr ⟨rfl, h⟩
      · rintro (h | h)
        · cases h
        · exact h.2
    · rw [if_pos hk, ← cmpS_neg]
      have := fun h => hk ((cmpS_zero (a := x.key) (b := y.key)).1 h)
      exact ⟨.inl, fun h => h.elim id fun h => absurd h.1 this⟩
  · rw [if_pos ht, if_neg (fun h => ht (cmpI_zero.1 h)), decide_eq_true_eq, ← cmpI_neg]
    have := fun h => ht ((cmpI_zero (a := x.time) (b := y.time)).1 h)
    exact ⟨.inl, fun h => h.elim id fun h => absurd h.1 this⟩
theorem firstB_asymm {x y : TChg} {i k : Nat} (h : firstB x y i k = true) : firstB y x k i = false := by
  rw [Bool.eq_false_iff]
  intro h'
  rw [firstB_iff] at h h'
  have h1 := ord3_chg.anti x y
  have h2 := ord3_chg.anti y x
  rcases h with h | h <;> rcases h' with h' | h' <;> omega

/-- Sorted, and equal ones by their places. -/
def Pw (ch : List TChg) (l : List Nat) : Prop := l.Pairwise fun i k => firstB (chD ch i) (chD ch k) i k = true
theorem insR_pw {ch : List TChg} {m : Nat} {l : List Nat} (hs : Srt (ltI ch) l) (hp : Pw ch l) (hm : ∀ i ∈ l, i < m) : Pw ch (insR (ltI ch) m l) := by
  obtain ⟨h1, h2, h3⟩ := insK_spec (swo_ltI ch) m l hs l.length (Nat.le_refl _)
  unfold insR
  generalize insK (ltI ch) m l l.length = k at h1 h2 h3
  have hp' : Pw ch (l.take k ++ l.drop k) := by rw [List.take_append_drop]; exact hp
  have hq := List.pairwise_append.1 hp'
  have ht : ∀ y ∈ l.take k, firstB (chD ch y) (chD ch m) y m = true := by
    intro y hy
    obtain ⟨i, hi⟩ := List.getElem?_of_mem hy
    rw [List.getElem?_take] at hi
    split at hi
    · rename_i hik
      have := h2 i y hik hi
      simp only [ltI, decide_eq_false_iff_not] at this
      have h4 := ord3_chg.anti (chD ch m) (chD ch y)
      have h5 := hm y (List.mem_of_mem_take hy)
      rw [firstB_iff]
      by_cases e : chgCmp (chD ch y) (chD ch m) = 0
      · exact .inr ⟨e, h5⟩
      · exact .inl (by omega)
    · cases hi
  have hd : ∀ y ∈ l.drop k, firstB (chD ch m) (chD ch y) m y = true := by
    intro y hy
    obtain ⟨i, hi⟩ := List.getElem?_of_mem hy
    rw [List.getElem?_drop] at hi
    have := h3 (k + i) y (by omega) (List.getElem?_eq_some_iff.1 hi).1 hi
    simp only [ltI, decide_eq_true_eq] at this
    rw [firstB_iff]; exact .inl this
  refine List.pairwise_append.2 ⟨hq.1, List.pairwise_cons.2 ⟨hd, hq.2.1⟩, fun y hy z hz => ?_⟩
  rcases List.mem_cons.1 hz with rfl | hz
  · exact ht y hy
  · exact hq.2.2 y hy z hz
theorem sort_range_succ (lt : Nat → Nat → Bool) (m : Nat) : sortR lt (List.range (m + 1)) = insR lt m (sortR lt (List.range m)) := by
  rw [sortR, List.range_succ, List.foldl_append]; rfl
theorem sort_pw (ch : List TChg) : ∀ m, Pw ch (sortR (ltI ch) (List.range m))
  | 0 => List.Pairwise.nil
  | m + 1 => by
    rw [sort_range_succ]
    exact insR_pw (sortR_srt (swo_ltI ch) _) (sort_pw ch m) fun i hi => List.mem_range.1 ((mem_sortR _).1 hi)
theorem ord_pw (ch : List TChg) : Pw ch (ordI ch) := sort_pw ch _
theorem ord_mem {ch : List TChg} {i : Nat} : i ∈ ordI ch ↔ i < ch.length := by rw [ordI, mem_sortR, List.mem_range]
theorem ord_len (ch : List TChg) : (ordI ch).length = ch.length := by rw [ordI, sortR_length, List.length_range]
theorem Pw.nodup {ch : List TChg} {l : List Nat} (h : Pw ch l) : l.Nodup := by
  refine List.Pairwise.imp ?_ h
  rintro i k hik rfl
  have := firstB_asymm hik
  rw [hik] at this; cases this
/-- It is the only one. -/
theorem pw_uniq {ch : List TChg} : ∀ {l l' : List Nat}, Pw ch l → Pw ch l' → (∀ i, i ∈ l ↔ i ∈ l') → l = l'
  | [], [], _, _, _ => rfl
  | [], k :: l', _, _, h => by have := (h k).2 (by simp); simp at this
  | i :: l, [], _, _, h => by have := (h i).1 (by simp); simp at this
  | i :: l, k :: l', h1, h2, h => by
    have hn1 := h1.nodup
    have hn2 := h2.nodup
    obtain ⟨p1, p2⟩ := List.pairwise_cons.1 h1
    obtain ⟨q1, q2⟩ := List.pairwise_cons.1 h2
    have : i = k := by
      rcases List.mem_cons.1 ((h i).1 (by simp)) with e | hi
      · exact e
      · rcases List.mem_cons.1 ((h k).2 (by simp)) with e | hk
        · exact e.symm
        · have a := firstB_asymm (q1 i hi)
          rw [p1 k hk] at a; cases a
    subst this
    rw [List.nodup_cons] at hn1 hn2
    have := pw_uniq p2 q2 fun j => by
      constructor
      · intro hj
        rcases List.mem_cons.1 ((h j).1 (List.mem_cons_of_mem _ hj)) with rfl | hj'
        · exact absurd hj hn1.1
        · exact hj'
      · intro hj
        rcases List.mem_cons.1 ((h j).2 (List.mem_cons_of_mem _ hj)) with rfl | hj'
        · exact absurd hj hn2.1
        · exact hj'
    rw [this]

/-! ### Paying one after the other -/
def stepAt (l : List TCap) (ch : List TChg) (s : RSt) (i : Nat) : RSt := match ch[i]? with
  | none => s
  | some x => ⟨s.out.set i (payN l s.paid x x.cents), s.done.set i true, s.paid ++ [{ x with cents := payN l s.paid x x.cents }]⟩
def st0 (ch : List TChg) : RSt := ⟨List.replicate ch.length 0, List.replicate ch.length false, []⟩
def appRun (l : List TCap) (ch : List TChg) : RSt := (ordI ch).foldl (stepAt l ch) (st0 ch)
def appApply (l : List TCap) (ch : List TChg) : List Int := (appRun l ch).out

theorem nextGo_min {ch : List TChg} {done : List Bool} {i : Nat} (hi : i < ch.length) (hd : done[i]? = some false)
    (hmin : ∀ k, k ≠ i → done[k]? = some false → firstB (chD ch i) (chD ch k) i k = true) : ∀ (r pre : List TChg) (a : Option Nat), ch = pre ++ r → (i < pre.length → a = some i) →
      (pre.length ≤ i → ∀ k, a = some k → k < pre.length ∧ done[k]? = some false) → nextGo ch done r pre.length a = some i
  | [], pre, a, hch, h1, h2 => by
    rw [nextGo]
    exact h1 (by rw [hch] at hi; simpa using hi)
  | x :: r, pre, a, hch, h1, h2 => by
    rw [nextGo]
    have hx : ch[pre.length]? = some x := by rw [hch]; simp
    have ih := nextGo_min hi hd hmin r (pre ++ [x]) (if done[pre.length]? = some false ∧ firstO ch x pre.length a = true then some pre.length else a) (by rw [hch]; simp)
    rw [List.length_append, List.length_singleton] at ih
    apply ih
    · intro hlt
      by_cases e : i = pre.length
      · subst e
        rw [if_pos]
        refine ⟨hd, ?_⟩
        cases a with
        | none => rfl
        | some k =>
          obtain ⟨hk, hkd⟩ := h2 (Nat.le_refl _) k rfl
          have hky : ∃ y, ch[k]? = some y := ⟨_, List.getElem?_eq_getElem (by omega)⟩
          obtain ⟨y, hy⟩ := hky
          have := hmin k (by omega) hkd
          rw [chD_get hx, chD_get hy] at this
          simp only [firstO, hy]; exact this
      · have ha := h1 (by omega)
        rw [if_neg]
        · exact ha
        · rintro ⟨q1, q2⟩
          have hiy : ∃ y, ch[i]? = some y := ⟨_, List.getElem?_eq_getElem hi⟩
          obtain ⟨y, hy⟩ := hiy
          rw [ha] at q2
          simp only [firstO, hy] at q2
          have := firstB_asymm (hmin pre.length (Ne.symm e) q1)
          rw [chD_get hx, chD_get hy] at this
          rw [q2] at this; cases this
    · intro hle k hk
      split at hk
      · rename_i hc
        obtain rfl : pre.length = k := by simpa using hk
        exact ⟨by omega, hc.1⟩
      · have := h2 (by omega) k hk
        exact ⟨by omega, this.2⟩
theorem nextI_min {ch : List TChg} {done : List Bool} {i : Nat} (hi : i < ch.length) (hd : done[i]? = some false)
    (hmin : ∀ k, k ≠ i → done[k]? = some false → firstB (chD ch i) (chD ch k) i k = true) : nextI ch done = some i :=
  nextGo_min hi hd hmin ch [] none rfl (fun h => by simp at h) (fun _ k h => by cases h)

theorem run_eq (l : List TCap) (ch : List TChg) : ∀ (rest pre : List Nat) (s : RSt), ordI ch = pre ++ rest → s.done.length = ch.length → (∀ i, s.done[i]? = some false ↔ i ∈ rest) →
    refRun l ch rest.length s = rest.foldl (stepAt l ch) s
  | [], _, _, _, _, _ => rfl
  | i :: rest, pre, s, ho, hl, hd => by
    have hpw : Pw ch (pre ++ i :: rest) := ho ▸ ord_pw ch
    have hpw2 := List.pairwise_cons.1 (List.pairwise_append.1 hpw).2.1
    have hil : i < ch.length := ord_mem.1 (by rw [ho]; simp)
    have hn : nextI ch s.done = some i := nextI_min hil ((hd i).2 (by simp)) fun k hk hkd => by
      rcases List.mem_cons.1 ((hd k).1 hkd) with e | hk'
      · exact absurd e hk
      · exact hpw2.1 k hk'
    have hnd := List.nodup_cons.1 (List.nodup_append.1 hpw.nodup).2.1
    obtain ⟨x, hx⟩ : ∃ x, ch[i]? = some x := ⟨_, List.getElem?_eq_getElem hil⟩
    have hstep : refStep l ch s = stepAt l ch s i := by rw [refStep, hn]; rfl
    rw [List.length_cons, refRun, hstep, List.foldl_cons]
    refine run_eq l ch rest (pre ++ [i]) _ (by rw [ho]; simp) ?_ ?_
    · simp only [stepAt, hx]; rw [List.length_set]; exact hl
    · intro k
      simp only [stepAt, hx]
      rw [List.getElem?_set]
      by_cases e : i = k
      · subst e
        rw [if_pos rfl, if_pos (by omega)]
        simp [hnd.1]
      · rw [if_neg e, hd k, List.mem_cons]
        constructor
        · rintro (rfl | h)
          · exact absurd rfl e
          · exact h
        · exact .inr
/-- The two ways agree. -/
theorem ref_app (l : List TCap) (ch : List TChg) : refApply l ch = appApply l ch := by
  have h := run_eq l ch (ordI ch) [] (st0 ch) rfl (by simp [st0]) fun i => by
    rw [ord_mem]
    simp [st0, List.getElem?_replicate]
  rw [ord_len] at h
  rw [refApply, appApply, appRun, ← h]; rfl

/-! ### What was paid for a cap in a period -/
def sumC (c : TCap) (p : Int) : List TChg → Int
  | [] => 0
  | x :: l => (if countsB c p x then x.cents else 0) + sumC c p l
theorem leftR_sum (c : TCap) (p : Int) : ∀ (l : List TChg) (a : Int), leftR c p l a = a - sumC c p l
  | [], a => by rw [leftR, sumC]; omega
  | x :: l, a => by
    rw [leftR, sumC, leftR_sum c p l]
    split <;> omega
theorem sumC_append (c : TCap) (p : Int) : ∀ (l r : List TChg), sumC c p (l ++ r) = sumC c p l + sumC c p r
  | [], r => by rw [List.nil_append, sumC]; omega
  | x :: l, r => by rw [List.cons_append, sumC, sumC, sumC_append c p l r]; omega
theorem sumC_one (c : TCap) (p : Int) (y : TChg) : sumC c p [y] = if countsB c p y then y.cents else 0 := by rw [sumC, sumC]; omega

/-- No cap is exceeded. -/
def Fine (l : List TCap) (paid : List TChg) : Prop := (∀ y ∈ paid, 0 ≤ y.cents) ∧ ∀ c ∈ l, ∀ p, 0 ≤ sumC c p paid ∧ sumC c p paid ≤ c.cents
/-- A charge whose time has periods. -/
def perOk (l : List TCap) (x : TChg) : Prop := ∀ c ∈ l, 0 ≤ perI c.days x.time
theorem leftI_fine {l : List TCap} {paid : List TChg} (h : Fine l paid) {x : TChg} (hx : perOk l x) {c : TCap} (hc : c ∈ l) : leftI c paid x.time = c.cents - sumC c (perI c.days x.time) paid := by
  rw [leftI, if_neg (by have := hx c hc; omega), leftR_sum]
  have := h.2 c hc (perI c.days x.time)
  omega
theorem payN_le (l₀ : List TCap) {paid : List TChg} (h : Fine l₀ paid) {x : TChg} (hx : perOk l₀ x) : ∀ (l : List TCap) (n : Int), (∀ c ∈ l, c ∈ l₀) → 0 ≤ n →
    0 ≤ payN l paid x n ∧ payN l paid x n ≤ n ∧ (∀ c ∈ l, matchB c x = true → payN l paid x n ≤ c.cents - sumC c (perI c.days x.time) paid) ∧
    (payN l paid x n = n ∨ ∃ c ∈ l, matchB c x = true ∧ payN l paid x n = c.cents - sumC c (perI c.days x.time) paid)
  | [], n, _, hn => ⟨hn, Int.le_refl _, by simp, .inl rfl⟩
  | c :: l, n, hl, hn => by
    have hs : payN (c :: l) paid x n = payN l paid x (if matchB c x then min n (leftI c paid x.time) else n) := rfl
    rw [hs]
    have hcl := hl c (by simp)
    rw [leftI_fine h hx hcl]
    have hf := h.2 c hcl (perI c.days x.time)
    by_cases hm : matchB c x = true
    · rw [if_pos hm]
      obtain ⟨a1, a2, a3, a4⟩ := payN_le l₀ h hx l (min n (c.cents - sumC c (perI c.days x.time) paid)) (fun d hd => hl d (by simp [hd])) (by omega)
      refine ⟨a1, by omega, fun d hd hm' => ?_, ?_⟩
      · rcases List.mem_cons.1 hd with rfl | hd
        · omega
        · exact a3 d hd hm'
      · rcases a4 with a4 | ⟨d, hd, hm', e⟩
        · by_cases hle : n ≤ c.cents - sumC c (perI c.days x.time) paid
          · exact .inl (by omega)
          · exact .inr ⟨c, by simp, hm, by omega⟩
        · exact .inr ⟨d, by simp [hd], hm', e⟩
    · rw [if_neg hm]
      obtain ⟨a1, a2, a3, a4⟩ := payN_le l₀ h hx l n (fun d hd => hl d (by simp [hd])) hn
      refine ⟨a1, a2, fun d hd hm' => ?_, ?_⟩
      · rcases List.mem_cons.1 hd with rfl | hd
        · exact absurd hm' hm
        · exact a3 d hd hm'
      · rcases a4 with a4 | ⟨d, hd, hm', e⟩
        · exact .inl a4
        · exact .inr ⟨d, by simp [hd], hm', e⟩
theorem fine_nil {l : List TCap} (hl : ∀ c ∈ l, okC c.cents) : Fine l [] := ⟨by simp, fun c hc p => by rw [sumC]; have := (hl c hc).1; omega⟩
theorem fine_step {l : List TCap} {paid : List TChg} (h : Fine l paid) {x : TChg} (hx : perOk l x) (hc : 0 ≤ x.cents) : Fine l (paid ++ [{ x with cents := payN l paid x x.cents }]) := by
  obtain ⟨a1, a2, a3, a4⟩ := payN_le l h hx l x.cents (fun c hc => hc) hc
  refine ⟨fun y hy => ?_, fun c hcl p => ?_⟩
  · rcases List.mem_append.1 hy with hy | hy
    · exact h.1 y hy
    · rw [List.mem_singleton.1 hy]; exact a1
  · rw [sumC_append, sumC_one]
    have := h.2 c hcl p
    split
    · rename_i hq
      simp only [countsB, Bool.and_eq_true, decide_eq_true_eq] at hq
      obtain ⟨hm, hp⟩ := hq
      have := a3 c hcl hm
      rw [hp] at this
      show 0 ≤ _ + payN l paid x x.cents ∧ _ + payN l paid x x.cents ≤ _
      omega
    · omega

/-- The charges that are paid, in their order. -/
def paySeq (l : List TCap) : List TChg → List TChg → List TChg
  | paid, [] => paid
  | paid, x :: r => paySeq l (paid ++ [{ x with cents := payN l paid x x.cents }]) r
theorem paySeq_len (l : List TCap) : ∀ (r paid : List TChg), (paySeq l paid r).length = paid.length + r.length
  | [], paid => by rw [paySeq]; simp
  | x :: r, paid => by rw [paySeq, paySeq_len l r, List.length_append]; simp; omega
theorem paySeq_pre (l : List TCap) : ∀ (r paid : List TChg), ∃ t, paySeq l paid r = paid ++ t
  | [], paid => ⟨[], by rw [paySeq]; simp⟩
  | x :: r, paid => by
    obtain ⟨t, ht⟩ := paySeq_pre l r (paid ++ [{ x with cents := payN l paid x x.cents }])
    exact ⟨[{ x with cents := payN l paid x x.cents }] ++ t, by rw [paySeq, ht, List.append_assoc]⟩
theorem paySeq_append (l : List TCap) : ∀ (r r' paid : List TChg), paySeq l paid (r ++ r') = paySeq l (paySeq l paid r) r'
  | [], r', paid => rfl
  | x :: r, r', paid => by rw [List.cons_append, paySeq, paySeq, paySeq_append l r]
theorem paySeq_fine (l : List TCap) : ∀ (r paid : List TChg), Fine l paid → (∀ x ∈ r, perOk l x ∧ 0 ≤ x.cents) → Fine l (paySeq l paid r)
  | [], paid, h, _ => h
  | x :: r, paid, h, hr => by
    rw [paySeq]
    exact paySeq_fine l r _ (fine_step h (hr x (by simp)).1 (hr x (by simp)).2) fun y hy => hr y (by simp [hy])

/-- What the state of paying holds. -/
theorem steps_get (l : List TCap) (ch : List TChg) : ∀ (rest : List Nat) (s : RSt), (∀ i ∈ rest, i < ch.length) → rest.Nodup → s.out.length = ch.length →
    (rest.foldl (stepAt l ch) s).paid = paySeq l s.paid (rest.map (chD ch)) ∧ (rest.foldl (stepAt l ch) s).out.length = ch.length ∧
    (∀ j i, rest[j]? = some i → (rest.foldl (stepAt l ch) s).out[i]? = ((paySeq l s.paid (rest.map (chD ch)))[s.paid.length + j]?).map TChg.cents) ∧
    (∀ i, i ∉ rest → (rest.foldl (stepAt l ch) s).out[i]? = s.out[i]?)
  | [], s, _, _, hl => ⟨rfl, hl, by simp, fun _ _ => rfl⟩
  | i :: rest, s, hi, hn, hl => by
    obtain ⟨hn1, hn2⟩ := List.nodup_cons.1 hn
    have hil := hi i (by simp)
    obtain ⟨x, hx⟩ : ∃ x, ch[i]? = some x := ⟨_, List.getElem?_eq_getElem hil⟩
    have hxD := chD_get hx
    have hs : stepAt l ch s i = ⟨s.out.set i (payN l s.paid x x.cents), s.done.set i true, s.paid ++ [{ x with cents := payN l s.paid x x.cents }]⟩ := by simp only [stepAt, hx]
    obtain ⟨h1, h2, h3, h4⟩ := steps_get l ch rest (stepAt l ch s i) (fun k hk => hi k (by simp [hk])) hn2 (by rw [hs]; simpa using hl)
    have hp : paySeq l s.paid ((i :: rest).map (chD ch)) = paySeq l (stepAt l ch s i).paid (rest.map (chD ch)) := by rw [List.map_cons, paySeq, hxD, hs]
    rw [List.foldl_cons, hp]
    refine ⟨h1, h2, fun j k hj => ?_, fun k hk => ?_⟩
    · cases j with
      | zero =>
        obtain rfl : i = k := by simpa using hj
        rw [h4 i hn1]
        obtain ⟨t, ht⟩ := paySeq_pre l (rest.map (chD ch)) (stepAt l ch s i).paid
        rw [ht, hs]
        simp [List.getElem?_append, hl, hil]
      | succ j =>
        have := h3 j k (by simpa using hj)
        rw [this]
        congr 2
        rw [hs]; simp; omega
    · rw [h4 k (fun h => hk (by simp [h])), hs]
      simp only
      rw [List.getElem?_set_ne (fun e => hk (by simp [e]))]

/-- The program's result, by places in the order. -/
theorem app_get (l : List TCap) (ch : List TChg) : (appRun l ch).paid = paySeq l [] ((ordI ch).map (chD ch)) ∧ (appApply l ch).length = ch.length ∧
    ∀ j i : Nat, (ordI ch)[j]? = some i → (appApply l ch)[i]? = ((paySeq l [] ((ordI ch).map (chD ch)))[j]?).map TChg.cents := by
  obtain ⟨h1, h2, h3, h4⟩ := steps_get l ch (ordI ch) (st0 ch) (fun i hi => ord_mem.1 hi) (ord_pw ch).nodup (by simp [st0])
  refine ⟨h1, h2, fun j i hj => ?_⟩
  have := h3 j i hj
  rw [show (st0 ch).paid = [] from rfl, List.length_nil, Nat.zero_add] at this
  exact this

/-! ### Of what is checked -/
theorem apply_ok {l : List TCap} {ch : List TChg} (h : applyErr l ch = 0) : l.length ≤ 12 ∧ ch.length ≤ 1024 ∧ (∀ c ∈ l, okC c.cents ∧ (c.days = 0 ∨ c.days = 1)) ∧ ∀ x ∈ ch, okC x.cents ∧ isTimeB x.time = true ∧ isDayB (dayI x.time) = true := by
  rw [applyErr] at h
  split at h
  · simp at h
  · rename_i h0
    split at h
    · rename_i h1; exact absurd h h1
    · rename_i h1
      refine ⟨by omega, by omega, fun c hc => ?_, fun x hx => ?_⟩
      · have h3 := firstI_zero.1 (Decidable.not_not.1 h1) c hc
        rw [capErr] at h3
        split at h3
        · simp at h3
        · split at h3
          · simp at h3
          · rename_i hd
            split at h3
            · simp at h3
            · rename_i h4
              have h4 : amountB c.cents = true := by simpa using h4
              exact ⟨by simpa [okC, amountB] using h4, by omega⟩
      · have h3 := firstI_zero.1 h x hx
        rw [chgErr] at h3
        split at h3
        · simp at h3
        · rename_i h4
          have h4 : amountB x.cents = true := by simpa using h4
          split at h3
          · simp at h3
          · rename_i h5
            rw [not_or] at h5
            exact ⟨by simpa [okC, amountB] using h4, by simpa using h5.1, by simpa using h5.2⟩
theorem perOk_of {l : List TCap} {ch : List TChg} (h : applyErr l ch = 0) {x : TChg} (hx : x ∈ ch) : perOk l x := by
  obtain ⟨_, _, h3, h4⟩ := apply_ok h
  obtain ⟨_, h5, h6⟩ := h4 x hx
  intro c hc
  rcases (h3 c hc).2 with e | e
  · rw [e]
    have := mt (perI_month h5).1 (by rw [h6]; simp)
    omega
  · rw [e]
    have := mt (perI_day x.time).1 (by rw [h5]; simp)
    omega

/-! ### The map of what is paid: by the number of a cap and a period -/
def encE (e : Int × Int × Int) : AV × AV := (.agg [.int .i64 e.1, .int .i64 e.2.1], .int .i64 e.2.2)
def lookE : List (Int × Int × Int) → Int → Int → Option Int
  | [], _, _ => none
  | e :: l, k, p => if k = e.1 ∧ p = e.2.1 then some e.2.2 else lookE l k p
def setE : List (Int × Int × Int) → Int → Int → Int → List (Int × Int × Int)
  | [], k, p, v => [(k, p, v)]
  | e :: l, k, p, v => if k = e.1 ∧ p = e.2.1 then (k, p, v) :: l else e :: setE l k p v
theorem look_set : ∀ (l : List (Int × Int × Int)) (k p v k' p' : Int), lookE (setE l k p v) k' p' = if k' = k ∧ p' = p then some v else lookE l k' p'
  | [], k, p, v, k', p' => rfl
  | e :: l, k, p, v, k', p' => by
    rw [setE]
    by_cases h : k = e.1 ∧ p = e.2.1
    · rw [if_pos h, lookE, lookE]
      simp only
      by_cases h' : k' = k ∧ p' = p
      · rw [if_pos h', if_pos h']
      · rw [if_neg h', if_neg h', if_neg (by rw [← h.1, ← h.2]; exact h')]
    · rw [if_neg h, lookE, lookE, look_set l]
      by_cases h' : k' = e.1 ∧ p' = e.2.1
      · rw [if_pos h', if_pos h', if_neg (fun q => h ⟨by rw [← q.1]; exact h'.1, by rw [← q.2]; exact h'.2⟩)]
      · rw [if_neg h', if_neg h']
theorem ceq_E (k p : Int) (e : Int × Int × Int) : ceq (acells (.agg [.int .i64 k, .int .i64 p])) (acells (encE e).1) = (decide (k = e.1) && decide (p = e.2.1)) := by
  simp only [encE, acells, ceq, ceq1, Bool.and_true]
  rw [Bool.eq_iff_iff]; simp
theorem alook_E : ∀ (l : List (Int × Int × Int)) (k p : Int), alook (l.map encE) (.agg [.int .i64 k, .int .i64 p]) = (lookE l k p).map fun n => .int .i64 n
  | [], k, p => rfl
  | e :: l, k, p => by
    rw [List.map_cons, alook_cons, ceq_E, lookE, alook_E l]
    by_cases h : k = e.1 ∧ p = e.2.1
    · rw [if_pos (by simp [h]), if_pos h]; rfl
    · rw [if_neg (by simpa using h), if_neg h]
theorem aset_E : ∀ (l : List (Int × Int × Int)) (k p v : Int), aset (l.map encE) (.agg [.int .i64 k, .int .i64 p]) (.int .i64 v) = (setE l k p v).map encE
  | [], k, p, v => rfl
  | e :: l, k, p, v => by
    rw [List.map_cons, aset_cons, ceq_E, setE, aset_E l]
    by_cases h : k = e.1 ∧ p = e.2.1
    · rw [if_pos (by simp [h]), if_pos h]; rfl
    · rw [if_neg (by simpa using h), if_neg h]; rfl
theorem aentry_E (l : List (Int × Int × Int)) (k p v : Int) (z : AV) : aentry (aput (l.map encE) (.agg [.int .i64 k, .int .i64 p]) z) (aplace (l.map encE) (.agg [.int .i64 k, .int .i64 p])) (.int .i64 v) = (setE l k p v).map encE := by
  rw [aput_set, aset_E]
  intro q hq hc
  obtain ⟨e, _, rfl⟩ := List.mem_map.1 hq
  rw [ceq_E] at hc
  simp at hc
  simp [encE, hc]
theorem alookD_E (l : List (Int × Int × Int)) (k p : Int) : (alook (l.map encE) (.agg [.int .i64 k, .int .i64 p])).getD (.int .i64 0) = .int .i64 ((lookE l k p).getD 0) := by
  rw [alook_E]; cases lookE l k p <;> rfl
def putE (l : List (Int × Int × Int)) (k p : Int) : List (Int × Int × Int) := if (lookE l k p).isSome then l else l ++ [(k, p, 0)]
theorem aidx_E : ∀ (l : List (Int × Int × Int)) (k p : Int), (aidx (l.map encE) (.agg [.int .i64 k, .int .i64 p])).isSome = (lookE l k p).isSome
  | [], k, p => rfl
  | e :: l, k, p => by
    rw [List.map_cons, aidx_cons, ceq_E, lookE]
    by_cases h : k = e.1 ∧ p = e.2.1
    · rw [if_pos (by simp [h]), if_pos h]; rfl
    · rw [if_neg (by simpa using h), if_neg h, Option.isSome_map, aidx_E l]
theorem aput_E (l : List (Int × Int × Int)) (k p : Int) : aput (l.map encE) (.agg [.int .i64 k, .int .i64 p]) (.int .i64 0) = (putE l k p).map encE := by
  have h := aidx_E l k p
  unfold aput putE
  cases hx : aidx (l.map encE) (.agg [.int .i64 k, .int .i64 p]) with
  | none => rw [hx] at h; rw [← h]; simp [encE]
  | some i => rw [hx] at h; rw [← h]; simp
theorem look_snoc : ∀ (l : List (Int × Int × Int)) (k p : Int), lookE l k p = none → lookE (l ++ [(k, p, 0)]) k p = some 0
  | [], k, p, _ => by simp [lookE]
  | e :: l, k, p, h => by
    rw [lookE] at h
    rw [List.cons_append, lookE]
    split at h
    · cases h
    · rename_i hn; rw [if_neg hn, look_snoc l k p h]
theorem look_put (l : List (Int × Int × Int)) (k p : Int) : (lookE (putE l k p) k p).getD 0 = (lookE l k p).getD 0 := by
  unfold putE
  cases h : lookE l k p with
  | none => simp [look_snoc l k p h]
  | some v => simp [h]
theorem aentry_put (l : List (Int × Int × Int)) (k p v : Int) : aentry ((putE l k p).map encE) (aplace (l.map encE) (.agg [.int .i64 k, .int .i64 p])) (.int .i64 v) = (setE l k p v).map encE := by
  rw [← aput_E, aentry_E]
theorem aplace_E (l : List (Int × Int × Int)) (k p : Int) : aplace (l.map encE) (.agg [.int .i64 k, .int .i64 p]) < (putE l k p).length := by
  have := aplace_lt (l.map encE) (.agg [.int .i64 k, .int .i64 p]) (.int .i64 0)
  rwa [aput_E, List.length_map] at this
theorem mem_E {l : List (Int × Int × Int)} {a b : AV} : (a, b) ∈ l.map encE ↔ ∃ k p n, (k, p, n) ∈ l ∧ a = .agg [.int .i64 k, .int .i64 p] ∧ b = .int .i64 n := by
  simp only [List.mem_map, encE]
  constructor
  · rintro ⟨⟨k, p, n⟩, h, e⟩
    injection e with e1 e2
    exact ⟨k, p, n, h, e1.symm, e2.symm⟩
  · rintro ⟨k, p, n, h, rfl, rfl⟩
    exact ⟨(k, p, n), h, rfl⟩
/-- The map holds what is paid for the first caps, some of them told with one charge more. -/
def MapOk (l : List TCap) (ms : List (Int × Int × Int)) (paid paid' : List TChg) (k : Nat) : Prop :=
  ∀ (i : Nat) (c : TCap) (p : Int), l[i]? = some c → (lookE ms i p).getD 0 = if i < k then sumC c p paid' else sumC c p paid
theorem MapOk.set {l : List TCap} {ms : List (Int × Int × Int)} {paid paid' : List TChg} {k : Nat} (h : MapOk l ms paid paid' k) {c : TCap} (hc : l[k]? = some c) {p v : Int} (hv : v = sumC c p paid') (ho : ∀ p', p' ≠ p → sumC c p' paid' = sumC c p' paid) :
    MapOk l (setE ms k p v) paid paid' (k + 1) := by
  intro i d q hd
  rw [look_set]
  have hi := h i d q hd
  by_cases e : i = k
  · subst e
    obtain rfl : c = d := by rw [hc] at hd; exact Option.some.inj hd
    rw [if_neg (by omega)] at hi
    by_cases e2 : q = p
    · subst e2; simp [hv]
    · simp [e2, hi, ho q e2]
  · have e' : ¬ ((i : Int) = (k : Int) ∧ q = p) := by omega
    rw [if_neg e', hi]
    by_cases e3 : i < k
    · rw [if_pos e3, if_pos (by omega)]
    · rw [if_neg e3, if_neg (by omega)]
theorem MapOk.skip {l : List TCap} {ms : List (Int × Int × Int)} {paid paid' : List TChg} {k : Nat} (h : MapOk l ms paid paid' k) {c : TCap} (hc : l[k]? = some c) (ho : ∀ p', sumC c p' paid' = sumC c p' paid) : MapOk l ms paid paid' (k + 1) := by
  intro i d q hd
  have hi := h i d q hd
  by_cases e : i = k
  · subst e
    obtain rfl : c = d := by rw [hc] at hd; exact Option.some.inj hd
    rw [if_neg (by omega)] at hi
    rw [hi, if_pos (by omega), ho q]
  · rw [hi]
    by_cases e3 : i < k
    · rw [if_pos e3, if_pos (by omega)]
    · rw [if_neg e3, if_neg (by omega)]
theorem MapOk.done {l : List TCap} {ms : List (Int × Int × Int)} {paid paid' : List TChg} {k : Nat} (h : MapOk l ms paid paid' k) (hk : l.length ≤ k) (paid'' : List TChg) : MapOk l ms paid' paid'' 0 := by
  intro i c p hc
  have := h i c p hc
  have hi := (List.getElem?_eq_some_iff.1 hc).1
  rw [if_pos (by omega)] at this
  rw [if_neg (by omega), this]
theorem sumC_other {c : TCap} {paid : List TChg} {y : TChg} {p : Int} (h : countsB c p y = false) : sumC c p (paid ++ [y]) = sumC c p paid := by
  rw [sumC_append, sumC_one, h]; simp

/-! ### The order as it is filled in -/
def encNat (k : Nat) : List AV := [.int .i64 (k : Int)]
def ordC (n i : Nat) : List (List AV) := (List.range i).map encNat ++ List.replicate (n - i) [.int .i64 0]
theorem ordC_len {n i : Nat} (h : i ≤ n) : (ordC n i).length = n := by simp [ordC]; omega
theorem ordC_at {n i : Nat} (h : i < n) : (ordC n i)[i]? = some [.int .i64 0] := by
  unfold ordC
  rw [List.getElem?_append_right (by simp), List.length_map, List.length_range, Nat.sub_self, show n - i = (n - (i + 1)) + 1 by omega, List.replicate_succ]
  rfl
theorem ordC_zero (n : Nat) : List.replicate n [AV.int .i64 0] = ordC n 0 := by simp [ordC]
theorem ordC_all (n : Nat) : ordC n n = (List.range n).map encNat := by simp [ordC]
theorem ordC_set {n i : Nat} (h : i < n) : (ordC n i).set i [.int .i64 (i : Int)] = ordC n (i + 1) := by
  unfold ordC
  rw [List.set_append, if_neg (by simp), List.length_map, List.length_range, Nat.sub_self, show n - i = (n - (i + 1)) + 1 by omega, List.replicate_succ, List.set_cons_zero, List.range_succ, List.map_append, List.append_assoc]
  rfl
def toN (e : List AV) : Nat := (aint (e.getD 0 .junk)).toNat
theorem toN_enc (k : Nat) : toN (encNat k) = k := by simp [toN, encNat, aint]
theorem sort_enc (ch : List TChg) (l : List Nat) : sortR (fun x y => decide (chgCmp (chD ch (toN x)) (chD ch (toN y)) < 0)) (l.map encNat) = (sortR (ltI ch) l).map encNat :=
  sortR_map (fun x y => by rw [toN_enc, toN_enc]; rfl) l
theorem swo_enc (ch : List TChg) : SWO (fun x y : List AV => decide (chgCmp (chD ch (toN x)) (chD ch (toN y)) < 0)) := (ord3_chg.comap fun e : List AV => chD ch (toN e)).swo

def stN (l : List TCap) (ch : List TChg) (j : Nat) : RSt := ((ordI ch).take j).foldl (stepAt l ch) (st0 ch)
theorem stN_zero (l : List TCap) (ch : List TChg) : stN l ch 0 = st0 ch := rfl
theorem stN_succ {l : List TCap} {ch : List TChg} {j i : Nat} {x : TChg} (h : (ordI ch)[j]? = some i) (hx : ch[i]? = some x) :
    stN l ch (j + 1) = ⟨(stN l ch j).out.set i (payN l (stN l ch j).paid x x.cents), (stN l ch j).done.set i true, (stN l ch j).paid ++ [{ x with cents := payN l (stN l ch j).paid x x.cents }]⟩ := by
  rw [stN, List.take_add_one, h, List.foldl_append]
  simp only [Option.toList, List.foldl_cons, List.foldl_nil]
  rw [← stN, stepAt, hx]
theorem stN_all (l : List TCap) (ch : List TChg) : (stN l ch ch.length).out = appApply l ch := by
  rw [stN, List.take_of_length_le (by rw [ord_len]; exact Nat.le_refl _)]; rfl
end Go.Toll
end
