/-
  Caps and charges: their data, how they show as abstract values, what is checked, and what is left.
-/
import Derived.Test.YtillfoacekifbaaDoorTollCal
import Derived.Test.YtillfoacekifbaaDoorTollNet
set_option linter.unusedVariables false
set_option linter.unusedSimpArgs false
namespace Go.Toll
open Go Go.Abs

structure TCap where
  name : Bytes
  sys : Bytes
  days : Int
  cents : Int
deriving DecidableEq
/-- A charge; its lines are never looked at. -/
structure TChg where
  key : Bytes
  veh : Bytes
  sys : Bytes
  cls : Int
  time : Int
  lines : List (List AV)
  cents : Int
def encCap (c : TCap) : List AV := [.str c.name, .str c.sys, .int .i64 c.days, .int .i64 c.cents]
def encChg (x : TChg) : List AV := [.str x.key, .str x.veh, .str x.sys, .int .i64 x.cls, .int .i64 x.time, .ro x.lines, .int .i64 x.cents]
@[simp] theorem encCap_len (c : TCap) : (encCap c).length = 4 := rfl
@[simp] theorem encChg_len (c : TChg) : (encChg c).length = 7 := rfl
@[simp] theorem encCap_eq (c : TCap) : encCap c = [.str c.name, .str c.sys, .int .i64 c.days, .int .i64 c.cents] := rfl
@[simp] theorem encChg_eq (x : TChg) : encChg x = [.str x.key, .str x.veh, .str x.sys, .int .i64 x.cls, .int .i64 x.time, .ro x.lines, .int .i64 x.cents] := rfl

def amountB (n : Int) : Bool := decide (0 ≤ n) && decide (n ≤ 1125899906842624)
def capErr (c : TCap) : Int :=
  if nameB c.name = false ∨ (c.sys ≠ [] ∧ nameB c.sys = false) then 6 else if c.days ≠ 0 ∧ c.days ≠ 1 then 1 else if amountB c.cents = false then 13 else 0
def matchB (c : TCap) (x : TChg) : Bool := decide (c.sys = []) || decide (c.sys = x.sys)

/-! ### What is left -/
def countsB (c : TCap) (p : Int) (x : TChg) : Bool := matchB c x && decide (perI c.days x.time = p)
def leftR (c : TCap) (p : Int) : List TChg → Int → Int
  | [], a => a
  | x :: l, a => leftR c p l (if countsB c p x then a - x.cents else a)
def leftP (c : TCap) (p : Int) : List TChg → Int → Int
  | [], a => a
  | x :: l, a => leftP c p l (if countsB c p x then a - min x.cents (max a 0) else a)
theorem leftR_neg (c : TCap) (p : Int) : ∀ (l : List TChg) (a : Int), (∀ x ∈ l, 0 ≤ x.cents) → a ≤ 0 → leftR c p l a ≤ 0
  | [], a, h, ha => ha
  | x :: l, a, h, ha => by
    rw [leftR]
    have := h x (by simp)
    exact leftR_neg c p l _ (fun y hy => h y (by simp [hy])) (by split <;> omega)
/-- The program's way of reducing gives what is left. -/
theorem leftP_eq (c : TCap) (p : Int) : ∀ (l : List TChg) (a : Int), (∀ x ∈ l, 0 ≤ x.cents) → 0 ≤ a → leftP c p l a = max (leftR c p l a) 0
  | [], a, h, ha => by rw [leftP, leftR]; omega
  | x :: l, a, h, ha => by
    have hx := h x (by simp)
    have hl : ∀ y ∈ l, 0 ≤ y.cents := fun y hy => h y (by simp [hy])
    rw [leftP, leftR]
    split
    · by_cases hle : x.cents ≤ a
      · rw [show a - min x.cents (max a 0) = a - x.cents by omega]
        exact leftP_eq c p l _ hl (by omega)
      · rw [show a - min x.cents (max a 0) = 0 by omega, leftP_eq c p l 0 hl (by omega)]
        have h1 := leftR_neg c p l 0 hl (by omega)
        have h2 := leftR_neg c p l (a - x.cents) hl (by omega)
        omega
    · exact leftP_eq c p l a hl ha
theorem leftP_nonneg (c : TCap) (p : Int) (l : List TChg) (a : Int) (h : ∀ x ∈ l, 0 ≤ x.cents) (ha : 0 ≤ a) : 0 ≤ leftP c p l a := by
  rw [leftP_eq c p l a h ha]; omega
def leftI (c : TCap) (l : List TChg) (t : Int) : Int := if perI c.days t < 0 then 0 else max (leftR c (perI c.days t) l c.cents) 0
/-- An amount that is not negative and fits. -/
def okC (n : Int) : Prop := 0 ≤ n ∧ n ≤ 1125899906842624

/-! ### What Apply checks -/
/-- The first number that is not 0; 0: none. -/
def firstI {α : Type} (f : α → Int) : List α → Int
  | [] => 0
  | x :: l => if f x ≠ 0 then f x else firstI f l
def chgErr (x : TChg) : Int := if amountB x.cents = false then 13 else if isTimeB x.time = false ∨ isDayB (dayI x.time) = false then 12 else 0
def applyErr (l : List TCap) (ch : List TChg) : Int :=
  if 12 < l.length ∨ 1024 < ch.length then 3 else if firstI capErr l ≠ 0 then firstI capErr l else firstI chgErr ch
theorem firstI_zero {α : Type} {f : α → Int} : ∀ {l : List α}, firstI f l = 0 ↔ ∀ x ∈ l, f x = 0
  | [] => by simp [firstI]
  | x :: l => by
    rw [firstI]
    by_cases h : f x = 0
    · rw [if_neg (by simp [h]), firstI_zero]; simp [h]
    · rw [if_pos h]; simp [h]
theorem perI_day (t : Int) : perI 1 t < 0 ↔ isTimeB t = false := by
  rw [perI, dayI]
  cases ht : isTimeB t with
  | false => simp
  | true =>
    have := isTime_range ht
    have h2 : 0 ≤ t.tdiv 86400 := Int.tdiv_nonneg this.1 (by omega)
    simp only [if_true]
    rw [if_neg (by omega)]
    simp; omega
theorem perI_month {t : Int} (ht : isTimeB t = true) : perI 0 t < 0 ↔ isDayB (dayI t) = false := by
  have h := isTime_range ht
  have h2 : 0 ≤ t.tdiv 86400 := Int.tdiv_nonneg h.1 (by omega)
  have hd : dayI t = t.tdiv 86400 := by rw [dayI, if_pos ht]
  rw [perI, if_neg (by omega), if_neg (by omega), if_pos rfl]
  cases hq : isDayB (dayI t) with
  | false => simp
  | true =>
    rw [if_pos rfl, dateI, if_pos hq]
    have h3 := dateN_month (dayI t).toNat
    have h4 := dateN_year (dayI t).toNat
    simp only
    constructor
    · intro; omega
    · intro h; simp at h

def encN (n : Int) : List AV := [.int .i64 n]
@[simp] theorem encN_eq (n : Int) : encN n = [.int .i64 n] := rfl
/-- Is the charge at one place processed before that at another one? -/
def firstB (x y : TChg) (i k : Nat) : Bool := if x.time ≠ y.time then decide (x.time < y.time) else if x.key ≠ y.key then Op.bytesLess x.key y.key else decide (i < k)
def fitsC (l : List TChg) : Bool := decide (l.length ≤ 60) && l.all fun x => amountB x.cents

/-! The place that is processed next, out of places from i on; a: the best before. -/
def firstO (l : List TChg) (x : TChg) (i : Nat) : Option Nat → Bool
  | none => true
  | some k => match l[k]? with
    | some y => firstB x y i k
    | none => true
def nextGo (l : List TChg) (done : List Bool) : List TChg → Nat → Option Nat → Option Nat
  | [], _, a => a
  | x :: r, i, a => nextGo l done r (i + 1) (if done[i]? = some false ∧ firstO l x i a = true then some i else a)
def nextI (l : List TChg) (done : List Bool) : Option Nat := nextGo l done l 0 none
def encB (b : Bool) : List AV := [.bool b]
@[simp] theorem encB_eq (b : Bool) : encB b = [.bool b] := rfl

theorem nextGo_some {l : List TChg} {done : List Bool} : ∀ (r : List TChg) (i : Nat) (a : Option Nat) (k : Nat), nextGo l done r i a = some k → a = some k ∨ (done[k]? = some false ∧ i ≤ k ∧ k < i + r.length)
  | [], i, a, k, h => .inl h
  | x :: r, i, a, k, h => by
    rw [nextGo] at h
    rcases nextGo_some r (i + 1) _ k h with h1 | ⟨h1, h2, h3⟩
    · split at h1
      · rename_i hc
        obtain rfl : i = k := by simpa using h1
        exact .inr ⟨hc.1, Nat.le_refl _, by rw [List.length_cons]; omega⟩
      · exact .inl h1
    · exact .inr ⟨h1, by omega, by rw [List.length_cons]; omega⟩
theorem nextGo_none {l : List TChg} {done : List Bool} : ∀ (r : List TChg) (i : Nat) (a : Option Nat), nextGo l done r i a = none → a = none ∧ ∀ j, i ≤ j → j < i + r.length → done[j]? ≠ some false
  | [], i, a, h => ⟨h, fun j h1 h2 => by simp at h2; omega⟩
  | x :: r, i, a, h => by
    rw [nextGo] at h
    obtain ⟨h1, h2⟩ := nextGo_none r (i + 1) _ h
    split at h1
    · simp at h1
    · rename_i hc
      subst h1
      refine ⟨rfl, fun j h3 h4 => ?_⟩
      rcases Nat.eq_or_lt_of_le h3 with rfl | h5
      · exact fun h6 => hc ⟨h6, rfl⟩
      · exact h2 j h5 (by rw [List.length_cons] at h4; omega)
theorem next_there {l : List TChg} {done : List Bool} (hd : done.length = l.length) (hc : done.count true < l.length) : ∃ i, nextI l done = some i ∧ done[i]? = some false ∧ i < l.length := by
  cases h : nextI l done with
  | some i =>
    rcases nextGo_some l 0 none i h with h1 | ⟨h1, _, h3⟩
    · simp at h1
    · exact ⟨i, rfl, h1, by omega⟩
  | none =>
    exfalso
    obtain ⟨_, h2⟩ := nextGo_none l 0 none h
    have : done.count true = done.length := by
      rw [List.count_eq_length]
      intro b hb
      obtain ⟨j, hj, hj'⟩ := List.getElem_of_mem hb
      have := h2 j (by omega) (by omega)
      rw [List.getElem?_eq_getElem hj, hj'] at this
      cases b
      · simp at this
      · rfl
    omega

/-! ### The reference's way of paying -/
def payN (l : List TCap) (paid : List TChg) (x : TChg) (n : Int) : Int := l.foldl (fun n c => if matchB c x then min n (leftI c paid x.time) else n) n
structure RSt where
  out : List Int
  done : List Bool
  paid : List TChg
def refStep (l : List TCap) (ch : List TChg) (s : RSt) : RSt :=
  match nextI ch s.done with
  | none => s
  | some i => match ch[i]? with
    | none => s
    | some x => ⟨s.out.set i (payN l s.paid x x.cents), s.done.set i true, s.paid ++ [{ x with cents := payN l s.paid x x.cents }]⟩
def refRun (l : List TCap) (ch : List TChg) : Nat → RSt → RSt
  | 0, s => s
  | n + 1, s => refRun l ch n (refStep l ch s)
def refApply (l : List TCap) (ch : List TChg) : List Int := (refRun l ch ch.length ⟨List.replicate ch.length 0, List.replicate ch.length false, []⟩).out
theorem leftI_ok (c : TCap) (paid : List TChg) (t : Int) (hc : okC c.cents) (hp : ∀ x ∈ paid, 0 ≤ x.cents) : okC (leftI c paid t) := by
  have hR : ∀ (l : List TChg) (p a : Int), (∀ x ∈ l, 0 ≤ x.cents) → leftR c p l a ≤ a := by
    intro l
    induction l with
    | nil => intro p a _; exact Int.le_refl _
    | cons x l ih =>
      intro p a h
      rw [leftR]
      have h1 := h x (by simp)
      by_cases hq : countsB c p x = true
      · rw [if_pos hq]
        have := ih p (a - x.cents) (fun y hy => h y (by simp [hy]))
        omega
      · rw [if_neg hq]
        exact ih p a (fun y hy => h y (by simp [hy]))
  rw [leftI]
  split
  · unfold okC; omega
  · have := hR paid (perI c.days t) c.cents hp
    unfold okC at *; omega
theorem payN_ok (l : List TCap) (paid : List TChg) (x : TChg) : ∀ (n : Int), (∀ c ∈ l, okC c.cents) → (∀ y ∈ paid, 0 ≤ y.cents) → okC n → okC (payN l paid x n) := by
  induction l with
  | nil => intro n _ _ h; exact h
  | cons c l ih =>
    intro n hl hp hn
    refine ih _ (fun d hd => hl d (by simp [hd])) hp ?_
    show okC (if matchB c x then min n (leftI c paid x.time) else n)
    split
    · have := leftI_ok c paid x.time (hl c (by simp)) hp
      unfold okC at *; omega
    · exact hn
end Go.Toll
