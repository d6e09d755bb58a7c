/-
  Comparisons that answer a number: numbers, strings of bytes, one after the other.
-/
import Derived.Test.YtillfoacekifbaaDoorAbsStable
import Derived.Test.YtillfoacekifbaaDoorTollBase
set_option linter.unusedVariables false
set_option linter.unusedSimpArgs false
namespace Go.Toll
open Go Go.Abs

section
variable {α β : Type} {c c' : α → α → Int}
structure Ord3 (c : α → α → Int) : Prop where
  anti : ∀ x y, c x y < 0 ↔ 0 < c y x
  trans : ∀ x y z, c x y ≤ 0 → c y z ≤ 0 → c x z ≤ 0

theorem Ord3.zero (o : Ord3 c) {x y : α} : c x y = 0 ↔ c y x = 0 := by
  have h1 := o.anti x y
  have h2 := o.anti y x
  constructor <;> intro h <;> omega
theorem Ord3.self (o : Ord3 c) (x : α) : c x x = 0 := by
  have h1 := o.anti x x
  omega
theorem Ord3.swo (o : Ord3 c) : SWO fun x y => decide (c x y < 0) := by
  refine ⟨fun a b h => ?_, fun x y z h1 h2 => ?_⟩
  · have h1 := o.anti a b
    simp at h ⊢
    omega
  · have a1 := o.anti x y
    have a2 := o.anti y z
    have a3 := o.anti x z
    have a4 := o.anti y x
    have a5 := o.anti z y
    simp at h1 h2 ⊢
    have := o.trans z y x (by omega) (by omega)
    omega
theorem Ord3.comap (o : Ord3 c) (f : β → α) : Ord3 fun x y => c (f x) (f y) := ⟨fun x y => o.anti _ _, fun x y z => o.trans _ _ _⟩
theorem Ord3.lex (o : Ord3 c) (o' : Ord3 c') : Ord3 fun x y => if c x y = 0 then c' x y else c x y := by
  refine ⟨fun x y => ?_, fun x y z h1 h2 => ?_⟩
  · have h1 := o.anti x y
    have h2 := o.anti y x
    have h3 := o'.anti x y
    skip
    by_cases h : c x y = 0
    · rw [if_pos h, if_pos (o.zero.1 h)]; exact h3
    · rw [if_neg h, if_neg (fun e => h (o.zero.1 e))]; exact h1
  · skip
    have a1 : c x y ≤ 0 := by split at h1 <;> omega
    have a2 : c y z ≤ 0 := by split at h2 <;> omega
    have a3 := o.trans x y z a1 a2
    by_cases h : c x z = 0
    · rw [if_pos h]
      have b1 := o.trans z x y (by rw [o.zero.1 h]; omega) a1
      have b2 := o.trans y z x a2 (by rw [o.zero.1 h]; omega)
      have b3 := o.anti z y
      have b4 := o.anti y x
      have b5 := o.anti x y
      have b6 := o.anti y z
      rw [if_pos (by omega)] at h1 h2
      exact o'.trans x y z h1 h2
    · rw [if_neg h]; omega
theorem ord3_const : Ord3 fun (_ _ : α) => 0 := ⟨by simp, by simp⟩

def cmpI (a b : Int) : Int := if a < b then -1 else if b < a then 1 else 0
theorem ord3_int : Ord3 cmpI := by
  refine ⟨fun x y => ?_, fun x y z h1 h2 => ?_⟩
  · unfold cmpI; split <;> split <;> (try split) <;> omega
  · unfold cmpI at *; split at h1 <;> split at h2 <;> (try split at h1) <;> (try split at h2) <;> (split <;> (try split) <;> omega)
end

theorem cmpB_vals : ∀ (a b : Bytes), Lib.compareBytes a b = -1 ∨ Lib.compareBytes a b = 0 ∨ Lib.compareBytes a b = 1
  | [], [] => by simp [Lib.compareBytes]
  | [], _ :: _ => by simp [Lib.compareBytes]
  | _ :: _, [] => by simp [Lib.compareBytes]
  | a :: as, b :: bs => by
    rw [Lib.compareBytes]
    split
    · simp
    · split
      · simp
      · exact cmpB_vals as bs
theorem u8_tri (a b : UInt8) (h1 : ¬ a < b) (h2 : ¬ b < a) : a = b := by
  rw [UInt8.lt_iff_toNat_lt] at h1 h2
  exact UInt8.toNat_inj.1 (by omega)
theorem cmpB_anti : ∀ (a b : Bytes), Lib.compareBytes b a = - Lib.compareBytes a b
  | [], [] => by simp [Lib.compareBytes]
  | [], _ :: _ => by simp [Lib.compareBytes]
  | _ :: _, [] => by simp [Lib.compareBytes]
  | a :: as, b :: bs => by
    rw [Lib.compareBytes, Lib.compareBytes]
    by_cases h1 : a < b
    · have h2 : ¬ b < a := by rw [UInt8.lt_iff_toNat_lt] at h1 ⊢; omega
      simp [h1, h2]
    · by_cases h2 : b < a
      · simp [h1, h2]
      · simp [h1, h2]; exact cmpB_anti as bs
theorem cmpB_trans : ∀ (a b c : Bytes), Lib.compareBytes a b ≤ 0 → Lib.compareBytes b c ≤ 0 → Lib.compareBytes a c ≤ 0
  | [], _, [] => by simp [Lib.compareBytes]
  | [], _, _ :: _ => by simp [Lib.compareBytes]
  | _ :: _, [], _ => by simp [Lib.compareBytes]
  | _ :: _, _ :: _, [] => by simp [Lib.compareBytes]
  | a :: as, b :: bs, c :: cs => by
    intro h1 h2
    rw [Lib.compareBytes] at h1 h2 ⊢
    by_cases h3 : a < c
    · simp [h3]
    · by_cases h4 : a < b
      · by_cases h5 : b < c
        · exfalso; rw [UInt8.lt_iff_toNat_lt] at h3 h4 h5; omega
        · by_cases h6 : c < b
          · simp [h5, h6] at h2
          · have := u8_tri b c h5 h6
            subst this; exact absurd h4 h3
      · by_cases h5 : b < a
        · simp [h4, h5] at h1
        · have := u8_tri a b h4 h5
          subst this
          by_cases h6 : c < a
          · simp [h3, h6] at h2
          · have := u8_tri a c h3 h6
            subst this
            simp [h4] at h1 h2 ⊢
            exact cmpB_trans as bs cs h1 h2
theorem cmpB_eq : ∀ (a b : Bytes), Lib.compareBytes a b = 0 ↔ a = b
  | [], [] => by simp [Lib.compareBytes]
  | [], _ :: _ => by simp [Lib.compareBytes]
  | _ :: _, [] => by simp [Lib.compareBytes]
  | a :: as, b :: bs => by
    rw [Lib.compareBytes]
    by_cases h1 : a < b
    · have : a ≠ b := by rintro rfl; rw [UInt8.lt_iff_toNat_lt] at h1; omega
      simp [h1, this]
    · by_cases h2 : b < a
      · have : a ≠ b := by rintro rfl; rw [UInt8.lt_iff_toNat_lt] at h2; omega
        simp [h1, h2, this]
      · have := u8_tri a b h1 h2
        subst this
        simp [h1]; exact cmpB_eq as bs
theorem cmpB_less : ∀ (a b : Bytes), decide (Lib.compareBytes a b < 0) = Op.bytesLess a b
  | [], [] => by simp [Lib.compareBytes, Op.bytesLess]
  | [], _ :: _ => by simp [Lib.compareBytes, Op.bytesLess]
  | _ :: _, [] => by simp [Lib.compareBytes, Op.bytesLess]
  | a :: as, b :: bs => by
    rw [Lib.compareBytes, Op.bytesLess]
    by_cases h1 : a < b
    · simp [h1]
    · by_cases h2 : b < a
      · have : a ≠ b := by rintro rfl; exact h1 h2
        simp [h1, h2, this]
      · have := u8_tri a b h1 h2
        subst this
        simp [h1]; simpa using cmpB_less as bs
theorem ord3_bytes : Ord3 Lib.compareBytes := ⟨fun x y => by rw [cmpB_anti x y]; omega, cmpB_trans⟩

theorem ord3_rate : Ord3 rateCmp := by
  have := (ord3_bytes.comap Rate.src).lex ((ord3_bytes.comap Rate.dst).lex ((ord3_bytes.comap Rate.band).lex ord3_const))
  refine Eq.mp (congrArg Ord3 ?_) this
  funext a b
  simp only [rateCmp, orI]
theorem before_rate (a b : Rate) : beforeB a b = decide (rateCmp a b < 0) := by
  simp only [beforeB, rateCmp, orI, cmpB_eq, ← cmpB_less]
  by_cases h1 : a.src = b.src
  · by_cases h2 : a.dst = b.dst
    · by_cases h3 : a.band = b.band
      · simp [h1, h2, h3, (cmpB_eq b.band b.band).2 rfl]
      · simp [h1, h2, h3]
    · simp [h1, h2]
  · simp [h1]
end Go.Toll
