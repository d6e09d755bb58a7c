/-
  A region whose order is open: the text's order, over the abstract state, serves every order.
-/
import Derived.Test.YtcbaojkchiphkaaAbsRun4
set_option linter.unusedVariables false
set_option linter.unusedSimpArgs false
namespace Go.Abs
open Go

section
variable {P : Program} {gl : Globs} {J : List Blk} {h : AHeap} {w : World} {fr : AFrame} {N : Nat} {ops : Array Oper}

/-! ### What waits for what -/

inductive Dep (ops : Array Oper) : Nat → Nat → Prop
  | base (i j : Nat) (o : Oper) (e : Edge) (ho : ops[j]? = some o) (he : e ∈ o.after) (hb : Region.binds .any e = true) (hon : e.on = i) : Dep ops i j
  | trans (i k j : Nat) (h1 : Dep ops i k) (h2 : Dep ops k j) : Dep ops i j

/-- The operations that come before another one, as bits. -/
def maskOf (acc : List Nat) : List Edge → Nat
  | [] => 0
  | e :: l => (if Region.binds .any e then (1 <<< e.on) ||| acc.getD e.on 0 else 0) ||| maskOf acc l
def masks : List Oper → List Nat → List Nat
  | [], acc => acc
  | o :: l, acc => masks l (acc ++ [maskOf acc o.after.toList])

theorem maskOf_sound {acc : List Nat} {j : Nat} {o : Oper} (ho : ops[j]? = some o) (hacc : ∀ k m, acc[k]? = some m → ∀ i, m.testBit i = true → Dep ops i k) :
    ∀ (l : List Edge), (∀ e ∈ l, e ∈ o.after) → ∀ i, (maskOf acc l).testBit i = true → Dep ops i j
  | [], _, i, h => by simp [maskOf] at h
  | e :: l, hl, i, h => by
    simp only [maskOf, Nat.testBit_or, Bool.or_eq_true] at h
    rcases h with h | h
    · split at h
      · rename_i hb
        simp only [Nat.testBit_or, Bool.or_eq_true] at h
        rcases h with h | h
        · have : i = e.on := by
            rw [Nat.one_shiftLeft, Nat.testBit_two_pow] at h
            simpa [eq_comm] using h
          exact .base i j o e ho (hl e (by simp)) hb this.symm
        · cases hx : acc[e.on]? with
          | none => simp [List.getD, hx] at h
          | some m =>
            simp [List.getD, hx] at h
            exact .trans i e.on j (hacc _ _ hx i h) (.base e.on j o e ho (hl e (by simp)) hb rfl)
      · simp at h
    · exact maskOf_sound ho hacc l (fun e' he' => hl e' (by simp [he'])) i h

theorem masks_sound : ∀ (l : List Oper) (acc : List Nat), (∀ j, l[j]? = ops[acc.length + j]?) → (∀ k m, acc[k]? = some m → ∀ i, m.testBit i = true → Dep ops i k) →
    ∀ k m, (masks l acc)[k]? = some m → ∀ i, m.testBit i = true → Dep ops i k
  | [], acc, _, hacc => hacc
  | o :: l, acc, hl, hacc => by
    refine masks_sound l _ ?_ ?_
    · intro j
      have := hl (j + 1)
      simp only [List.getElem?_cons_succ] at this
      rw [this]
      congr 1
      simp; omega
    · intro k m hk i hi
      rcases Nat.lt_or_ge k acc.length with h | h
      · rw [List.getElem?_append_left h] at hk
        exact hacc k m hk i hi
      · rw [List.getElem?_append_right h] at hk
        have hke : k = acc.length := by
          rcases Nat.eq_zero_or_pos (k - acc.length) with h0 | h0
          · omega
          · rw [List.getElem?_eq_none (by simp; omega)] at hk; cases hk
        subst hke
        simp at hk
        subst hk
        have h0 := hl 0
        simp at h0
        exact maskOf_sound h0.symm hacc o.after.toList (fun e he => by simpa using he) i hi

def depB (ms : List Nat) (i j : Nat) : Bool := (ms.getD j 0).testBit i

/-- May the operations of a region come in any order that its edges allow, as far as their outcome goes? -/
def drawOk (ops : Array Oper) : Bool :=
  let ms := masks ops.toList []
  (List.range ops.size).all fun j => match ops[j]? with
    | none => true
    | some oj =>
      (oj.after.toList.all fun e => !Region.binds .any e || e.on < j) &&
      (List.range j).all fun i => match ops[i]? with
        | none => true
        | some oi =>
          ((!(actB oi.op && !freeB oj.op) && !(!freeB oi.op && actB oj.op)) || depB ms i j) &&
          ((match oi.dst with | some t => !((looks ops oj).contains t || oj.dst == some t) | none => true) || depB ms i j) &&
          ((match oj.dst with | some t => !((looks ops oi).contains t) | none => true) || depB ms i j)

structure DrawOk (ops : Array Oper) : Prop where
  early : ∀ j o, ops[j]? = some o → ∀ e ∈ o.after, Region.binds .any e = true → e.on < j
  acts : ∀ i j oi oj, ops[i]? = some oi → ops[j]? = some oj → i < j → ((actB oi.op = true ∧ freeB oj.op = false) ∨ (freeB oi.op = false ∧ actB oj.op = true)) → Dep ops i j
  writes : ∀ i j oi oj t, ops[i]? = some oi → ops[j]? = some oj → i < j → oi.dst = some t → (t ∈ looks ops oj ∨ oj.dst = some t) → Dep ops i j
  reads : ∀ i j oi oj t, ops[i]? = some oi → ops[j]? = some oj → i < j → oj.dst = some t → t ∈ looks ops oi → Dep ops i j

theorem drawOk_spec (h : drawOk ops = true) : DrawOk ops := by
  have hms : ∀ i j, depB (masks ops.toList []) i j = true → Dep ops i j := by
    intro i j hb
    unfold depB at hb
    cases hx : (masks ops.toList [])[j]? with
    | none => simp [List.getD, hx] at hb
    | some m =>
      simp [List.getD, hx] at hb
      exact masks_sound ops.toList [] (by simp) (by simp) j m hx i hb
  unfold drawOk at h
  simp only [List.all_eq_true, List.mem_range] at h
  have hj : ∀ j o, ops[j]? = some o → j < ops.size := fun j o ho => (Array.getElem?_eq_some_iff.1 ho).1
  have key : ∀ i j oi oj, ops[i]? = some oi → ops[j]? = some oj → i < j → _ := fun i j oi oj hi hjj hij => by
    have h1 := h j (hj j oj hjj)
    rw [hjj] at h1
    simp only [Bool.and_eq_true, List.all_eq_true, List.mem_range] at h1
    have h2 := h1.2 i hij
    rw [hi] at h2
    exact h2
  refine ⟨?_, ?_, ?_, ?_⟩
  · intro j o ho e he hb
    have h1 := h j (hj j o ho)
    rw [ho] at h1
    simp only [Bool.and_eq_true, List.all_eq_true] at h1
    have h2 := h1.1 e (by simpa using he)
    simpa [hb] using h2
  · intro i j oi oj hi hjj hij hor
    have h2 := key i j oi oj hi hjj hij
    simp only [Bool.and_eq_true, Bool.or_eq_true] at h2
    refine h2.1.1.elim (fun hh => ?_) (hms i j)
    rcases hor with ⟨a1, a2⟩ | ⟨a1, a2⟩ <;> simp [a1, a2] at hh
  · intro i j oi oj t hi hjj hij hd hor
    have h2 := key i j oi oj hi hjj hij
    simp only [Bool.and_eq_true, Bool.or_eq_true] at h2
    refine h2.1.2.elim (fun hh => ?_) (hms i j)
    rw [hd] at hh
    simp only [Bool.not_eq_true', Bool.or_eq_false_iff] at hh
    rcases hor with a1 | a1
    · have := hh.1
      simp [a1] at this
    · have := hh.2
      simp [a1] at this
  · intro i j oi oj t hi hjj hij hd hl
    have h2 := key i j oi oj hi hjj hij
    simp only [Bool.and_eq_true, Bool.or_eq_true] at h2
    refine h2.2.elim (fun hh => ?_) (hms i j)
    rw [hd] at hh
    simp [hl] at hh

/-! ### The text's order leaves a trace -/

structure Trace (P : Program) (gl : Globs) (N : Nat) (ops : Array Oper) (n : Nat) (F : Nat → AFrame) (H : Nat → AHeap) (X : Nat → AV) : Prop where
  step : ∀ i o, i < n → ops[i]? = some o → (∀ d, o.dst = some d → d < N) ∧ StepOK P gl N ops o (F i) (H i) (X i) (H (i + 1)) ∧ (freeB o.op = true → ∀ h0, StepOK P gl N ops o (F i) h0 (X i) h0) ∧ (actB o.op = false → H (i + 1) = H i) ∧ F (i + 1) = setd (F i) o.dst (X i)

theorem aops_trace {K : AFrame → AHeap → Prop} : ∀ (l : List Oper) (i : Nat) (fr : AFrame) (h : AHeap), (∀ j, l[j]? = ops[i + j]?) → aops P gl N true ops l K fr h →
    ∃ (F : Nat → AFrame) (H : Nat → AHeap) (X : Nat → AV), F i = fr ∧ H i = h ∧ K (F (i + l.length)) (H (i + l.length)) ∧
      ∀ j o, i ≤ j → j < i + l.length → ops[j]? = some o → (∀ d, o.dst = some d → d < N) ∧ StepOK P gl N ops o (F j) (H j) (X j) (H (j + 1)) ∧ (freeB o.op = true → ∀ h0, StepOK P gl N ops o (F j) h0 (X j) h0) ∧ (actB o.op = false → H (j + 1) = H j) ∧ F (j + 1) = setd (F j) o.dst (X j)
  | [], i, fr, h, _, hs => ⟨fun _ => fr, fun _ => h, fun _ => .junk, rfl, rfl, hs, fun j o h1 h2 => by simp at h2; omega⟩
  | o :: l, i, fr, h, hl, hs => by
    obtain ⟨x, h', p1, p2, p3, p4, p5⟩ := astep_det hs
    obtain ⟨F, H, X, f1, f2, f3, f4⟩ := aops_trace l (i + 1) (setd fr o.dst x) h' (fun j => by have := hl (j + 1); simpa [Nat.add_assoc, Nat.add_comm 1 j] using this) p5
    refine ⟨fun j => if j ≤ i then fr else F j, fun j => if j ≤ i then h else H j, fun j => if j ≤ i then x else X j, by simp, by simp, ?_, ?_⟩
    · simp only [List.length_cons]
      rw [if_neg (by omega), if_neg (by omega), show i + (l.length + 1) = i + 1 + l.length by omega]
      exact f3
    · intro j o' h1 h2 ho'
      simp only [List.length_cons] at h2
      by_cases hji : j = i
      · subst hji
        have h0 := hl 0
        simp at h0
        rw [ho'] at h0
        injection h0 with h0
        subst h0
        simp only [Nat.le_refl, if_true, if_neg (show ¬ (j + 1 ≤ j) by omega)]
        rw [f1, f2]
        exact ⟨p1, p2, p3, p4, rfl⟩
      · simp only [if_neg (show ¬ (j ≤ i) by omega), if_neg (show ¬ (j + 1 ≤ i) by omega)]
        exact f4 j o' (by omega) (by omega) ho'

/-! ### Any order -/

/-- The frame in which just the listed operations have been carried out. -/
def FD (ops : Array Oper) (X : Nat → AV) (fr : AFrame) (D : Nat → Bool) : Nat → AFrame
  | 0 => fr
  | i + 1 => if D i then setd (FD ops X fr D i) ((ops[i]?).bind (·.dst)) (X i) else FD ops X fr D i

theorem FD_congr {X : Nat → AV} {D D' : Nat → Bool} {t : Tmp} : ∀ n, (∀ i o, i < n → ops[i]? = some o → o.dst = some t → D i = D' i) → FD ops X fr D n t = FD ops X fr D' n t
  | 0, _ => rfl
  | n + 1, hh => by
    have ih := FD_congr (X := X) (D := D) (D' := D') n (fun i o hi => hh i o (by omega))
    have same : ∀ (D : Nat → Bool), (∀ o, ops[n]? = some o → o.dst ≠ some t) → FD ops X fr D (n + 1) t = FD ops X fr D n t := by
      intro D hne
      simp only [FD]
      split
      · cases ho : ops[n]? with
        | none => simp [setd]
        | some o =>
          simp only [Option.bind_some]
          cases hd : o.dst with
          | none => rfl
          | some d =>
            simp only [setd]
            rw [if_neg]
            intro e
            exact hne o ho (by rw [hd, e])
      · rfl
    by_cases hw : ∃ o, ops[n]? = some o ∧ o.dst = some t
    · obtain ⟨o, ho, hd⟩ := hw
      have hD := hh n o (by omega) ho hd
      simp only [FD, hD, ho, Option.bind_some, hd]
      split
      · simp [setd]
      · exact ih
    · rw [same D (fun o ho e => hw ⟨o, ho, e⟩), same D' (fun o ho e => hw ⟨o, ho, e⟩)]
      exact ih

/-- Operations from 'n' on that are not listed, or do not write the place, change nothing. -/
theorem FD_beyond {X : Nat → AV} {D : Nat → Bool} {t : Tmp} (n : Nat) : ∀ k, (∀ i o, n ≤ i → i < n + k → ops[i]? = some o → o.dst = some t → D i = false) → FD ops X fr D (n + k) t = FD ops X fr D n t
  | 0, _ => rfl
  | k + 1, hh => by
    rw [← FD_beyond n k (fun i o h1 h2 => hh i o h1 (by omega))]
    show FD ops X fr D (n + k + 1) t = _
    simp only [FD]
    split
    · rename_i hD
      cases ho : ops[n + k]? with
      | none => simp [setd]
      | some o =>
        simp only [Option.bind_some]
        cases hd : o.dst with
        | none => rfl
        | some d =>
          simp only [setd]
          rw [if_neg]
          intro e
          have := hh (n + k) o (by omega) (by omega) ho (by rw [hd, e])
          rw [this] at hD
          cases hD
    · rfl

theorem FD_trace {X : Nat → AV} {F : Nat → AFrame} (h0 : F 0 = fr) (n : Nat) (hF : ∀ i o, i < n → ops[i]? = some o → F (i + 1) = setd (F i) o.dst (X i)) (hn : n ≤ ops.size) : ∀ k, k ≤ n → FD ops X fr (fun i => decide (i < n)) k = F k
  | 0, _ => h0.symm
  | k + 1, hk => by
    have ih := FD_trace h0 n hF hn k (by omega)
    have ho : ops[k]? = some (ops[k]'(by omega)) := Array.getElem?_eq_getElem (by omega)
    simp only [FD, decide_eq_true_eq, if_pos (show k < n by omega), ho, Option.bind_some, ih]
    exact (hF k _ (by omega) ho).symm

theorem heap_const {H : Nat → AHeap} {n : Nat} (hH : ∀ i o, i < n → ops[i]? = some o → actB o.op = false → H (i + 1) = H i) (hn : n ≤ ops.size) (a : Nat) : ∀ k, a + k ≤ n → (∀ i o, a ≤ i → i < a + k → ops[i]? = some o → actB o.op = false) → H (a + k) = H a
  | 0, _, _ => rfl
  | k + 1, hle, hh => by
    have ih := heap_const hH hn a k (by omega) (fun i o h1 h2 => hh i o h1 (by omega))
    have ho : ops[a + k]? = some (ops[a + k]'(by omega)) := Array.getElem?_eq_getElem (by omega)
    rw [← ih]
    exact hH (a + k) _ (by omega) ho (hh (a + k) _ (by omega) (by omega) ho)
end
end Go.Abs
