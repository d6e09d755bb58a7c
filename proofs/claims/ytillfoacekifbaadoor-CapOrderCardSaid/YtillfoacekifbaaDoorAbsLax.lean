/-
  A region whose order is open, some of whose operations that only read may come before or behind one that makes memory: each such operation is looked at over each heap that it may meet.
-/
import Derived.Test.YtillfoacekifbaaDoorAbsRd
set_option linter.unusedVariables false
set_option linter.unusedSimpArgs false
namespace Go.Abs
open Go

def sameB (ops : Array Oper) (j m : Nat) : Bool := (List.range ops.size).all fun e => match ops[e]? with
  | some oe => !actB oe.op || (decide (e < j) == decide (e < m))
  | none => true
def compatB (ops : Array Oper) (j m : Nat) : Bool :=
  let ms := masks ops.toList []
  (List.range ops.size).all fun e => match ops[e]? with
    | some oe => !actB oe.op || ((!depB ms e j || decide (e < m)) && (!depB ms j e || decide (m ≤ e)))
    | none => true
/-- Which operation may meet which heap beside that of its place in the text. -/
def laxNeed (ops : Array Oper) : List (Nat × Nat) :=
  (List.range ops.size).flatMap fun j => match ops[j]? with
    | some o => if actB o.op || freeB o.op then [] else
        (List.range (ops.size + 1)).filterMap fun m => if (m == 0 || (match ops[m - 1]? with | some oe => actB oe.op | none => false)) && compatB ops j m && !sameB ops j m then some (j, m) else none
    | none => []
def drawOk2 (ops : Array Oper) : Bool :=
  let ms := masks ops.toList []
  (List.range ops.size).all fun j => match ops[j]? with
    | none => true
    | some oj =>
      (oj.after.toList.all fun e => !Region.binds .any e || e.on < j) &&
      (List.range j).all fun i => match ops[i]? with
        | none => true
        | some oi =>
          ((!(actB oi.op && actB oj.op)) || depB ms i j) &&
          ((match oi.dst with | some t => !((looks ops oj).contains t || oj.dst == some t) | none => true) || depB ms i j) &&
          ((match oj.dst with | some t => !((looks ops oi).contains t) | none => true) || depB ms i j)
def laxOk (ops : Array Oper) (L : List (Nat × Nat)) : Bool := drawOk2 ops && (laxNeed ops == L)

section
variable {P : Program} {gl : Globs} {J : List Blk} {h : AHeap} {w : World} {fr : AFrame} {N : Nat} {ops : Array Oper}

structure DrawOk2 (ops : Array Oper) : Prop where
  early : ∀ j o, ops[j]? = some o → ∀ e ∈ o.after, Region.binds .any e = true → e.on < j
  acts : ∀ i j oi oj, ops[i]? = some oi → ops[j]? = some oj → i < j → actB oi.op = true → actB oj.op = true → Dep ops i j
  writes : ∀ i j oi oj t, ops[i]? = some oi → ops[j]? = some oj → i < j → oi.dst = some t → (t ∈ looks ops oj ∨ oj.dst = some t) → Dep ops i j
  reads : ∀ i j oi oj t, ops[i]? = some oi → ops[j]? = some oj → i < j → oj.dst = some t → t ∈ looks ops oi → Dep ops i j

theorem depB_sound {i j : Nat} (hb : depB (masks ops.toList []) i j = true) : Dep ops i j := by
  unfold depB at hb
  cases hx : (masks ops.toList [])[j]? with
  | none => simp [List.getD, hx] at hb
  | some m =>
    simp [List.getD, hx] at hb
    exact masks_sound ops.toList [] (by simp) (by simp) j m hx i hb

theorem drawOk2_spec (h : drawOk2 ops = true) : DrawOk2 ops := by
  have hms : ∀ i j, depB (masks ops.toList []) i j = true → Dep ops i j := fun i j => depB_sound
  unfold drawOk2 at h
  simp only [List.all_eq_true, List.mem_range] at h
  have hj : ∀ j o, ops[j]? = some o → j < ops.size := fun j o ho => (Array.getElem?_eq_some_iff.1 ho).1
  have key : ∀ i j oi oj, ops[i]? = some oi → ops[j]? = some oj → i < j → _ := fun i j oi oj hi hjj hij => by
    have h1 := h j (hj j oj hjj)
    rw [hjj] at h1
    simp only [Bool.and_eq_true, List.all_eq_true, List.mem_range] at h1
    have h2 := h1.2 i hij
    rw [hi] at h2
    exact h2
  refine ⟨?_, ?_, ?_, ?_⟩
  · intro j o ho e he hb
    have h1 := h j (hj j o ho)
    rw [ho] at h1
    simp only [Bool.and_eq_true, List.all_eq_true] at h1
    have := h1.1 e (by simpa using he)
    simpa [hb] using this
  · intro i j oi oj hi hjj hij a1 a2
    have h2 := key i j oi oj hi hjj hij
    simp only [Bool.and_eq_true, Bool.or_eq_true] at h2
    refine h2.1.1.elim (fun hh => ?_) (hms i j)
    simp [a1, a2] at hh
  · intro i j oi oj t hi hjj hij hd hor
    have h2 := key i j oi oj hi hjj hij
    simp only [Bool.and_eq_true, Bool.or_eq_true] at h2
    refine h2.1.2.elim (fun hh => ?_) (hms i j)
    rw [hd] at hh
    simp only [Bool.not_eq_true', Bool.or_eq_false_iff] at hh
    rcases hor with a1 | a1
    · have := hh.1
      simp [a1] at this
    · have := hh.2
      simp [a1] at this
  · intro i j oi oj t hi hjj hij hd hl
    have h2 := key i j oi oj hi hjj hij
    simp only [Bool.and_eq_true, Bool.or_eq_true] at h2
    refine h2.2.elim (fun hh => ?_) (hms i j)
    rw [hd] at hh
    simp [hl] at hh

theorem Part.go2 {F : Nat → AFrame} {H : Nat → AHeap} {X : Nat → AV} {J0 : List Blk} {w0 : World} (dk : DrawOk2 ops) (hF0 : F 0 = fr) (hH0 : H 0 = h)
    (tr : ∀ j o, j < ops.size → ops[j]? = some o → (∀ d, o.dst = some d → d < N) ∧ StepOK P gl N ops o (F j) (H j) (X j) (H (j + 1)) ∧ (freeB o.op = true → ∀ h0, StepOK P gl N ops o (F j) h0 (X j) h0) ∧ (actB o.op = false → H (j + 1) = H j) ∧ F (j + 1) = setd (F j) o.dst (X j))
    (lax : ∀ j o m, ops[j]? = some o → actB o.op = false → freeB o.op = false → m ≤ ops.size → (∀ e oe, ops[e]? = some oe → actB oe.op = true → Dep ops e j → e < m) → (∀ e oe, ops[e]? = some oe → actB oe.op = true → Dep ops j e → m ≤ e) →
      ∃ x, StepOK P gl N ops o (F j) (H m) x (H m) ∧ setd (F j) o.dst x = setd (F j) o.dst (X j))
    {D : Nat → Bool} {a : Act} {w : World} (p : Part gl N ops fr H X h J0 w0 D a w) {j : Nat} {o : Oper} (ho : ops[j]? = some o) (hD : D j = false) (hready : ∀ i, Dep ops i j → D i = true)
    {Q : Exit → Act → World → Prop} {next : Act → World → Prop} (hn : ∀ a' w', Part gl N ops fr H X h J0 w0 (fun i => if i = j then true else D i) a' w' → next a' w') : wpOp P ops Q j next a w := by
  have hj : j < ops.size := (Array.getElem?_eq_some_iff.1 ho).1
  obtain ⟨t1, t2, t3, t4, t5⟩ := tr j o hj ho
  obtain ⟨m, J, hm, hacts, r, ev⟩ := p.rel
  have before : ∀ i oi, ops[i]? = some oi → i < j → Dep ops i j → D i = true := fun i oi _ _ hd => hready i hd
  have behind : ∀ i, Dep ops j i → D i = false := fun i hd => by
    cases hDi : D i with
    | false => rfl
    | true => rw [p.closed j i hd hDi] at hD; cases hD
  have hframe : ∀ t, (t ∈ looks ops o ∨ o.dst = some t) → (∀ i oi, ops[i]? = some oi → j < i → oi.dst = some t → Dep ops j i) → FD ops X fr D ops.size t = F j t := by
    intro t ht hlater
    rw [← FD_trace (ops := ops) (fr := fr) (X := X) hF0 j (fun i oi hi hoi => (tr i oi (by omega) hoi).2.2.2.2) (by omega) j (Nat.le_refl _)]
    rw [show ops.size = j + (ops.size - j) by omega, FD_beyond j (ops.size - j) ?_]
    · refine FD_congr j fun i oi hi hoi hd => ?_
      rw [before i oi hoi hi (dk.writes i j oi o t hoi ho hi hd ht)]
      simp [hi]
    · intro i oi h1 h2 hoi hd
      by_cases hij : i = j
      · subst hij; exact hD
      · exact behind i (hlater i oi hoi (by omega) hd)
  have hlook : ∀ t ∈ looks ops o, FD ops X fr D ops.size t = F j t := fun t ht => hframe t (.inl ht) fun i oi hoi hji hd => dk.reads j i o oi t ho hoi hji hd ht
  have hHc : ∀ (a : Nat) k, a + k ≤ ops.size → (∀ i o, a ≤ i → i < a + k → ops[i]? = some o → actB o.op = false) → H (a + k) = H a :=
    heap_const (ops := ops) (n := ops.size) (fun i oi hi hoi hne => (tr i oi hi hoi).2.2.2.1 hne) (Nat.le_refl _)
  have hheap : actB o.op = true → H m = H j := by
    intro hf
    have hno : ∀ e oe, ops[e]? = some oe → actB oe.op = true → e ≠ j → (D e = true ↔ e < j) := by
      intro e oe hoe hae hne
      rcases Nat.lt_or_gt_of_ne hne with hlt | hgt
      · have := dk.acts e j oe o hoe ho hlt hae hf
        simp [before e oe hoe hlt this, hlt]
      · have := dk.acts j e o oe ho hoe hgt hf hae
        rw [behind e this]
        simp; omega
    rcases Nat.le_total m j with hmj | hmj
    · have := hHc m (j - m) (by omega) (fun i oi h1 h2 hoi => by
        cases hab : actB oi.op with
        | false => rfl
        | true =>
          have e1 := (hacts i oi hoi hab)
          have e2 := (hno i oi hoi hab (by omega))
          rw [e2] at e1
          omega)
      rw [show m + (j - m) = j by omega] at this
      exact this.symm
    · have := hHc j (m - j) (by omega) (fun i oi h1 h2 hoi => by
        cases hab : actB oi.op with
        | false => rfl
        | true =>
          by_cases hij : i = j
          · subst hij
            have e1 := (hacts i oi hoi hab)
            rw [hD] at e1
            simp at e1
            omega
          · have e1 := (hacts i oi hoi hab)
            have e2 := (hno i oi hoi hab hij)
            rw [e2] at e1
            omega)
      rw [show j + (m - j) = m by omega] at this
      exact this
  have hst : ∃ m' x, m' ≤ ops.size ∧ StepOK P gl N ops o (F j) (H m) x (H m') ∧ setd (F j) o.dst x = setd (F j) o.dst (X j) ∧ (∀ e oe, ops[e]? = some oe → actB oe.op = true → ((if e = j then true else D e) = true ↔ e < m')) := by
    have quiet : actB o.op = false → ∀ e oe, ops[e]? = some oe → actB oe.op = true → ((if e = j then true else D e) = true ↔ e < m) := by
      intro hab e oe hoe hae
      by_cases hej : e = j
      · subst hej
        rw [ho] at hoe
        injection hoe with hoe
        subst hoe
        rw [hab] at hae
        cases hae
      · rw [if_neg hej]; exact hacts e oe hoe hae
    cases hab : actB o.op with
    | false =>
      cases hf : freeB o.op with
      | true => exact ⟨m, X j, hm, t3 hf (H m), rfl, quiet hab⟩
      | false =>
        obtain ⟨x, hx1, hx2⟩ := lax j o m ho hab hf hm (fun e oe hoe hae hd => (hacts e oe hoe hae).1 (hready e hd)) (fun e oe hoe hae hd => by
          have h1 := behind e hd
          have h2 := hacts e oe hoe hae
          rw [h1] at h2
          simp at h2
          exact h2)
        exact ⟨m, x, hm, hx1, hx2, quiet hab⟩
    | true =>
      have e0 := hheap hab
      refine ⟨j + 1, X j, by omega, by rw [e0]; exact t2, rfl, fun e oe hoe hae => ?_⟩
      by_cases hej : e = j
      · subst hej; simp
      · rw [if_neg hej]
        rcases Nat.lt_or_gt_of_ne hej with hlt | hgt
        · have := dk.acts e j oe o hoe ho hlt hae hab
          simp [before e oe hoe hlt this]; omega
        · have := dk.acts j e o oe ho hoe hgt hab hae
          rw [behind e this]
          simp; omega
  obtain ⟨m', x, hm', hstep, hxx, hacts'⟩ := hst
  have hFD : ∀ t, FD ops X fr (fun i => if i = j then true else D i) ops.size t = setd (FD ops X fr D ops.size) o.dst x t := by
    intro t
    by_cases hd : o.dst = some t
    · have hx' : x = X j := by
        have := congrFun hxx t
        simpa [setd, hd] using this
      simp only [setd, hd, if_true, hx']
      have hlate : ∀ i oi, j + 1 ≤ i → i < j + 1 + (ops.size - (j + 1)) → ops[i]? = some oi → oi.dst = some t → (if i = j then true else D i) = false := by
        intro i oi h1 h2 hoi hdi
        rw [if_neg (by omega)]
        exact behind i (dk.writes j i o oi t ho hoi (by omega) hd (.inr hdi))
      rw [show ops.size = j + 1 + (ops.size - (j + 1)) by omega, FD_beyond (D := fun i => if i = j then true else D i) (j + 1) (ops.size - (j + 1)) hlate]
      simp only [FD, if_true, ho, Option.bind_some, hd, setd]
    · have : setd (FD ops X fr D ops.size) o.dst x t = FD ops X fr D ops.size t := by
        cases hdo : o.dst with
        | none => rfl
        | some d =>
          simp only [setd]
          rw [if_neg]
          intro e
          exact hd (by rw [hdo, e])
      rw [this]
      refine FD_congr ops.size fun i oi _ hoi hdi => ?_
      by_cases hij : i = j
      · subst hij
        rw [ho] at hoi
        injection hoi with hoi
        subst hoi
        exact absurd hdi hd
      · simp [hij]
  have hclosed : ∀ i k, Dep ops i k → (if k = j then true else D k) = true → (if i = j then true else D i) = true := by
    intro i k hd hk
    by_cases hij : i = j
    · simp [hij]
    · rw [if_neg hij]
      by_cases hkj : k = j
      · subst hkj; exact hready i hd
      · rw [if_neg hkj] at hk
        exact p.closed i k hd hk
  obtain ⟨s1, s2⟩ := hstep J a w Q r.heap (fun t ht => by rw [← hlook t ht]; exact r.tmps t)
  have fin : ∀ (v : Value) (J' : List Blk) (w' : World), HRel gl (H m') J' w' → VRel J' (Own (H m') J') w' x v → Evo (H m) J w (H m') J' w' → next (a.put o.dst v) w' := by
    intro v J' w' q1 q2 q3
    refine hn _ _ ⟨hclosed, m', J', hm', hacts', ?_, ev.trans q3⟩
    have := evo_same q3 r q1 t1 q2
    exact ⟨this.size, this.defers, fun t => by rw [hFD t]; exact this.tmps t, this.heap⟩
  unfold wpOp
  rw [ho]
  simp only
  split
  · rename_i hw
    refine .inl (Oper.wp_mono ?_ (s1 hw))
    rintro a' w' ⟨v, J', rfl, q1, q2, q3⟩
    exact fin v J' w' q1 q2 q3
  · rename_i hw
    obtain ⟨e1, q2⟩ := s2 (by simpa using hw)
    refine fin undef J w (by rw [e1]; exact r.heap) (by rw [e1]; exact q2) (by rw [e1]; exact Evo.refl _ _ _)
/-- A region in the text's order; what follows is told each frame and each heap on the way. -/
def aopsT (P : Program) (gl : Globs) (N : Nat) (ops : Array Oper) : List Oper → List AFrame → List AHeap → (List AFrame → List AHeap → AFrame → AHeap → Prop) → AFrame → AHeap → Prop
  | [], frs, hs, K, fr, h => K (frs ++ [fr]) (hs ++ [h]) fr h
  | o :: l, frs, hs, K, fr, h => astep P gl N true ops o fr h (aopsT P gl N ops l (frs ++ [fr]) (hs ++ [h]) K)

def laxOne (P : Program) (gl : Globs) (N : Nat) (ops : Array Oper) (frs : List AFrame) (hs : List AHeap) (j m : Nat) : Prop := match ops[j]? with
  | some o => astep P gl N true ops o (frs.getD j default) (hs.getD m []) fun fr2 h2 => fr2 = frs.getD (j + 1) default ∧ h2 = hs.getD m []
  | none => True
def laxAll (P : Program) (gl : Globs) (N : Nat) (ops : Array Oper) : List (Nat × Nat) → List AFrame → List AHeap → Prop
  | [], _, _ => True
  | p :: l, frs, hs => laxOne P gl N ops frs hs p.1 p.2 ∧ laxAll P gl N ops l frs hs

theorem laxAll_mem {L : List (Nat × Nat)} {frs : List AFrame} {hs : List AHeap} (hl : laxAll P gl N ops L frs hs) {p : Nat × Nat} (hp : p ∈ L) : laxOne P gl N ops frs hs p.1 p.2 := by
  induction L with
  | nil => cases hp
  | cons q L ih =>
    rcases List.mem_cons.1 hp with rfl | hp
    · exact hl.1
    · exact ih hl.2 hp

theorem aopsT_trace {K : List AFrame → List AHeap → AFrame → AHeap → Prop} : ∀ (l : List Oper) (i : Nat) (fr : AFrame) (h : AHeap) (frs : List AFrame) (hs : List AHeap), (∀ j, l[j]? = ops[i + j]?) → aopsT P gl N ops l frs hs K fr h →
    ∃ (F : Nat → AFrame) (H : Nat → AHeap) (X : Nat → AV), F i = fr ∧ H i = h ∧ K (frs ++ (List.range' i (l.length + 1)).map F) (hs ++ (List.range' i (l.length + 1)).map H) (F (i + l.length)) (H (i + l.length)) ∧
      ∀ j o, i ≤ j → j < i + l.length → ops[j]? = some o → (∀ d, o.dst = some d → d < N) ∧ StepOK P gl N ops o (F j) (H j) (X j) (H (j + 1)) ∧ (freeB o.op = true → ∀ h0, StepOK P gl N ops o (F j) h0 (X j) h0) ∧ (actB o.op = false → H (j + 1) = H j) ∧ F (j + 1) = setd (F j) o.dst (X j)
  | [], i, fr, h, frs, hs, _, hk => ⟨fun _ => fr, fun _ => h, fun _ => .junk, rfl, rfl, by simpa [List.range', aopsT] using hk, fun j o h1 h2 => by simp at h2; omega⟩
  | o :: l, i, fr, h, frs, hs, hl, hk => by
    obtain ⟨x, h', p1, p2, p3, p4, p5⟩ := astep_det hk
    obtain ⟨F, H, X, f1, f2, f3, f4⟩ := aopsT_trace l (i + 1) (setd fr o.dst x) h' _ _ (fun j => by have := hl (j + 1); simpa [Nat.add_assoc, Nat.add_comm 1 j] using this) p5
    have hF : ∀ G : Nat → AFrame, (∀ k, i + 1 ≤ k → G k = F k) → (List.range' (i + 1) (l.length + 1)).map G = (List.range' (i + 1) (l.length + 1)).map F := fun G hG => List.map_congr_left fun k hk => hG k (List.mem_range'_1.1 hk).1
    have hH : ∀ G : Nat → AHeap, (∀ k, i + 1 ≤ k → G k = H k) → (List.range' (i + 1) (l.length + 1)).map G = (List.range' (i + 1) (l.length + 1)).map H := fun G hG => List.map_congr_left fun k hk => hG k (List.mem_range'_1.1 hk).1
    refine ⟨fun j => if j ≤ i then fr else F j, fun j => if j ≤ i then h else H j, fun j => if j ≤ i then x else X j, by simp, by simp, ?_, ?_⟩
    · simp only [List.length_cons]
      rw [List.range'_succ, List.map_cons, List.map_cons, hF _ (fun k hk => if_neg (by omega)), hH _ (fun k hk => if_neg (by omega))]
      simp only [Nat.le_refl, if_true, if_neg (show ¬ i + (l.length + 1) ≤ i by omega)]
      rw [show i + (l.length + 1) = i + 1 + l.length by omega]
      simpa using f3
    · intro j o' h1 h2 ho'
      simp only [List.length_cons] at h2
      by_cases hji : j = i
      · subst hji
        have h0 := hl 0
        simp at h0
        rw [ho'] at h0
        injection h0 with h0
        subst h0
        simp only [Nat.le_refl, if_true, if_neg (show ¬ (j + 1 ≤ j) by omega)]
        rw [f1, f2]
        exact ⟨p1, p2, p3, p4, rfl⟩
      · simp only [if_neg (show ¬ (j ≤ i) by omega), if_neg (show ¬ (j + 1 ≤ i) by omega)]
        exact f4 j o' (by omega) (by omega) ho'

/-- The last act's place at or before m. -/
theorem canon (ops : Array Oper) : ∀ m, m ≤ ops.size → ∃ c, c ≤ m ∧ (c = 0 ∨ ∃ oe, 0 < c ∧ ops[c - 1]? = some oe ∧ actB oe.op = true) ∧ ∀ i o, c ≤ i → i < m → ops[i]? = some o → actB o.op = false
  | 0, _ => ⟨0, Nat.le_refl _, .inl rfl, fun i o h1 h2 => by omega⟩
  | m + 1, hm => by
    have ho : ops[m]? = some (ops[m]'(by omega)) := Array.getElem?_eq_getElem (by omega)
    cases hab : actB (ops[m]'(by omega)).op with
    | true => exact ⟨m + 1, Nat.le_refl _, .inr ⟨_, by omega, by simp, hab⟩, fun i o h1 h2 => by omega⟩
    | false =>
      obtain ⟨c, h1, h2, h3⟩ := canon ops m (by omega)
      refine ⟨c, by omega, h2, fun i o h4 h5 hoi => ?_⟩
      by_cases hi : i = m
      · subst hi; rw [ho] at hoi; injection hoi with hoi; subst hoi; exact hab
      · exact h3 i o h4 (by omega) hoi

theorem lax_of_all {F : Nat → AFrame} {H : Nat → AHeap} {X : Nat → AV} {L : List (Nat × Nat)} (hL : laxNeed ops = L)
    (tr : ∀ j o, 0 ≤ j → j < ops.size → ops[j]? = some o → (∀ d, o.dst = some d → d < N) ∧ StepOK P gl N ops o (F j) (H j) (X j) (H (j + 1)) ∧ (freeB o.op = true → ∀ h0, StepOK P gl N ops o (F j) h0 (X j) h0) ∧ (actB o.op = false → H (j + 1) = H j) ∧ F (j + 1) = setd (F j) o.dst (X j))
    (hall : laxAll P gl N ops L ((List.range' 0 (ops.size + 1)).map F) ((List.range' 0 (ops.size + 1)).map H)) :
    ∀ j o m, ops[j]? = some o → actB o.op = false → freeB o.op = false → m ≤ ops.size → (∀ e oe, ops[e]? = some oe → actB oe.op = true → Dep ops e j → e < m) → (∀ e oe, ops[e]? = some oe → actB oe.op = true → Dep ops j e → m ≤ e) →
      ∃ x, StepOK P gl N ops o (F j) (H m) x (H m) ∧ setd (F j) o.dst x = setd (F j) o.dst (X j) := by
  intro j o m ho hab hfb hm hc1 hc2
  have hj : j < ops.size := (Array.getElem?_eq_some_iff.1 ho).1
  obtain ⟨t1, t2, t3, t4, t5⟩ := tr j o (Nat.zero_le _) hj ho
  have hHc : ∀ (a : Nat) k, a + k ≤ ops.size → (∀ i o, a ≤ i → i < a + k → ops[i]? = some o → actB o.op = false) → H (a + k) = H a :=
    heap_const (ops := ops) (n := ops.size) (fun i oi hi hoi hne => (tr i oi (Nat.zero_le _) hi hoi).2.2.2.1 hne) (Nat.le_refl _)
  obtain ⟨c, h1, h2, h3⟩ := canon ops m hm
  have hHm : H m = H c := by
    have := hHc c (m - c) (by omega) (fun i oi q1 q2 => h3 i oi q1 (by omega))
    rwa [show c + (m - c) = m by omega] at this
  have hlt : ∀ e oe, ops[e]? = some oe → actB oe.op = true → (e < m ↔ e < c) := by
    intro e oe hoe hae
    constructor
    · intro hem
      rcases Nat.lt_or_ge e c with h | h
      · exact h
      · rw [h3 e oe h hem hoe] at hae; cases hae
    · intro h; omega
  rw [hHm]
  have getF : ∀ k, k ≤ ops.size → ((List.range' 0 (ops.size + 1)).map F).getD k default = F k := by
    intro k hk
    rw [List.getD_eq_getElem?_getD, List.getElem?_map, List.getElem?_range' (by omega)]
    simp
  have getH : ∀ k, k ≤ ops.size → ((List.range' 0 (ops.size + 1)).map H).getD k [] = H k := by
    intro k hk
    rw [List.getD_eq_getElem?_getD, List.getElem?_map, List.getElem?_range' (by omega)]
    simp
  by_cases hs : sameB ops j c = true
  · have hjc : H j = H c := by
      unfold sameB at hs
      simp only [List.all_eq_true, List.mem_range] at hs
      have same : ∀ e oe, ops[e]? = some oe → actB oe.op = true → (e < j ↔ e < c) := by
        intro e oe hoe hae
        have := hs e (Array.getElem?_eq_some_iff.1 hoe).1
        rw [hoe] at this
        simp only [hae, Bool.not_true, Bool.false_or, beq_iff_eq, decide_eq_decide] at this
        exact this
      rcases Nat.le_total c j with hcj | hcj
      · have := hHc c (j - c) (by omega) (fun i oi q1 q2 hoi => by
          cases hb : actB oi.op with
          | false => rfl
          | true => have := (same i oi hoi hb).1 (by omega); omega)
        rwa [show c + (j - c) = j by omega] at this
      · have := hHc j (c - j) (by omega) (fun i oi q1 q2 hoi => by
          cases hb : actB oi.op with
          | false => rfl
          | true => have := (same i oi hoi hb).2 (by omega); omega)
        rw [show j + (c - j) = c by omega] at this
        exact this.symm
    refine ⟨X j, ?_, rfl⟩
    have := t2
    rw [t4 hab, hjc] at this
    exact this
  · have hmem : (j, c) ∈ L := by
      rw [← hL]
      unfold laxNeed
      rw [List.mem_flatMap]
      refine ⟨j, List.mem_range.2 hj, ?_⟩
      rw [ho]
      simp only [hab, hfb, Bool.or_self, Bool.false_eq_true, if_false]
      rw [List.mem_filterMap]
      refine ⟨c, List.mem_range.2 (by omega), ?_⟩
      rw [if_pos]
      simp only [Bool.and_eq_true, Bool.or_eq_true, beq_iff_eq, Bool.not_eq_true']
      refine ⟨⟨?_, ?_⟩, by simpa using hs⟩
      · rcases h2 with h2 | ⟨oe, _, h2, h4⟩
        · exact .inl h2
        · right; rw [h2]; exact h4
      · unfold compatB
        simp only [List.all_eq_true, List.mem_range]
        intro e he
        have hoe : ops[e]? = some (ops[e]'he) := Array.getElem?_eq_getElem he
        rw [hoe]
        cases hae : actB (ops[e]'he).op with
        | false => simp [hae]
        | true =>
          simp only [hae, Bool.not_true, Bool.false_or, Bool.and_eq_true, Bool.or_eq_true, Bool.not_eq_true', decide_eq_true_eq]
          refine ⟨?_, ?_⟩
          · cases hd : depB (masks ops.toList []) e j with
            | false => exact .inl rfl
            | true => exact .inr ((hlt e _ hoe hae).1 (hc1 e _ hoe hae (depB_sound hd)))
          · cases hd : depB (masks ops.toList []) j e with
            | false => exact .inl rfl
            | true => right; have := hc2 e _ hoe hae (depB_sound hd); omega
    have h5 := laxAll_mem hall hmem
    unfold laxOne at h5
    rw [ho] at h5
    simp only at h5
    rw [getF j (by omega), getH c (by omega), getF (j + 1) (by omega)] at h5
    obtain ⟨x, h', _, p2, _, _, p5, p6⟩ := astep_det h5
    rw [p6] at p2
    exact ⟨x, p2, by rw [p5, t5]⟩

theorem ready_all2 (dk : DrawOk2 ops) {listed : Array Bool} (hsz : listed.size = ops.size) (hr : Region.ready .any ops listed = []) : ∀ i, i < ops.size → listed.getD i false = true := by
  intro i
  induction i using Nat.strongRecOn with
  | _ i ih =>
    intro hi
    cases hl : listed.getD i false with
    | true => rfl
    | false =>
      have ho : ops[i]? = some (ops[i]'hi) := Array.getElem?_eq_getElem hi
      have : i ∈ Region.ready .any ops listed := mem_ready.2 ⟨by
        rw [Array.getD_eq_getD_getElem?] at hl ⊢
        rw [Array.getElem?_eq_getElem (by omega)] at hl ⊢
        simpa using hl, _, ho, fun e he hb => ih e.on (dk.early i _ ho e he hb) (by have := dk.early i _ ho e he hb; omega)⟩
      rw [hr] at this
      cases this

theorem wpAny_of_part2 {F : Nat → AFrame} {H : Nat → AHeap} {X : Nat → AV} {J0 : List Blk} {w0 : World} (dk : DrawOk2 ops) (hF0 : F 0 = fr) (hH0 : H 0 = h)
    (tr : ∀ j o, j < ops.size → ops[j]? = some o → (∀ d, o.dst = some d → d < N) ∧ StepOK P gl N ops o (F j) (H j) (X j) (H (j + 1)) ∧ (freeB o.op = true → ∀ h0, StepOK P gl N ops o (F j) h0 (X j) h0) ∧ (actB o.op = false → H (j + 1) = H j) ∧ F (j + 1) = setd (F j) o.dst (X j))
    (lax : ∀ j o m, ops[j]? = some o → actB o.op = false → freeB o.op = false → m ≤ ops.size → (∀ e oe, ops[e]? = some oe → actB oe.op = true → Dep ops e j → e < m) → (∀ e oe, ops[e]? = some oe → actB oe.op = true → Dep ops j e → m ≤ e) →
      ∃ x, StepOK P gl N ops o (F j) (H m) x (H m) ∧ setd (F j) o.dst x = setd (F j) o.dst (X j))
    {Q : Exit → Act → World → Prop} (hQ : ∀ J a w, ARel gl N J (F ops.size) (H ops.size) a w → Evo h J0 w0 (H ops.size) J w → Q .normal a w) :
    ∀ (fuel : Nat) (listed : Array Bool) (a : Act) (w : World), listed.size = ops.size → (fuel = 0 → Region.ready .any ops listed = []) → (listed.toList.count false ≤ fuel) → Part gl N ops fr H X h J0 w0 (fun i => listed.getD i false) a w → wpAny P .any ops Q fuel listed a w := by
  have fin : ∀ (listed : Array Bool) (a : Act) (w : World), listed.size = ops.size → Region.ready .any ops listed = [] → Part gl N ops fr H X h J0 w0 (fun i => listed.getD i false) a w → Q .normal a w := by
    intro listed a w hsz hr p
    have hall := ready_all2 dk hsz hr
    obtain ⟨m, J, hm, hacts, r, ev⟩ := p.rel
    have hHm : H m = H ops.size := by
      have := heap_const (ops := ops) (n := ops.size) (fun i oi hi hoi hne => (tr i oi hi hoi).2.2.2.1 hne) (Nat.le_refl _) m (ops.size - m) (by omega) (fun i oi h1 h2 hoi => by
        cases hab : actB oi.op with
        | false => rfl
        | true =>
          have := (hacts i oi hoi hab).1 (hall i (by omega))
          omega)
      rw [show m + (ops.size - m) = ops.size by omega] at this
      exact this.symm
    have hFF : ∀ t, FD ops X fr (fun i => listed.getD i false) ops.size t = F ops.size t := by
      intro t
      rw [← FD_trace (ops := ops) (fr := fr) (X := X) hF0 ops.size (fun i oi hi hoi => (tr i oi hi hoi).2.2.2.2) (Nat.le_refl _) ops.size (Nat.le_refl _)]
      exact FD_congr ops.size fun i oi hi _ _ => by rw [hall i hi]; simp [hi]
    refine hQ J a w ⟨r.size, r.defers, fun t => ?_, ?_⟩ ?_
    · rw [← hFF t, ← hHm]; exact r.tmps t
    · rw [← hHm]; exact r.heap
    · rw [← hHm]; exact ev
  intro fuel
  induction fuel with
  | zero =>
    intro listed a w hsz h0 _ p
    exact ⟨h0 rfl, fin listed a w hsz (h0 rfl) p⟩
  | succ fuel ih =>
    intro listed a w hsz _ hc p
    refine ⟨fun hr => fin listed a w hsz hr p, fun i hi => ?_⟩
    obtain ⟨hun, o, ho, hall⟩ := mem_ready.1 hi
    have hil : i < listed.size := by rw [hsz]; exact (Array.getElem?_eq_some_iff.1 ho).1
    have hD : listed.getD i false = false := by
      rw [Array.getD_eq_getD_getElem?, Array.getElem?_eq_getElem hil] at hun ⊢
      simpa using hun
    have hready : ∀ k, Dep ops k i → listed.getD k false = true := by
      intro k hd
      generalize hii : i = i' at hd
      induction hd with
      | base a b ob e hob he hb hon =>
        subst hii
        rw [ho] at hob
        injection hob with hob
        subst hob
        rw [← hon]
        exact hall e he hb
      | trans a b c h1 h2 _ ih2 =>
        exact p.closed a b h1 (ih2 hii)
    refine Part.go2 dk hF0 hH0 tr lax p ho hD hready fun a' w' p' => ?_
    have hD' : ∀ k, (listed.setIfInBounds i true).getD k false = if k = i then true else listed.getD k false := by
      intro k
      by_cases hk : k = i
      · subst hk
        rw [Array.getD_eq_getD_getElem?, Array.getElem?_setIfInBounds_self_of_lt hil]
        simp
      · rw [Array.getD_eq_getD_getElem?, Array.getElem?_setIfInBounds_ne (Ne.symm hk), ← Array.getD_eq_getD_getElem?]
        simp [hk]
    have hcount : (listed.setIfInBounds i true).toList.count false + 1 = listed.toList.count false := by
      rw [Array.toList_setIfInBounds]
      have hli : listed.toList[i]? = some false := by
        rw [Array.getD_eq_getD_getElem?] at hD
        cases hx : listed[i]? with
        | none => rw [Array.getElem?_eq_getElem hil] at hx; cases hx
        | some b => rw [hx] at hD; simp at hD; subst hD; simpa using hx
      obtain ⟨hlt, heq⟩ := List.getElem?_eq_some_iff.1 hli
      rw [List.count_set hlt]
      rw [heq]
      have hpos : 0 < listed.toList.count false := List.count_pos_iff.2 (by rw [← heq]; exact List.getElem_mem hlt)
      have e1 : (if (false == false) = true then 1 else 0) = 1 := rfl
      have e2 : (if (true == false) = true then 1 else 0) = 0 := rfl
      rw [e1, e2]
      omega
    refine ih _ a' w' (by simp [hsz]) ?_ (by omega) ?_
    · intro h0
      have hcz : (listed.setIfInBounds i true).toList.count false = 0 := by omega
      cases hr : Region.ready .any ops (listed.setIfInBounds i true) with
      | nil => rfl
      | cons k ks =>
        have hk : k ∈ Region.ready .any ops (listed.setIfInBounds i true) := by rw [hr]; simp
        obtain ⟨hun', ok, hok, _⟩ := mem_ready.1 hk
        have hkl : k < (listed.setIfInBounds i true).size := by simp [hsz]; exact (Array.getElem?_eq_some_iff.1 hok).1
        rw [Array.getD_eq_getD_getElem?, Array.getElem?_eq_getElem hkl] at hun'
        simp only [Option.getD_some] at hun'
        have : false ∈ (listed.setIfInBounds i true).toList := by
          rw [← hun']
          exact Array.getElem_mem_toList hkl
        have := List.count_pos_iff.2 this
        omega
    · have hfun : (fun k => (listed.setIfInBounds i true).getD k false) = (fun k => if k = i then true else listed.getD k false) := funext hD'
      rw [hfun]
      exact p'

/-- A region in whatever order, some that read unordered with what makes memory. -/
theorem AWP.region_lax {id : Nat} {Q : APost} (L : List (Nat × Nat)) (hm : P.follows .mixedOrders = true) (hd : laxOk ops L = true) (hs : aopsT P gl N ops ops.toList [] [] (fun frs hs fr h => laxAll P gl N ops L frs hs ∧ Q .normal fr h) fr h) : AWP P gl N (.region id ops true) Q fr h := by
  intro J a w r
  simp only [laxOk, Bool.and_eq_true, beq_iff_eq] at hd
  have dk := drawOk2_spec hd.1
  obtain ⟨F, H, X, f1, f2, f30, f4⟩ := aopsT_trace ops.toList 0 fr h [] [] (by simp) hs
  simp only [Nat.zero_add, Array.length_toList, List.nil_append] at f30 f4
  obtain ⟨hlax, f3⟩ := f30
  have lax := lax_of_all hd.2 f4 hlax
  obtain ⟨hdr, evd⟩ := r.heap.drew
  refine wp_region_any hm ?_
  refine wpAny_of_part2 (F := F) (H := H) (X := X) (fr := fr) (h := h) (J0 := J) (w0 := w) dk f1 f2 (fun j o hj ho => f4 j o (Nat.zero_le _) hj ho) lax (Q := lift gl N h J w Q) ?_ ops.size _ a _ (by simp) ?_ (by simp) ?_
  · intro J' a' w' r' ev'
    exact ⟨J', F ops.size, H ops.size, r', ev', f3⟩
  · intro h0
    have : ops = #[] := Array.eq_empty_of_size_eq_zero h0
    subst this
    rfl
  · refine ⟨fun i j _ hj => ?_, 0, J, Nat.zero_le _, fun e o ho hae => ?_, ?_, ?_⟩
    · exfalso
      simp only [Array.getD_eq_getD_getElem?] at hj
      cases hx : (Array.replicate ops.size false)[j]? with
      | none => rw [hx] at hj; simp at hj
      | some b =>
        rw [hx] at hj
        rw [Array.getElem?_replicate] at hx
        split at hx <;> simp_all
    · have he : e < ops.size := (Array.getElem?_eq_some_iff.1 ho).1
      simp [he]
    · have hfd : ∀ n, FD ops X fr (fun i => (Array.replicate ops.size false).getD i false) n = fr := by
        intro n
        induction n with
        | zero => rfl
        | succ n ih =>
          simp only [FD]
          rw [if_neg, ih]
          intro hh
          simp only [Array.getD_eq_getD_getElem?] at hh
          cases hx : (Array.replicate ops.size false)[n]? with
          | none => rw [hx] at hh; simp at hh
          | some b =>
            rw [hx] at hh
            rw [Array.getElem?_replicate] at hx
            split at hx <;> simp_all
      rw [hfd, f2]
      exact ⟨r.size, r.defers, fun t => (r.tmps t).evo evd, hdr⟩
    · rw [f2]; exact evd
end

/-! ### Code with such regions: 'lx' tells, region by region, what is looked at beside the text's order -/
def awpL (P : Program) (gl : Globs) (N : Nat) (lx : Nat → Option (List (Nat × Nat))) : Code → APost → AFrame → AHeap → Prop
  | .skip, Q, fr, h => Q .normal fr h
  | .label _, Q, fr, h => Q .normal fr h
  | .seq a b, Q, fr, h => awpL P gl N lx a (AThen (awpL P gl N lx b Q) Q) fr h
  | .cond c x y, Q, fr, h => (ev gl fr c).gd = true ∧ isB (ev gl fr c).core (acond (awpL P gl N lx x Q) (awpL P gl N lx y Q) fr h)
  | .block id c, Q, fr, h => awpL P gl N lx c (ABlock id Q) fr h
  | .exit id, Q, fr, h => Q (.exit id) fr h
  | .ret, Q, fr, h => Q .ret fr h
  | .region _ ops false, Q, fr, h => aops P gl N false ops ops.toList (Q .normal) fr h
  | .region id ops true, Q, fr, h => match lx id with
    | none => drawOk ops = true ∧ aops P gl N true ops ops.toList (Q .normal) fr h
    | some L => laxOk ops L = true ∧ aopsT P gl N ops ops.toList [] [] (fun frs hs fr h => laxAll P gl N ops L frs hs ∧ Q .normal fr h) fr h
  | .loop c, Q, fr, h => AWP P gl N (.loop c) Q fr h
  | _, _, _, _ => False

section
variable {P : Program} {gl : Globs} {N : Nat} {fr : AFrame} {h : AHeap} {lx : Nat → Option (List (Nat × Nat))}

theorem AWP.of_awpL (lx : Nat → Option (List (Nat × Nat))) (hm : P.follows .mixedOrders = true) : ∀ (c : Code) (Q : APost) (fr : AFrame) (h : AHeap), awpL P gl N lx c Q fr h → AWP P gl N c Q fr h
  | .skip, Q, fr, h, hs => AWP.skip hs
  | .label _, Q, fr, h, hs => AWP.label hs
  | .seq a b, Q, fr, h, hs => by
    refine AWP.seq ((AWP.of_awpL lx hm a _ fr h hs).mono ?_)
    intro e fr' h' q
    cases e with
    | normal => exact AWP.of_awpL lx hm b Q fr' h' q
    | _ => exact q
  | .cond c x y, Q, fr, h, hs => by
    obtain ⟨hg, hs⟩ := hs
    unfold isB at hs
    split at hs
    · rename_i t ht
      intro J a w r
      have re := (ev_sound (a := a) r.heap (fun t' _ => r.tmps t') : VRel J (Own h J) w (ev gl fr c) (a.eval c)).core hg
      rw [ht] at re
      have hc : a.eval c = .bool t := by
        generalize a.eval c = v at re
        cases re
        rfl
      refine wp_cond hc ?_
      cases t with
      | true => exact AWP.of_awpL lx hm x Q fr h (hs.1 rfl) J a w r
      | false => exact AWP.of_awpL lx hm y Q fr h (hs.2 rfl) J a w r
    · exact hs.elim
  | .block id c, Q, fr, h, hs => AWP.block (AWP.of_awpL lx hm c _ fr h hs)
  | .exit id, Q, fr, h, hs => AWP.exit hs
  | .ret, Q, fr, h, hs => AWP.ret hs
  | .region _ ops false, Q, fr, h, hs => AWP.region hs
  | .region id ops true, Q, fr, h, hs => by
    simp only [awpL] at hs
    cases hl : lx id with
    | none => rw [hl] at hs; exact AWP.region_draw hm hs.1 hs.2
    | some L => rw [hl] at hs; exact AWP.region_lax L hm hs.1 hs.2
  | .loop c, Q, fr, h, hs => hs
  | .rangeFunc .., _, _, _, hs => hs.elim
  | .scope _, _, _, _, hs => hs.elim
  | .goto _, _, _, _, hs => hs.elim
  | .refuse _, _, _, _, hs => hs.elim

theorem ACalls.bodyL {f : FuncId} (lx : Nat → Option (List (Nat × Nat))) (fn : Func) (c : Code) {args : List AV} {R : AV → AHeap → Prop} (hm : P.follows .mixedOrders = true) (hf : P.funcs[f]? = some fn) (hb : fn.body = some c) (hname : (fn.name == "runtime.NumGoroutine") = false)
    (hn : args.length ≤ fn.ntmps) (hc : awpL P gl fn.ntmps lx c (rleaves P fn R) (ainit args) h) : ACalls P gl f args h R :=
  ACalls.of_body' hf hb hname hn (AWP.of_awpL lx hm c _ _ _ hc)
theorem AWP.upL {c : Code} {Q : APost} (lx : Nat → Option (List (Nat × Nat))) (hm : P.follows .mixedOrders = true) (n : Nat) (I : Nat → AFrame → AHeap → Prop) (k : Nat) (hk : k ≤ n) (h0 : I k fr h)
    (round : ∀ k fr h, k ≤ n → I k fr h → awpL P gl N lx c (AThen (fun fr' h' => ∃ k', k < k' ∧ k' ≤ n ∧ I k' fr' h') Q) fr h) : AWP P gl N (.loop c) Q fr h :=
  AWP.loop_up n I k hk h0 fun k fr h h1 h2 => AWP.of_awpL lx hm c _ _ _ (round k fr h h1 h2)
theorem AWP.downL {c : Code} {Q : APost} (lx : Nat → Option (List (Nat × Nat))) (hm : P.follows .mixedOrders = true) (I : Nat → AFrame → AHeap → Prop) (k : Nat) (h0 : I k fr h)
    (round : ∀ k fr h, I k fr h → awpL P gl N lx c (AThen (fun fr' h' => ∃ k', k' < k ∧ I k' fr' h') Q) fr h) : AWP P gl N (.loop c) Q fr h :=
  AWP.loop I k h0 fun k fr h h2 => AWP.of_awpL lx hm c _ _ _ (round k fr h h2)
end
section
variable {P : Program} {gl : Globs} {N : Nat} {Q : APost} {fr : AFrame} {h : AHeap} {lx : Nat → Option (List (Nat × Nat))} {ops : Array Oper}
@[simp] theorem awp_skipL : awpL P gl N lx .skip Q fr h ↔ Q .normal fr h := Iff.rfl
@[simp] theorem awp_labelL (l : Nat) : awpL P gl N lx (.label l) Q fr h ↔ Q .normal fr h := Iff.rfl
@[simp] theorem awp_seqL (a b : Code) : awpL P gl N lx (.seq a b) Q fr h ↔ awpL P gl N lx a (AThen (awpL P gl N lx b Q) Q) fr h := Iff.rfl
@[simp] theorem awp_condL (c : Operand) (x y : Code) : awpL P gl N lx (.cond c x y) Q fr h ↔ (ev gl fr c).gd = true ∧ isB (ev gl fr c).core (acond (awpL P gl N lx x Q) (awpL P gl N lx y Q) fr h) := Iff.rfl
@[simp] theorem awp_blockL (id : Nat) (c : Code) : awpL P gl N lx (.block id c) Q fr h ↔ awpL P gl N lx c (ABlock id Q) fr h := Iff.rfl
@[simp] theorem awp_exitL (id : Nat) : awpL P gl N lx (.exit id) Q fr h ↔ Q (.exit id) fr h := Iff.rfl
@[simp] theorem awp_retL : awpL P gl N lx .ret Q fr h ↔ Q .ret fr h := Iff.rfl
@[simp] theorem awp_regionL (id : Nat) : awpL P gl N lx (.region id ops false) Q fr h ↔ aops P gl N false ops ops.toList (Q .normal) fr h := Iff.rfl
@[simp] theorem awp_loopL (c : Code) : awpL P gl N lx (.loop c) Q fr h ↔ AWP P gl N (.loop c) Q fr h := Iff.rfl
@[simp] theorem awp_drawL (id : Nat) (ops : Array Oper) : awpL P gl N lx (.region id ops true) Q fr h ↔ (match lx id with
    | none => drawOk ops = true ∧ aops P gl N true ops ops.toList (Q .normal) fr h
    | some L => laxOk ops L = true ∧ aopsT P gl N ops ops.toList [] [] (fun frs hs fr h => laxAll P gl N ops L frs hs ∧ Q .normal fr h) fr h) := Iff.rfl
@[simp] theorem aopsT_nil (ops : Array Oper) (frs : List AFrame) (hs : List AHeap) (K : List AFrame → List AHeap → AFrame → AHeap → Prop) : aopsT P gl N ops [] frs hs K fr h ↔ K (frs ++ [fr]) (hs ++ [h]) fr h := Iff.rfl
@[simp] theorem aopsT_cons (ops : Array Oper) (o : Oper) (l : List Oper) (frs : List AFrame) (hs : List AHeap) (K : List AFrame → List AHeap → AFrame → AHeap → Prop) : aopsT P gl N ops (o :: l) frs hs K fr h ↔ astep P gl N true ops o fr h (aopsT P gl N ops l (frs ++ [fr]) (hs ++ [h]) K) := Iff.rfl
@[simp] theorem laxAll_nil (ops : Array Oper) (frs : List AFrame) (hs : List AHeap) : laxAll P gl N ops [] frs hs ↔ True := Iff.rfl
@[simp] theorem laxAll_cons (ops : Array Oper) (p : Nat × Nat) (L : List (Nat × Nat)) (frs : List AFrame) (hs : List AHeap) : laxAll P gl N ops (p :: L) frs hs ↔ laxOne P gl N ops frs hs p.1 p.2 ∧ laxAll P gl N ops L frs hs := Iff.rfl
end
attribute [simp] laxOne
end Go.Abs
