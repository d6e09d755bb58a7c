/-
  Any order; then a piece of code as a Prop.
-/
import Derived.Test.YtcbaojkchiphkaaAbsRun5
set_option linter.unusedVariables false
set_option linter.unusedSimpArgs false
namespace Go.Abs
open Go

section
variable {P : Program} {gl : Globs} {J : List Blk} {h : AHeap} {w : World} {fr : AFrame} {N : Nat} {ops : Array Oper}

/-- What holds when some of the operations have been carried out. -/
structure Part (gl : Globs) (N : Nat) (ops : Array Oper) (fr : AFrame) (H : Nat → AHeap) (X : Nat → AV) (h : AHeap) (J0 : List Blk) (w0 : World) (D : Nat → Bool) (a : Act) (w : World) : Prop where
  closed : ∀ i j, Dep ops i j → D j = true → D i = true
  rel : ∃ m J, m ≤ ops.size ∧ (∀ e o, ops[e]? = some o → actB o.op = true → (D e = true ↔ e < m)) ∧ ARel gl N J (FD ops X fr D ops.size) (H m) a w ∧ Evo h J0 w0 (H m) J w

theorem Part.go {F : Nat → AFrame} {H : Nat → AHeap} {X : Nat → AV} {J0 : List Blk} {w0 : World} (dk : DrawOk ops) (hF0 : F 0 = fr) (hH0 : H 0 = h)
    (tr : ∀ j o, j < ops.size → ops[j]? = some o → (∀ d, o.dst = some d → d < N) ∧ StepOK P gl N ops o (F j) (H j) (X j) (H (j + 1)) ∧ (freeB o.op = true → ∀ h0, StepOK P gl N ops o (F j) h0 (X j) h0) ∧ (actB o.op = false → H (j + 1) = H j) ∧ F (j + 1) = setd (F j) o.dst (X j))
    {D : Nat → Bool} {a : Act} {w : World} (p : Part gl N ops fr H X h J0 w0 D a w) {j : Nat} {o : Oper} (ho : ops[j]? = some o) (hD : D j = false) (hready : ∀ i, Dep ops i j → D i = true)
    {Q : Exit → Act → World → Prop} {next : Act → World → Prop} (hn : ∀ a' w', Part gl N ops fr H X h J0 w0 (fun i => if i = j then true else D i) a' w' → next a' w') : wpOp P ops Q j next a w := by
  have hj : j < ops.size := (Array.getElem?_eq_some_iff.1 ho).1
  obtain ⟨t1, t2, t3, t4, t5⟩ := tr j o hj ho
  obtain ⟨m, J, hm, hacts, r, ev⟩ := p.rel
  -- what has been carried out of those before, what of those behind
  have before : ∀ i oi, ops[i]? = some oi → i < j → Dep ops i j → D i = true := fun i oi _ _ hd => hready i hd
  have behind : ∀ i, Dep ops j i → D i = false := fun i hd => by
    cases hDi : D i with
    | false => rfl
    | true => rw [p.closed j i hd hDi] at hD; cases hD
  -- the frame, as far as the operation looks
  have hframe : ∀ t, (t ∈ looks ops o ∨ o.dst = some t) → (∀ i oi, ops[i]? = some oi → j < i → oi.dst = some t → Dep ops j i) → FD ops X fr D ops.size t = F j t := by
    intro t ht hlater
    rw [← FD_trace (ops := ops) (fr := fr) (X := X) hF0 j (fun i oi hi hoi => (tr i oi (by omega) hoi).2.2.2.2) (by omega) j (Nat.le_refl _)]
    rw [show ops.size = j + (ops.size - j) by omega, FD_beyond j (ops.size - j) ?_]
    · refine FD_congr j fun i oi hi hoi hd => ?_
      rw [before i oi hoi hi (dk.writes i j oi o t hoi ho hi hd ht)]
      simp [hi]
    · intro i oi h1 h2 hoi hd
      by_cases hij : i = j
      · subst hij; exact hD
      · exact behind i (hlater i oi hoi (by omega) hd)
  have hlook : ∀ t ∈ looks ops o, FD ops X fr D ops.size t = F j t := fun t ht => hframe t (.inl ht) fun i oi hoi hji hd => dk.reads j i o oi t ho hoi hji hd ht
  -- the heap, unless it does not matter
  have hHc : ∀ (a : Nat) k, a + k ≤ ops.size → (∀ i o, a ≤ i → i < a + k → ops[i]? = some o → actB o.op = false) → H (a + k) = H a :=
    heap_const (ops := ops) (n := ops.size) (fun i oi hi hoi hne => (tr i oi hi hoi).2.2.2.1 hne) (Nat.le_refl _)
  have hheap : freeB o.op = false → H m = H j := by
    intro hf
    have hno : ∀ e oe, ops[e]? = some oe → actB oe.op = true → e ≠ j → (D e = true ↔ e < j) := by
      intro e oe hoe hae hne
      rcases Nat.lt_or_gt_of_ne hne with hlt | hgt
      · have := dk.acts e j oe o hoe ho hlt (.inl ⟨hae, hf⟩)
        simp [before e oe hoe hlt this, hlt]
      · have := dk.acts j e o oe ho hoe hgt (.inr ⟨hf, hae⟩)
        rw [behind e this]
        simp; omega
    rcases Nat.le_total m j with hmj | hmj
    · have := hHc m (j - m) (by omega) (fun i oi h1 h2 hoi => by
        cases hab : actB oi.op with
        | false => rfl
        | true =>
          have e1 := (hacts i oi hoi hab)
          have e2 := (hno i oi hoi hab (by omega))
          rw [e2] at e1
          omega)
      rw [show m + (j - m) = j by omega] at this
      exact this.symm
    · have := hHc j (m - j) (by omega) (fun i oi h1 h2 hoi => by
        cases hab : actB oi.op with
        | false => rfl
        | true =>
          by_cases hij : i = j
          · subst hij
            have e1 := (hacts i oi hoi hab)
            rw [hD] at e1
            simp at e1
            omega
          · have e1 := (hacts i oi hoi hab)
            have e2 := (hno i oi hoi hab hij)
            rw [e2] at e1
            omega)
      rw [show j + (m - j) = m by omega] at this
      exact this
  -- the step, at the heap as it is
  have hst : ∃ m', m' ≤ ops.size ∧ StepOK P gl N ops o (F j) (H m) (X j) (H m') ∧ (∀ e oe, ops[e]? = some oe → actB oe.op = true → ((if e = j then true else D e) = true ↔ e < m')) := by
    cases hf : freeB o.op with
    | true =>
      refine ⟨m, hm, t3 hf (H m), fun e oe hoe hae => ?_⟩
      by_cases hej : e = j
      · subst hej
        rw [ho] at hoe
        injection hoe with hoe
        subst hoe
        have : actB o.op = false := by cases hop : o.op <;> simp [hop, freeB] at hf <;> rfl
        rw [this] at hae
        cases hae
      · rw [if_neg hej]; exact hacts e oe hoe hae
    | false =>
      have e0 := hheap hf
      cases hab : actB o.op with
      | false =>
        refine ⟨m, hm, ?_, fun e oe hoe hae => ?_⟩
        · have := t2
          rw [t4 hab, ← e0] at this
          exact this
        · by_cases hej : e = j
          · subst hej
            rw [ho] at hoe
            injection hoe with hoe
            subst hoe
            rw [hab] at hae
            cases hae
          · rw [if_neg hej]; exact hacts e oe hoe hae
      | true =>
        refine ⟨j + 1, by omega, ?_, fun e oe hoe hae => ?_⟩
        · rw [e0]; exact t2
        · by_cases hej : e = j
          · subst hej; simp
          · rw [if_neg hej]
            rcases Nat.lt_or_gt_of_ne hej with hlt | hgt
            · have := dk.acts e j oe o hoe ho hlt (.inl ⟨hae, hf⟩)
              simp [before e oe hoe hlt this]; omega
            · have := dk.acts j e o oe ho hoe hgt (.inr ⟨hf, hae⟩)
              rw [behind e this]
              simp; omega
  obtain ⟨m', hm', hstep, hacts'⟩ := hst
  -- the frame behind the step
  have hFD : ∀ t, FD ops X fr (fun i => if i = j then true else D i) ops.size t = setd (FD ops X fr D ops.size) o.dst (X j) t := by
    intro t
    by_cases hd : o.dst = some t
    · simp only [setd, hd, if_true]
      have hlate : ∀ i oi, j + 1 ≤ i → i < j + 1 + (ops.size - (j + 1)) → ops[i]? = some oi → oi.dst = some t → (if i = j then true else D i) = false := by
        intro i oi h1 h2 hoi hdi
        rw [if_neg (by omega)]
        exact behind i (dk.writes j i o oi t ho hoi (by omega) hd (.inr hdi))
      rw [show ops.size = j + 1 + (ops.size - (j + 1)) by omega, FD_beyond (D := fun i => if i = j then true else D i) (j + 1) (ops.size - (j + 1)) hlate]
      simp only [FD, if_true, ho, Option.bind_some, hd, setd]
    · have : setd (FD ops X fr D ops.size) o.dst (X j) t = FD ops X fr D ops.size t := by
        cases hdo : o.dst with
        | none => rfl
        | some d =>
          simp only [setd]
          rw [if_neg]
          intro e
          exact hd (by rw [hdo, e])
      rw [this]
      refine FD_congr ops.size fun i oi _ hoi hdi => ?_
      by_cases hij : i = j
      · subst hij
        rw [ho] at hoi
        injection hoi with hoi
        subst hoi
        exact absurd hdi hd
      · simp [hij]
  have hclosed : ∀ i k, Dep ops i k → (if k = j then true else D k) = true → (if i = j then true else D i) = true := by
    intro i k hd hk
    by_cases hij : i = j
    · simp [hij]
    · rw [if_neg hij]
      by_cases hkj : k = j
      · subst hkj; exact hready i hd
      · rw [if_neg hkj] at hk
        exact p.closed i k hd hk
  obtain ⟨s1, s2⟩ := hstep J a w Q r.heap (fun t ht => by rw [← hlook t ht]; exact r.tmps t)
  have fin : ∀ (v : Value) (J' : List Blk) (w' : World), HRel gl (H m') J' w' → VRel J' (Own (H m') J') w' (X j) v → Evo (H m) J w (H m') J' w' → next (a.put o.dst v) w' := by
    intro v J' w' q1 q2 q3
    refine hn _ _ ⟨hclosed, m', J', hm', hacts', ?_, ev.trans q3⟩
    have := evo_same q3 r q1 t1 q2
    exact ⟨this.size, this.defers, fun t => by rw [hFD t]; exact this.tmps t, this.heap⟩
  unfold wpOp
  rw [ho]
  simp only
  split
  · rename_i hw
    refine .inl (Oper.wp_mono ?_ (s1 hw))
    rintro a' w' ⟨v, J', rfl, q1, q2, q3⟩
    exact fin v J' w' q1 q2 q3
  · rename_i hw
    obtain ⟨e1, q2⟩ := s2 (by simpa using hw)
    refine fin undef J w (by rw [e1]; exact r.heap) (by rw [e1]; exact q2) (by rw [e1]; exact Evo.refl _ _ _)

theorem ready_all (dk : DrawOk ops) {listed : Array Bool} (hsz : listed.size = ops.size) (hr : Region.ready .any ops listed = []) : ∀ i, i < ops.size → listed.getD i false = true := by
  intro i
  induction i using Nat.strongRecOn with
  | _ i ih =>
    intro hi
    cases hl : listed.getD i false with
    | true => rfl
    | false =>
      have ho : ops[i]? = some (ops[i]'hi) := Array.getElem?_eq_getElem hi
      have : i ∈ Region.ready .any ops listed := mem_ready.2 ⟨by
        rw [Array.getD_eq_getD_getElem?] at hl ⊢
        rw [Array.getElem?_eq_getElem (by omega)] at hl ⊢
        simpa using hl, _, ho, fun e he hb => ih e.on (dk.early i _ ho e he hb) (by have := dk.early i _ ho e he hb; omega)⟩
      rw [hr] at this
      cases this

theorem wpAny_of_part {F : Nat → AFrame} {H : Nat → AHeap} {X : Nat → AV} {J0 : List Blk} {w0 : World} (dk : DrawOk ops) (hF0 : F 0 = fr) (hH0 : H 0 = h)
    (tr : ∀ j o, j < ops.size → ops[j]? = some o → (∀ d, o.dst = some d → d < N) ∧ StepOK P gl N ops o (F j) (H j) (X j) (H (j + 1)) ∧ (freeB o.op = true → ∀ h0, StepOK P gl N ops o (F j) h0 (X j) h0) ∧ (actB o.op = false → H (j + 1) = H j) ∧ F (j + 1) = setd (F j) o.dst (X j))
    {Q : Exit → Act → World → Prop} (hQ : ∀ J a w, ARel gl N J (F ops.size) (H ops.size) a w → Evo h J0 w0 (H ops.size) J w → Q .normal a w) :
    ∀ (fuel : Nat) (listed : Array Bool) (a : Act) (w : World), listed.size = ops.size → (fuel = 0 → Region.ready .any ops listed = []) → (listed.toList.count false ≤ fuel) → Part gl N ops fr H X h J0 w0 (fun i => listed.getD i false) a w → wpAny P .any ops Q fuel listed a w := by
  have fin : ∀ (listed : Array Bool) (a : Act) (w : World), listed.size = ops.size → Region.ready .any ops listed = [] → Part gl N ops fr H X h J0 w0 (fun i => listed.getD i false) a w → Q .normal a w := by
    intro listed a w hsz hr p
    have hall := ready_all dk hsz hr
    obtain ⟨m, J, hm, hacts, r, ev⟩ := p.rel
    have hHm : H m = H ops.size := by
      have := heap_const (ops := ops) (n := ops.size) (fun i oi hi hoi hne => (tr i oi hi hoi).2.2.2.1 hne) (Nat.le_refl _) m (ops.size - m) (by omega) (fun i oi h1 h2 hoi => by
        cases hab : actB oi.op with
        | false => rfl
        | true =>
          have := (hacts i oi hoi hab).1 (hall i (by omega))
          omega)
      rw [show m + (ops.size - m) = ops.size by omega] at this
      exact this.symm
    have hFF : ∀ t, FD ops X fr (fun i => listed.getD i false) ops.size t = F ops.size t := by
      intro t
      rw [← FD_trace (ops := ops) (fr := fr) (X := X) hF0 ops.size (fun i oi hi hoi => (tr i oi hi hoi).2.2.2.2) (Nat.le_refl _) ops.size (Nat.le_refl _)]
      exact FD_congr ops.size fun i oi hi _ _ => by rw [hall i hi]; simp [hi]
    refine hQ J a w ⟨r.size, r.defers, fun t => ?_, ?_⟩ ?_
    · rw [← hFF t, ← hHm]; exact r.tmps t
    · rw [← hHm]; exact r.heap
    · rw [← hHm]; exact ev
  intro fuel
  induction fuel with
  | zero =>
    intro listed a w hsz h0 _ p
    exact ⟨h0 rfl, fin listed a w hsz (h0 rfl) p⟩
  | succ fuel ih =>
    intro listed a w hsz _ hc p
    refine ⟨fun hr => fin listed a w hsz hr p, fun i hi => ?_⟩
    obtain ⟨hun, o, ho, hall⟩ := mem_ready.1 hi
    have hil : i < listed.size := by rw [hsz]; exact (Array.getElem?_eq_some_iff.1 ho).1
    have hD : listed.getD i false = false := by
      rw [Array.getD_eq_getD_getElem?, Array.getElem?_eq_getElem hil] at hun ⊢
      simpa using hun
    have hready : ∀ k, Dep ops k i → listed.getD k false = true := by
      intro k hd
      generalize hii : i = i' at hd
      induction hd with
      | base a b ob e hob he hb hon =>
        subst hii
        rw [ho] at hob
        injection hob with hob
        subst hob
        rw [← hon]
        exact hall e he hb
      | trans a b c h1 h2 _ ih2 =>
        exact p.closed a b h1 (ih2 hii)
    refine Part.go dk hF0 hH0 tr p ho hD hready fun a' w' p' => ?_
    have hD' : ∀ k, (listed.setIfInBounds i true).getD k false = if k = i then true else listed.getD k false := by
      intro k
      by_cases hk : k = i
      · subst hk
        rw [Array.getD_eq_getD_getElem?, Array.getElem?_setIfInBounds_self_of_lt hil]
        simp
      · rw [Array.getD_eq_getD_getElem?, Array.getElem?_setIfInBounds_ne (Ne.symm hk), ← Array.getD_eq_getD_getElem?]
        simp [hk]
    have hcount : (listed.setIfInBounds i true).toList.count false + 1 = listed.toList.count false := by
      rw [Array.toList_setIfInBounds]
      have hli : listed.toList[i]? = some false := by
        rw [Array.getD_eq_getD_getElem?] at hD
        cases hx : listed[i]? with
        | none => rw [Array.getElem?_eq_getElem hil] at hx; cases hx
        | some b => rw [hx] at hD; simp at hD; subst hD; simpa using hx
      obtain ⟨hlt, heq⟩ := List.getElem?_eq_some_iff.1 hli
      rw [List.count_set hlt]
      rw [heq]
      have hpos : 0 < listed.toList.count false := List.count_pos_iff.2 (by rw [← heq]; exact List.getElem_mem hlt)
      have e1 : (if (false == false) = true then 1 else 0) = 1 := rfl
      have e2 : (if (true == false) = true then 1 else 0) = 0 := rfl
      rw [e1, e2]
      omega
    refine ih _ a' w' (by simp [hsz]) ?_ (by omega) ?_
    · intro h0
      have hcz : (listed.setIfInBounds i true).toList.count false = 0 := by omega
      cases hr : Region.ready .any ops (listed.setIfInBounds i true) with
      | nil => rfl
      | cons k ks =>
        have hk : k ∈ Region.ready .any ops (listed.setIfInBounds i true) := by rw [hr]; simp
        obtain ⟨hun', ok, hok, _⟩ := mem_ready.1 hk
        have hkl : k < (listed.setIfInBounds i true).size := by simp [hsz]; exact (Array.getElem?_eq_some_iff.1 hok).1
        rw [Array.getD_eq_getD_getElem?, Array.getElem?_eq_getElem hkl] at hun'
        simp only [Option.getD_some] at hun'
        have : false ∈ (listed.setIfInBounds i true).toList := by
          rw [← hun']
          exact Array.getElem_mem_toList hkl
        have := List.count_pos_iff.2 this
        omega
    · have hfun : (fun k => (listed.setIfInBounds i true).getD k false) = (fun k => if k = i then true else listed.getD k false) := funext hD'
      rw [hfun]
      exact p'

/-- A region in whatever order. -/
theorem AWP.region_draw {id : Nat} {Q : APost} (hm : P.follows .mixedOrders = true) (hd : drawOk ops = true) (hs : aops P gl N true ops ops.toList (Q .normal) fr h) : AWP P gl N (.region id ops true) Q fr h := by
  intro J a w r
  have dk := drawOk_spec hd
  obtain ⟨F, H, X, f1, f2, f3, f4⟩ := aops_trace ops.toList 0 fr h (by simp) hs
  simp only [Nat.zero_add, Array.length_toList] at f3 f4
  obtain ⟨hdr, evd⟩ := r.heap.drew
  refine wp_region_any hm ?_
  refine wpAny_of_part (F := F) (H := H) (X := X) (fr := fr) (h := h) (J0 := J) (w0 := w) dk f1 f2 (fun j o hj ho => f4 j o (Nat.zero_le _) hj ho) (Q := lift gl N h J w Q) ?_ ops.size _ a _ (by simp) ?_ (by simp) ?_
  · intro J' a' w' r' ev'
    exact ⟨J', F ops.size, H ops.size, r', ev', f3⟩
  · intro h0
    have : ops = #[] := Array.eq_empty_of_size_eq_zero h0
    subst this
    rfl
  · refine ⟨fun i j _ hj => ?_, 0, J, Nat.zero_le _, fun e o ho hae => ?_, ?_, ?_⟩
    · exfalso
      simp only [Array.getD_eq_getD_getElem?] at hj
      cases hx : (Array.replicate ops.size false)[j]? with
      | none => rw [hx] at hj; simp at hj
      | some b =>
        rw [hx] at hj
        rw [Array.getElem?_replicate] at hx
        split at hx <;> simp_all
    · have he : e < ops.size := (Array.getElem?_eq_some_iff.1 ho).1
      simp [he]
    · have hfd : ∀ n, FD ops X fr (fun i => (Array.replicate ops.size false).getD i false) n = fr := by
        intro n
        induction n with
        | zero => rfl
        | succ n ih =>
          simp only [FD]
          rw [if_neg, ih]
          intro hh
          simp only [Array.getD_eq_getD_getElem?] at hh
          cases hx : (Array.replicate ops.size false)[n]? with
          | none => rw [hx] at hh; simp at hh
          | some b =>
            rw [hx] at hh
            rw [Array.getElem?_replicate] at hx
            split at hx <;> simp_all
      rw [hfd, f2]
      exact ⟨r.size, r.defers, fun t => (r.tmps t).evo evd, hdr⟩
    · rw [f2]; exact evd
end
end Go.Abs
