/-
  A region whose order is open but for its end: from an operation on, each comes behind all that stand before it. The end is told in the text's order, calls of any kind included.
-/
import Derived.Test.YtillfoacekifbaaDoorAbsLax
set_option linter.unusedVariables false
set_option linter.unusedSimpArgs false
namespace Go.Abs
open Go

/-- The operations before place z. -/
def preOps (ops : Array Oper) (z : Nat) : Array Oper := (ops.toList.take z).toArray
/-- From place z on each comes behind all before it; what stands before z does not look behind. -/
def sufOk (ops : Array Oper) (z : Nat) : Bool :=
  let ms := masks ops.toList []
  (decide (z ≤ ops.size)) &&
  (List.range ops.size).all fun j => match ops[j]? with
    | none => true
    | some oj => (oj.after.toList.all fun e => !Region.binds .any e || e.on < j) && (match oj.guard with | some (k, _) => decide (z ≤ j) || decide (k < z) | none => true) && (decide (j < z) || (List.range j).all fun i => depB ms i j)

structure SufOk (ops : Array Oper) (z : Nat) : Prop where
  le : z ≤ ops.size
  early : ∀ j o, ops[j]? = some o → ∀ e ∈ o.after, Region.binds .any e = true → e.on < j
  guard : ∀ j o k b, ops[j]? = some o → j < z → o.guard = some (k, b) → k < z
  dep : ∀ i j, z ≤ j → j < ops.size → i < j → Dep ops i j

section
variable {P : Program} {ops : Array Oper} {z : Nat}

theorem sufOk_spec (h : sufOk ops z = true) : SufOk ops z := by
  unfold sufOk at h
  simp only [Bool.and_eq_true, decide_eq_true_eq, List.all_eq_true, List.mem_range] at h
  obtain ⟨h0, h1⟩ := h
  have hs : ∀ j o, ops[j]? = some o → j < ops.size := fun j o ho => (Array.getElem?_eq_some_iff.1 ho).1
  refine ⟨h0, fun j o ho e he hb => ?_, fun j o k b ho hj hg => ?_, fun i j hz hj hij => ?_⟩
  · have := h1 j (hs j o ho)
    rw [ho] at this
    simp only [Bool.and_eq_true, List.all_eq_true] at this
    have := this.1.1 e (by simpa using he)
    simpa [hb] using this
  · have := h1 j (hs j o ho)
    rw [ho] at this
    simp only [Bool.and_eq_true, hg] at this
    have := this.1.2
    simp only [Bool.or_eq_true, decide_eq_true_eq] at this
    omega
  · have ho : ops[j]? = some (ops[j]'hj) := Array.getElem?_eq_getElem hj
    have := h1 j hj
    rw [ho] at this
    simp only [Bool.and_eq_true, Bool.or_eq_true, decide_eq_true_eq, List.all_eq_true, List.mem_range] at this
    rcases this.2 with h2 | h2
    · omega
    · exact depB_sound (h2 i hij)

theorem Dep.lt (s : SufOk ops z) {i j : Nat} (h : Dep ops i j) : i < j := by
  induction h with
  | base i j o e ho he hb hon => rw [← hon]; exact s.early j o ho e he hb
  | trans i k j _ _ h1 h2 => omega

/-- What has been carried out is closed. -/
def Closed (ops : Array Oper) (listed : Array Bool) : Prop := ∀ i j, Dep ops i j → listed.getD j false = true → listed.getD i false = true

theorem getD_set {l : Array Bool} {i : Nat} (hi : i < l.size) (k : Nat) : (l.setIfInBounds i true).getD k false = if k = i then true else l.getD k false := by
  by_cases hk : k = i
  · subst hk
    rw [Array.getD_eq_getD_getElem?, Array.getElem?_setIfInBounds_self_of_lt hi]
    simp
  · rw [Array.getD_eq_getD_getElem?, Array.getElem?_setIfInBounds_ne (Ne.symm hk), ← Array.getD_eq_getD_getElem?]
    simp [hk]
theorem count_set_lt {l : Array Bool} {i : Nat} (hi : i < l.size) (h : l.getD i false = false) : (l.setIfInBounds i true).toList.count false + 1 = l.toList.count false := by
  rw [Array.toList_setIfInBounds]
  have hli : l.toList[i]? = some false := by
    rw [Array.getD_eq_getD_getElem?, Array.getElem?_eq_getElem hi] at h
    rw [Array.getElem?_toList, Array.getElem?_eq_getElem hi]
    simpa using h
  obtain ⟨hlt, heq⟩ := List.getElem?_eq_some_iff.1 hli
  rw [List.count_set hlt, heq]
  have hpos : 0 < l.toList.count false := List.count_pos_iff.2 (by rw [← heq]; exact List.getElem_mem hlt)
  have e1 : (if (false == false) = true then 1 else 0) = 1 := rfl
  have e2 : (if (true == false) = true then 1 else 0) = 0 := rfl
  rw [e1, e2]
  omega

theorem ready_dep {listed : Array Bool} (hc : Closed ops listed) {i : Nat} {o : Oper} (ho : ops[i]? = some o) (hall : ∀ e ∈ o.after, Region.binds .any e = true → listed.getD e.on false = true) : ∀ k, Dep ops k i → listed.getD k false = true := by
  intro k hd
  generalize hii : i = i' at hd
  induction hd with
  | base a b ob e hob he hb hon =>
    subst hii
    rw [ho] at hob
    injection hob with hob
    subst hob
    rw [← hon]
    exact hall e he hb
  | trans a b c h1 h2 _ ih2 => exact hc a b h1 (ih2 hii)

theorem ready_iff {listed : Array Bool} (hs : listed.size = ops.size) {i : Nat} : i ∈ Region.ready .any ops listed ↔ listed.getD i false = false ∧ ∃ o, ops[i]? = some o ∧ ∀ e ∈ o.after, Region.binds .any e = true → listed.getD e.on false = true := by
  rw [mem_ready]
  constructor
  · rintro ⟨h1, o, ho, h2⟩
    have hi : i < listed.size := by rw [hs]; exact (Array.getElem?_eq_some_iff.1 ho).1
    refine ⟨?_, o, ho, h2⟩
    rw [Array.getD_eq_getD_getElem?, Array.getElem?_eq_getElem hi] at h1 ⊢
    simpa using h1
  · rintro ⟨h1, o, ho, h2⟩
    have hi : i < listed.size := by rw [hs]; exact (Array.getElem?_eq_some_iff.1 ho).1
    refine ⟨?_, o, ho, h2⟩
    rw [Array.getD_eq_getD_getElem?, Array.getElem?_eq_getElem hi] at h1 ⊢
    simpa using h1

/-- The end, in the text's order. -/
theorem any_suffix (s : SufOk ops z) {Q : Exit → Act → World → Prop} : ∀ (fuel : Nat) (listed : Array Bool) (k : Nat) (a : Act) (w : World), listed.size = ops.size → (∀ i, i < ops.size → (listed.getD i false = true ↔ i < k)) → z ≤ k → k ≤ ops.size → ops.size - k ≤ fuel →
    wpL P ops Q (ops.toList.drop k) a w → wpAny P .any ops Q fuel listed a w := by
  intro fuel
  induction fuel with
  | zero =>
    intro listed k a w hsz hl hz hk hf hw
    have hke : k = ops.size := by omega
    have hnil : Region.ready .any ops listed = [] := by
      cases hr : Region.ready .any ops listed with
      | nil => rfl
      | cons i l =>
        obtain ⟨h1, o, ho, _⟩ := (ready_iff hsz).1 (by rw [hr]; simp : i ∈ Region.ready .any ops listed)
        have hi := (Array.getElem?_eq_some_iff.1 ho).1
        rw [(hl i hi).2 (by omega)] at h1; cases h1
    rw [List.drop_eq_nil_of_le (by simp; omega)] at hw
    exact ⟨hnil, hw⟩
  | succ fuel ih =>
    intro listed k a w hsz hl hz hk hf hw
    refine ⟨fun hr => ?_, fun i hi => ?_⟩
    · by_cases hke : k = ops.size
      · rw [List.drop_eq_nil_of_le (by simp; omega)] at hw; exact hw
      · exfalso
        have hko : ops[k]? = some (ops[k]'(by omega)) := Array.getElem?_eq_getElem (by omega)
        have : k ∈ Region.ready .any ops listed := (ready_iff hsz).2 ⟨by
          cases h : listed.getD k false with
          | false => rfl
          | true => have := (hl k (by omega)).1 h; omega, _, hko, fun e he hb => by
            have := s.early k _ hko e he hb
            exact (hl e.on (by omega)).2 this⟩
        rw [hr] at this; cases this
    · obtain ⟨h1, o, ho, h2⟩ := (ready_iff hsz).1 hi
      have hil := (Array.getElem?_eq_some_iff.1 ho).1
      have hc : Closed ops listed := fun p q hd hq => by
        have hlt := hd.lt s
        by_cases hq2 : q < ops.size
        · exact (hl p (by omega)).2 (by have := (hl q hq2).1 hq; omega)
        · rw [Array.getD_eq_getD_getElem?, Array.getElem?_eq_none (by omega)] at hq; cases hq
      have hki : ¬ i < k := fun h => by rw [(hl i hil).2 h] at h1; cases h1
      have hik : i = k := by
        by_cases h : i = k
        · exact h
        · have := ready_dep hc ho h2 k (s.dep k i (by omega) hil (by omega))
          have := (hl k (by omega)).1 this
          omega
      subst hik
      have hd : ops.toList.drop i = o :: ops.toList.drop (i + 1) := by
        rw [List.drop_eq_getElem_cons (by simpa using hil)]
        congr 1
        have := (Array.getElem?_eq_some_iff.1 ho).2
        simpa using this
      rw [hd] at hw
      have next : ∀ a' w', wpL P ops Q (ops.toList.drop (i + 1)) a' w' → wpAny P .any ops Q fuel (listed.setIfInBounds i true) a' w' := fun a' w' hw' =>
        ih _ (i + 1) a' w' (by simp [hsz]) (fun q hq => by
          rw [getD_set (by omega)]
          by_cases h : q = i
          · simp [h]
          · rw [if_neg h, hl q hq]; omega) (by omega) (by omega) (by omega) hw'
      unfold wpOp
      rw [ho]
      simp only [wpL] at hw ⊢
      split at hw
      · rename_i hwt; rw [if_pos hwt]; exact .inl (Oper.wp_mono next hw)
      · rename_i hwt; rw [if_neg hwt]; exact next _ _ hw

theorem wpL_mono {Q Q' : Exit → Act → World → Prop} (hq : ∀ e a w, Q e a w → Q' e a w) : ∀ (l : List Oper) (a : Act) (w : World), wpL P ops Q l a w → wpL P ops Q' l a w
  | [], a, w, h => hq _ _ _ h
  | o :: l, a, w, h => by
    simp only [wpL] at h ⊢
    split at h
    · rename_i hw
      rw [if_pos hw]
      have h4 := Oper.wp_mono (fun a w => wpL_mono hq l a w) h
      unfold Oper.wp at h4 ⊢
      generalize (execOp a.eval o).run P w = r at h4 ⊢
      cases r with
      | ok n w' =>
        cases n <;> simp only [Oper.upon] at h4 ⊢ <;>
          first
            | exact h4
            | exact Calls.mono h4 (fun e w'' he => by cases e <;> first | exact he | exact hq _ _ _ he | exact he.imp fun _ => Exists.imp fun _ => hq _ _ _)
      | halt x w' => cases x <;> simp only [Oper.upon] at h4 ⊢ <;> first | exact hq _ _ _ h4 | exact h4
    · rename_i hw
      rw [if_neg hw]; exact wpL_mono hq l _ _ h

def preQ (P : Program) (ops : Array Oper) (z : Nat) (Q : Exit → Act → World → Prop) : Exit → Act → World → Prop
  | .normal, a, w => wpL P ops Q (ops.toList.drop z) a w
  | e, a, w => Q e a w

theorem pre_get {i : Nat} (hi : i < z) : (preOps ops z)[i]? = ops[i]? := by
  simp only [preOps, List.getElem?_toArray]
  rw [List.getElem?_take_of_lt hi, Array.getElem?_toList]
theorem pre_size (hz : z ≤ ops.size) : (preOps ops z).size = z := by simp [preOps, hz]

theorem any_split (s : SufOk ops z) {Q : Exit → Act → World → Prop} : ∀ (fuelA : Nat) (listedA : Array Bool) (fuel : Nat) (listed : Array Bool) (a : Act) (w : World), listedA.size = z → listed.size = ops.size → (∀ i, i < z → listed.getD i false = listedA.getD i false) → (∀ i, z ≤ i → listed.getD i false = false) →
    listedA.toList.count false ≤ fuelA → listed.toList.count false ≤ fuel → Closed ops listed → wpAny P .any (preOps ops z) (preQ P ops z Q) fuelA listedA a w → wpAny P .any ops Q fuel listed a w := by
  intro fuelA
  have small : ∀ (listedA : Array Bool) (fuel : Nat) (listed : Array Bool) (a : Act) (w : World), listedA.size = z → listed.size = ops.size → (∀ i, i < z → listed.getD i false = listedA.getD i false) → (∀ i, z ≤ i → listed.getD i false = false) →
      listed.toList.count false ≤ fuel → (∀ i, i < z → listedA.getD i false = true) → preQ P ops z Q .normal a w → wpAny P .any ops Q fuel listed a w := by
    intro listedA fuel listed a w hA hsz hsame hrest hf hall hq
    refine any_suffix s fuel listed z a w hsz (fun i hi => ?_) (Nat.le_refl _) s.le ?_ hq
    · by_cases h : i < z
      · rw [hsame i h, hall i h]; simp [h]
      · rw [hrest i (by omega)]; simp [h]
    · have : (listed.toList.drop z).count false = ops.size - z := by
        rw [List.count_eq_length.2]
        · simp [hsz]
        · intro b hb
          obtain ⟨i, hi⟩ := List.getElem?_of_mem hb
          rw [List.getElem?_drop, Array.getElem?_toList] at hi
          have := hrest (z + i) (by omega)
          rw [Array.getD_eq_getD_getElem?, hi] at this
          simpa using this.symm
      have h2 : listed.toList.count false = (listed.toList.take z).count false + (listed.toList.drop z).count false := by rw [← List.count_append, List.take_append_drop]
      omega
  have minimal : ∀ (listed : Array Bool), listed.size = ops.size → (∃ i, i < z ∧ listed.getD i false = false) → ∃ i, i < z ∧ i ∈ Region.ready .any ops listed := by
    rintro listed hsz ⟨i, hi, hl⟩
    induction i using Nat.strongRecOn with
    | _ i ih =>
      have hile := s.le
      have ho : ops[i]? = some (ops[i]'(by omega)) := Array.getElem?_eq_getElem (by omega)
      by_cases h : ∃ e ∈ (ops[i]'(by omega)).after, Region.binds .any e = true ∧ listed.getD e.on false = false
      · obtain ⟨e, he, hb, hf⟩ := h
        have := s.early i _ ho e he hb
        exact ih e.on this (by omega) hf
      · refine ⟨i, hi, (ready_iff hsz).2 ⟨hl, _, ho, fun e he hb => ?_⟩⟩
        cases hx : listed.getD e.on false with
        | true => rfl
        | false => exact absurd ⟨e, he, hb, hx⟩ h
  have toA : ∀ (listedA listed : Array Bool), listedA.size = z → listed.size = ops.size → (∀ i, i < z → listed.getD i false = listedA.getD i false) → ∀ i, i < z → (i ∈ Region.ready .any ops listed ↔ i ∈ Region.ready .any (preOps ops z) listedA) := by
    intro listedA listed hA hsz hsame i hi
    rw [ready_iff hsz, ready_iff (by rw [hA, pre_size s.le]), hsame i hi, pre_get hi]
    constructor
    · rintro ⟨h1, o, ho, h2⟩
      exact ⟨h1, o, ho, fun e he hb => by rw [← hsame e.on (by have := s.early i o ho e he hb; omega)]; exact h2 e he hb⟩
    · rintro ⟨h1, o, ho, h2⟩
      exact ⟨h1, o, ho, fun e he hb => by rw [hsame e.on (by have := s.early i o ho e he hb; omega)]; exact h2 e he hb⟩
  induction fuelA with
  | zero =>
    intro listedA fuel listed a w hA hsz hsame hrest hfA hf hc hw
    refine small listedA fuel listed a w hA hsz hsame hrest hf (fun i hi => ?_) hw.2
    cases h : listedA.getD i false with
    | true => rfl
    | false =>
      have : false ∈ listedA.toList := by
        rw [Array.getD_eq_getD_getElem?, Array.getElem?_eq_getElem (by omega)] at h
        simp only [Option.getD_some] at h
        rw [← h]; exact Array.getElem_mem_toList (by omega)
      have := List.count_pos_iff.2 this
      omega
  | succ fuelA ih =>
    intro listedA fuel listed a w hA hsz hsame hrest hfA hf hc hw
    obtain ⟨w1, w2⟩ := hw
    by_cases hall : ∀ i, i < z → listedA.getD i false = true
    · refine small listedA fuel listed a w hA hsz hsame hrest hf hall (w1 ?_)
      cases hr : Region.ready .any (preOps ops z) listedA with
      | nil => rfl
      | cons i l =>
        obtain ⟨h1, o, ho, _⟩ := (ready_iff (by rw [hA, pre_size s.le])).1 (by rw [hr]; simp : i ∈ Region.ready .any (preOps ops z) listedA)
        have hi := (Array.getElem?_eq_some_iff.1 ho).1
        rw [pre_size s.le] at hi
        rw [hall i hi] at h1; cases h1
    · have hex : ∃ i, i < z ∧ listed.getD i false = false := by
        apply Classical.byContradiction
        intro hn
        refine hall fun i hi => ?_
        cases hx : listedA.getD i false with
        | true => rfl
        | false => exact absurd ⟨i, hi, by rw [hsame i hi]; exact hx⟩ hn
      obtain ⟨i0, hi0, hr0⟩ := minimal listed hsz hex
      have hfpos : 0 < fuel := by
        obtain ⟨h1, o, ho, _⟩ := (ready_iff hsz).1 hr0
        have hi := (Array.getElem?_eq_some_iff.1 ho).1
        have := count_set_lt (l := listed) (by omega) h1
        omega
      obtain ⟨fuel, rfl⟩ : ∃ f, fuel = f + 1 := ⟨fuel - 1, by omega⟩
      refine ⟨fun hr => absurd (hr ▸ hr0) (by simp), fun i hi => ?_⟩
      obtain ⟨h1, o, ho, h2⟩ := (ready_iff hsz).1 hi
      have hil := (Array.getElem?_eq_some_iff.1 ho).1
      have hdep := ready_dep hc ho h2
      have hiz : i < z := by
        apply Classical.byContradiction
        intro hn
        obtain ⟨k, hk, hkf⟩ := hex
        rw [hdep k (s.dep k i (by omega) hil (by omega))] at hkf; cases hkf
      have hA1 : listedA.getD i false = false := by rw [← hsame i hiz]; exact h1
      have h3 := w2 i ((toA listedA listed hA hsz hsame i hiz).1 hi)
      have next : ∀ a' w', wpAny P .any (preOps ops z) (preQ P ops z Q) fuelA (listedA.setIfInBounds i true) a' w' → wpAny P .any ops Q fuel (listed.setIfInBounds i true) a' w' := fun a' w' hw' => by
        have c1 := count_set_lt (l := listedA) (by omega) hA1
        have c2 := count_set_lt (l := listed) (by omega) h1
        refine ih _ fuel _ a' w' (by simp [hA]) (by simp [hsz]) (fun q hq => ?_) (fun q hq => ?_) (by omega) (by omega) ?_ hw'
        · rw [getD_set (by omega), getD_set (by omega), hsame q hq]
        · rw [getD_set (by omega), if_neg (by omega)]; exact hrest q hq
        · intro p q hd hq
          rw [getD_set (by omega)] at hq ⊢
          by_cases hp : p = i
          · simp [hp]
          · rw [if_neg hp]
            by_cases hqi : q = i
            · subst hqi; exact hdep p hd
            · rw [if_neg hqi] at hq; exact hc p q hd hq
      unfold wpOp at h3 ⊢
      rw [pre_get hiz, ho] at h3
      rw [ho]
      simp only at h3 ⊢
      have hwant : Region.wanted o (yielded (preOps ops z) a.tmps) = Region.wanted o (yielded ops a.tmps) := by
        unfold Region.wanted
        cases hg : o.guard with
        | none => rfl
        | some kb =>
          obtain ⟨k, b⟩ := kb
          have hk := s.guard i o k b ho hiz hg
          simp only [yielded, pre_get hk]
      rw [hwant] at h3
      split at h3
      · rename_i hwt
        rw [if_pos hwt]
        rcases h3 with h3 | h3
        · refine .inl ?_
          have h4 := Oper.wp_mono next h3
          unfold Oper.wp at h4 ⊢
          generalize (execOp a.eval o).run P w = r at h4 ⊢
          cases r with
          | ok n w' =>
            cases n <;> simp only [Oper.upon] at h4 ⊢ <;>
              first
                | exact h4
                | exact Calls.mono h4 (fun e w'' he => by cases e <;> first | exact he | (simpa [LetsOut, preQ] using he))
          | halt x w' => cases x <;> simp only [Oper.upon] at h4 ⊢ <;> first | exact h4 | simpa [preQ] using h4
        · refine .inr ⟨h3.1, ?_⟩
          simpa [LetsOut, preQ] using h3.2
      · rename_i hwt
        rw [if_neg hwt]
        exact next _ _ h3
end

section
variable {P : Program} {gl : Globs} {N : Nat} {Q : APost} {fr : AFrame} {h : AHeap} {ops : Array Oper}

/-- A region in whatever order, but for its end. -/
theorem AWP.region_last {id : Nat} (z : Nat) (L : List (Nat × Nat)) (hm : P.follows .mixedOrders = true) (hz : sufOk ops z = true) (hd : laxOk (preOps ops z) L = true)
    (hs : aopsT P gl N (preOps ops z) (preOps ops z).toList [] [] (fun frs hs fr h => laxAll P gl N (preOps ops z) L frs hs ∧ aops P gl N false ops (ops.toList.drop z) (Q .normal) fr h) fr h) : AWP P gl N (.region id ops true) Q fr h := by
  intro J a w r
  have sz := sufOk_spec hz
  have hps := pre_size sz.le
  simp only [laxOk, Bool.and_eq_true, beq_iff_eq] at hd
  have dk := drawOk2_spec hd.1
  obtain ⟨F, H, X, f1, f2, f30, f4⟩ := aopsT_trace (preOps ops z).toList 0 fr h [] [] (by simp) hs
  simp only [Nat.zero_add, Array.length_toList, List.nil_append] at f30 f4
  obtain ⟨hlax, f3⟩ := f30
  have lax := lax_of_all hd.2 f4 hlax
  obtain ⟨hdr, evd⟩ := r.heap.drew
  refine wp_region_any hm ?_
  have key : wpAny P .any (preOps ops z) (preQ P ops z (lift gl N h J w Q)) (preOps ops z).size (Array.replicate (preOps ops z).size false) a { w with drawn := w.drawn + 1 } := by
    refine wpAny_of_part2 (F := F) (H := H) (X := X) (fr := fr) (h := h) (J0 := J) (w0 := w) dk f1 f2 (fun j o hj ho => f4 j o (Nat.zero_le _) hj ho) lax (Q := preQ P ops z (lift gl N h J w Q)) ?_ (preOps ops z).size _ a _ (by simp) ?_ (by simp) ?_
    · intro J' a' w' r' ev'
      have h1 := aops_wpL (ops := ops) (ops.toList.drop z) (F (preOps ops z).size) (H (preOps ops z).size) f3 J' a' w' r'
      refine wpL_mono (fun e a2 w2 hq => ?_) _ _ _ h1
      obtain ⟨J2, fr2, h2, q1, q2, q3⟩ := hq
      refine ⟨J2, fr2, h2, q1, ev'.trans q2, ?_⟩
      cases e with
      | normal => exact q3
      | _ => exact q3.elim
    · intro h0
      have : preOps ops z = #[] := Array.eq_empty_of_size_eq_zero h0
      rw [this]
      rfl
    · refine ⟨fun i j _ hj => ?_, 0, J, Nat.zero_le _, fun e o ho hae => ?_, ?_, ?_⟩
      · exfalso
        simp only [Array.getD_eq_getD_getElem?] at hj
        cases hx : (Array.replicate (preOps ops z).size false)[j]? with
        | none => rw [hx] at hj; simp at hj
        | some b =>
          rw [hx] at hj
          rw [Array.getElem?_replicate] at hx
          split at hx <;> simp_all
      · have he : e < (preOps ops z).size := (Array.getElem?_eq_some_iff.1 ho).1
        simp [he]
      · have hfd : ∀ n, FD (preOps ops z) X fr (fun i => (Array.replicate (preOps ops z).size false).getD i false) n = fr := by
          intro n
          induction n with
          | zero => rfl
          | succ n ih =>
            simp only [FD]
            rw [if_neg, ih]
            intro hh
            simp only [Array.getD_eq_getD_getElem?] at hh
            cases hx : (Array.replicate (preOps ops z).size false)[n]? with
            | none => rw [hx] at hh; simp at hh
            | some b =>
              rw [hx] at hh
              rw [Array.getElem?_replicate] at hx
              split at hx <;> simp_all
        rw [hfd, f2]
        exact ⟨r.size, r.defers, fun t => (r.tmps t).evo evd, hdr⟩
      · rw [f2]; exact evd
  refine any_split sz (preOps ops z).size (Array.replicate (preOps ops z).size false) ops.size (Array.replicate ops.size false) a _ (by simp [hps]) (by simp) (fun i hi => ?_) (fun i hi => ?_) (by simp) (by simp) (fun i j _ hj => ?_) key
  · rw [Array.getD_eq_getD_getElem?, Array.getD_eq_getD_getElem?, Array.getElem?_replicate, Array.getElem?_replicate]
    split <;> split <;> rfl
  · rw [Array.getD_eq_getD_getElem?, Array.getElem?_replicate]
    split <;> rfl
  · rw [Array.getD_eq_getD_getElem?, Array.getElem?_replicate] at hj
    split at hj <;> simp at hj
end

/-! ### Code with such regions: 'lx' tells, region by region, from where on the text's order holds, and what is looked at beside it before -/
def awpM (P : Program) (gl : Globs) (N : Nat) (lx : Nat → Option (Nat × List (Nat × Nat))) : Code → APost → AFrame → AHeap → Prop
  | .skip, Q, fr, h => Q .normal fr h
  | .label _, Q, fr, h => Q .normal fr h
  | .seq a b, Q, fr, h => awpM P gl N lx a (AThen (awpM P gl N lx b Q) Q) fr h
  | .cond c x y, Q, fr, h => (ev gl fr c).gd = true ∧ isB (ev gl fr c).core (acond (awpM P gl N lx x Q) (awpM P gl N lx y Q) fr h)
  | .block id c, Q, fr, h => awpM P gl N lx c (ABlock id Q) fr h
  | .exit id, Q, fr, h => Q (.exit id) fr h
  | .ret, Q, fr, h => Q .ret fr h
  | .region _ ops false, Q, fr, h => aops P gl N false ops ops.toList (Q .normal) fr h
  | .region id ops true, Q, fr, h => match lx id with
    | none => drawOk ops = true ∧ aops P gl N true ops ops.toList (Q .normal) fr h
    | some (z, L) => (sufOk ops z = true ∧ laxOk (preOps ops z) L = true) ∧ aopsT P gl N (preOps ops z) (preOps ops z).toList [] [] (fun frs hs fr h => laxAll P gl N (preOps ops z) L frs hs ∧ aops P gl N false ops (ops.toList.drop z) (Q .normal) fr h) fr h
  | .loop c, Q, fr, h => AWP P gl N (.loop c) Q fr h
  | _, _, _, _ => False

section
variable {P : Program} {gl : Globs} {N : Nat} {fr : AFrame} {h : AHeap} {lx : Nat → Option (Nat × List (Nat × Nat))}

theorem AWP.of_awpM (lx : Nat → Option (Nat × List (Nat × Nat))) (hm : P.follows .mixedOrders = true) : ∀ (c : Code) (Q : APost) (fr : AFrame) (h : AHeap), awpM P gl N lx c Q fr h → AWP P gl N c Q fr h
  | .skip, Q, fr, h, hs => AWP.skip hs
  | .label _, Q, fr, h, hs => AWP.label hs
  | .seq a b, Q, fr, h, hs => by
    refine AWP.seq ((AWP.of_awpM lx hm a _ fr h hs).mono ?_)
    intro e fr' h' q
    cases e with
    | normal => exact AWP.of_awpM lx hm b Q fr' h' q
    | _ => exact q
  | .cond c x y, Q, fr, h, hs => by
    obtain ⟨hg, hs⟩ := hs
    unfold isB at hs
    split at hs
    · rename_i t ht
      intro J a w r
      have re := (ev_sound (a := a) r.heap (fun t' _ => r.tmps t') : VRel J (Own h J) w (ev gl fr c) (a.eval c)).core hg
      rw [ht] at re
      have hc : a.eval c = .bool t := by
        generalize a.eval c = v at re
        cases re
        rfl
      refine wp_cond hc ?_
      cases t with
      | true => exact AWP.of_awpM lx hm x Q fr h (hs.1 rfl) J a w r
      | false => exact AWP.of_awpM lx hm y Q fr h (hs.2 rfl) J a w r
    · exact hs.elim
  | .block id c, Q, fr, h, hs => AWP.block (AWP.of_awpM lx hm c _ fr h hs)
  | .exit id, Q, fr, h, hs => AWP.exit hs
  | .ret, Q, fr, h, hs => AWP.ret hs
  | .region _ ops false, Q, fr, h, hs => AWP.region hs
  | .region id ops true, Q, fr, h, hs => by
    simp only [awpM] at hs
    cases hl : lx id with
    | none => rw [hl] at hs; exact AWP.region_draw hm hs.1 hs.2
    | some zL => rw [hl] at hs; exact AWP.region_last zL.1 zL.2 hm hs.1.1 hs.1.2 hs.2
  | .loop c, Q, fr, h, hs => hs
  | .rangeFunc .., _, _, _, hs => hs.elim
  | .scope _, _, _, _, hs => hs.elim
  | .goto _, _, _, _, hs => hs.elim
  | .refuse _, _, _, _, hs => hs.elim

theorem ACalls.bodyM {f : FuncId} (lx : Nat → Option (Nat × List (Nat × Nat))) (fn : Func) (c : Code) {args : List AV} {R : AV → AHeap → Prop} (hm : P.follows .mixedOrders = true) (hf : P.funcs[f]? = some fn) (hb : fn.body = some c) (hname : (fn.name == "runtime.NumGoroutine") = false)
    (hn : args.length ≤ fn.ntmps) (hc : awpM P gl fn.ntmps lx c (rleaves P fn R) (ainit args) h) : ACalls P gl f args h R :=
  ACalls.of_body' hf hb hname hn (AWP.of_awpM lx hm c _ _ _ hc)
theorem AWP.upM {c : Code} {Q : APost} (lx : Nat → Option (Nat × List (Nat × Nat))) (hm : P.follows .mixedOrders = true) (n : Nat) (I : Nat → AFrame → AHeap → Prop) (k : Nat) (hk : k ≤ n) (h0 : I k fr h)
    (round : ∀ k fr h, k ≤ n → I k fr h → awpM P gl N lx c (AThen (fun fr' h' => ∃ k', k < k' ∧ k' ≤ n ∧ I k' fr' h') Q) fr h) : AWP P gl N (.loop c) Q fr h :=
  AWP.loop_up n I k hk h0 fun k fr h h1 h2 => AWP.of_awpM lx hm c _ _ _ (round k fr h h1 h2)
theorem AWP.downM {c : Code} {Q : APost} (lx : Nat → Option (Nat × List (Nat × Nat))) (hm : P.follows .mixedOrders = true) (I : Nat → AFrame → AHeap → Prop) (k : Nat) (h0 : I k fr h)
    (round : ∀ k fr h, I k fr h → awpM P gl N lx c (AThen (fun fr' h' => ∃ k', k' < k ∧ I k' fr' h') Q) fr h) : AWP P gl N (.loop c) Q fr h :=
  AWP.loop I k h0 fun k fr h h2 => AWP.of_awpM lx hm c _ _ _ (round k fr h h2)
end
section
variable {P : Program} {gl : Globs} {N : Nat} {Q : APost} {fr : AFrame} {h : AHeap} {lx : Nat → Option (Nat × List (Nat × Nat))} {ops : Array Oper}
@[simp] theorem awp_skipM : awpM P gl N lx .skip Q fr h ↔ Q .normal fr h := Iff.rfl
@[simp] theorem awp_labelM (l : Nat) : awpM P gl N lx (.label l) Q fr h ↔ Q .normal fr h := Iff.rfl
@[simp] theorem awp_seqM (a b : Code) : awpM P gl N lx (.seq a b) Q fr h ↔ awpM P gl N lx a (AThen (awpM P gl N lx b Q) Q) fr h := Iff.rfl
@[simp] theorem awp_condM (c : Operand) (x y : Code) : awpM P gl N lx (.cond c x y) Q fr h ↔ (ev gl fr c).gd = true ∧ isB (ev gl fr c).core (acond (awpM P gl N lx x Q) (awpM P gl N lx y Q) fr h) := Iff.rfl
@[simp] theorem awp_blockM (id : Nat) (c : Code) : awpM P gl N lx (.block id c) Q fr h ↔ awpM P gl N lx c (ABlock id Q) fr h := Iff.rfl
@[simp] theorem awp_exitM (id : Nat) : awpM P gl N lx (.exit id) Q fr h ↔ Q (.exit id) fr h := Iff.rfl
@[simp] theorem awp_retM : awpM P gl N lx .ret Q fr h ↔ Q .ret fr h := Iff.rfl
@[simp] theorem awp_regionM (id : Nat) : awpM P gl N lx (.region id ops false) Q fr h ↔ aops P gl N false ops ops.toList (Q .normal) fr h := Iff.rfl
@[simp] theorem awp_loopM (c : Code) : awpM P gl N lx (.loop c) Q fr h ↔ AWP P gl N (.loop c) Q fr h := Iff.rfl
@[simp] theorem awp_drawM (id : Nat) (ops : Array Oper) : awpM P gl N lx (.region id ops true) Q fr h ↔ (match lx id with
    | none => drawOk ops = true ∧ aops P gl N true ops ops.toList (Q .normal) fr h
    | some (z, L) => (sufOk ops z = true ∧ laxOk (preOps ops z) L = true) ∧ aopsT P gl N (preOps ops z) (preOps ops z).toList [] [] (fun frs hs fr h => laxAll P gl N (preOps ops z) L frs hs ∧ aops P gl N false ops (ops.toList.drop z) (Q .normal) fr h) fr h) := Iff.rfl
end
end Go.Abs
