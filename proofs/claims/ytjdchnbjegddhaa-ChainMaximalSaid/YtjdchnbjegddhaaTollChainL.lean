/-
  What the laws of chains say: selections, partitions, segments; the example.
-/
import Derived.Test.YtjdchnbjegddhaaTollChain
set_option linter.unusedVariables false
set_option linter.unusedSimpArgs false
namespace Go.Toll
open Go Go.Abs

/-! ### Selections -/
def selL (l : List TPass) (I : List Nat) : List TPass := I.filterMap fun j => l[j]?
theorem selL_snoc {l : List TPass} {I : List Nat} {j : Nat} {p : TPass} (h : l[j]? = some p) : selL l (I ++ [j]) = selL l I ++ [p] := by
  rw [selL, List.filterMap_append]; simp [selL, h]
theorem selL_len (l : List TPass) (I : List Nat) : (selL l I).length ≤ I.length := List.length_filterMap_le _ _
theorem sel_ch {v : Net} {l : List TPass} : ∀ {I : List Nat} {last : Option Nat}, ChF (gL v l) l.length last I → chnB v (selL l I) = true
  | [], _, _ => rfl
  | [i], _, h => by
    obtain ⟨a, ha, _⟩ := get_lt h.1
    simp [selL, ha, chnB]
  | i :: j :: r, _, h => by
    obtain ⟨h1, _, h3⟩ := h
    have ih := sel_ch h3
    obtain ⟨h4, h5, _⟩ := h3
    obtain ⟨a, ha, _⟩ := get_lt h1
    obtain ⟨b, hb, _⟩ := get_lt h4
    have hg := (h5 i rfl).2
    rw [gL_at ha hb] at hg
    simp only [selL, List.filterMap_cons, ha, hb] at ih ⊢
    rw [chnB, hg, ih]; rfl
theorem ch_sel {v : Net} {l : List TPass} : ∀ {I : List Nat} {last : Option Nat}, I.Pairwise (· < ·) → (∀ j ∈ I, j < l.length) → chnB v (selL l I) = true → (∀ k i, last = some k → I.head? = some i → k < i ∧ gL v l k i = true) → ChF (gL v l) l.length last I
  | [], _, _, _, _, _ => trivial
  | [i], last, _, h2, _, h4 => ⟨h2 i (by simp), fun k e => h4 k i e rfl, trivial⟩
  | i :: j :: r, last, h1, h2, h3, h4 => by
    obtain ⟨a, ha, _⟩ := get_lt (h2 i (by simp))
    obtain ⟨b, hb, _⟩ := get_lt (h2 j (by simp))
    obtain ⟨p1, p2⟩ := List.pairwise_cons.1 h1
    simp only [selL, List.filterMap_cons, ha, hb] at h3
    rw [chnB, Bool.and_eq_true] at h3
    refine ⟨h2 i (by simp), fun k e => h4 k i e rfl, ch_sel p2 (fun k hk => h2 k (by simp [hk])) (by simpa [selL, hb] using h3.2) fun k i' e e' => ?_⟩
    cases e
    simp at e'
    subst e'
    exact ⟨p1 j (by simp), by rw [gL_at ha hb]; exact h3.1⟩
theorem gL_next {v : Net} {l : List TPass} (h : chnB v l = true) : ∀ i, i + 1 < l.length → gL v l i (i + 1) = true := by
  have key : ∀ i, i ≤ l.length → chnB v (l.drop i) = true := by
    intro i
    induction i with
    | zero => intro _; simpa using h
    | succ i ih =>
      intro hi
      have := ih (by omega)
      obtain ⟨a, ha, _⟩ := get_lt (l := l) (i := i) (by omega)
      rcases Nat.lt_or_ge (i + 1) l.length with q | q
      · obtain ⟨b, hb, _⟩ := get_lt q
        rw [chnB_drop ha hb, Bool.and_eq_true] at this
        exact this.2
      · exact chnB_end (by omega)
  intro i hi
  obtain ⟨a, ha, _⟩ := get_lt (l := l) (i := i) (by omega)
  obtain ⟨b, hb, _⟩ := get_lt hi
  have := key i (by omega)
  rw [chnB_drop ha hb, Bool.and_eq_true] at this
  rw [gL_at ha hb]; exact this.1
theorem lng_sel (v : Net) (l : List TPass) : ∀ I : List Nat, I.Pairwise (· < ·) → (∀ j ∈ I, j < l.length) → chnB v (selL l I) = true → I.length ≤ (lngL (gL v l) l.length).length ∧ (I.length = (lngL (gL v l) l.length).length → lexB I (lngL (gL v l) l.length) = false) := fun I h1 h2 h3 =>
  lngL_spec.2.2.2 I (ch_sel h1 h2 h3 (by simp))
theorem lng_pos' (v : Net) {l : List TPass} (h : l ≠ []) : (lngL (gL v l) l.length) ≠ [] := by
  intro e
  obtain ⟨a, r, rfl⟩ := List.exists_cons_of_ne_nil h
  have := (lng_sel v (a :: r) [0] (by simp) (by simp) (by simp [selL, chnB])).1
  rw [e] at this
  simp at this
/-- 'before' on the lists as they stand. -/
theorem lexB_step {a b : List Nat} {i x y : Nat} (ha : a[i]? = some x) (hb : b[i]? = some y) : lexB (a.drop i) (b.drop i) = if x ≠ y then decide (x < y) else lexB (a.drop (i + 1)) (b.drop (i + 1)) := by
  rw [drop_get ha, drop_get hb, lexB]
theorem lexB_end {a b : List Nat} {i : Nat} (h : a.length ≤ i ∨ b.length ≤ i) : lexB (a.drop i) (b.drop i) = false := by
  rcases h with h | h
  · rw [List.drop_eq_nil_of_le h]; rfl
  · rw [List.drop_eq_nil_of_le h]; cases a.drop i <;> rfl

/-! ### Partitions -/
theorem inout_len {I : List Nat} {l : List TPass} : ∀ i : Nat, i ≤ l.length → (inI I l i).length + (outI I l i).length = i
  | 0, _ => by simp [inI, outI]
  | i + 1, hi => by
    obtain ⟨p, hp, _⟩ := get_lt (l := l) (i := i) (by omega)
    have ih := inout_len (I := I) (l := l) i (by omega)
    rw [inI_succ hp, outI_succ hp]
    by_cases c : i ∈ I
    · rw [if_pos c, if_pos c]; simp; omega
    · rw [if_neg c, if_neg c]; simp; omega
theorem inI_more {I : List Nat} {l : List TPass} {i : Nat} : ∀ d : Nat, i + d ≤ l.length → ∃ s, inI I l (i + d) = inI I l i ++ s
  | 0, _ => ⟨[], by simp⟩
  | d + 1, h => by
    obtain ⟨s, hs⟩ := inI_more (I := I) (l := l) (i := i) d (by omega)
    obtain ⟨p, hp, _⟩ := get_lt (l := l) (i := i + d) (by omega)
    rw [show i + (d + 1) = i + d + 1 by omega, inI_succ hp, hs]
    split
    · exact ⟨_, by rw [List.append_assoc]⟩
    · exact ⟨_, rfl⟩
theorem outI_more {I : List Nat} {l : List TPass} {i : Nat} : ∀ d : Nat, i + d ≤ l.length → ∃ s, outI I l (i + d) = outI I l i ++ s
  | 0, _ => ⟨[], by simp⟩
  | d + 1, h => by
    obtain ⟨s, hs⟩ := outI_more (I := I) (l := l) (i := i) d (by omega)
    obtain ⟨p, hp, _⟩ := get_lt (l := l) (i := i + d) (by omega)
    rw [show i + (d + 1) = i + d + 1 by omega, outI_succ hp, hs]
    split
    · exact ⟨_, rfl⟩
    · exact ⟨_, by rw [List.append_assoc]⟩
theorem inI_get {I : List Nat} {l : List TPass} {i : Nat} {p : TPass} (h : l[i]? = some p) (c : i ∈ I) : (inI I l l.length)[(inI I l i).length]? = some p := by
  have hi := (List.getElem?_eq_some_iff.1 h).1
  obtain ⟨s, hs⟩ := inI_more (I := I) (l := l) (i := i + 1) (l.length - (i + 1)) (by omega)
  rw [show i + 1 + (l.length - (i + 1)) = l.length by omega, inI_succ h, if_pos c] at hs
  rw [hs, List.append_assoc, List.getElem?_append_right (Nat.le_refl _), Nat.sub_self]
  rfl
theorem outI_get {I : List Nat} {l : List TPass} {i : Nat} {p : TPass} (h : l[i]? = some p) (c : i ∉ I) : (outI I l l.length)[(outI I l i).length]? = some ⟨p.id, 9⟩ := by
  have hi := (List.getElem?_eq_some_iff.1 h).1
  obtain ⟨s, hs⟩ := outI_more (I := I) (l := l) (i := i + 1) (l.length - (i + 1)) (by omega)
  rw [show i + 1 + (l.length - (i + 1)) = l.length by omega, outI_succ h, if_neg c] at hs
  rw [hs, List.append_assoc, List.getElem?_append_right (Nat.le_refl _), Nat.sub_self]
  rfl
theorem inI_all {I : List Nat} {l : List TPass} (h : I.Pairwise (· < ·)) (hl : ∀ j ∈ I, j < l.length) : (inI I l l.length).length = I.length := by
  have := inI_split h hl l.length (Nat.le_refl _)
  have e : restI I l.length = [] := by
    rw [restI, List.filter_eq_nil_iff]
    intro j hj
    have := hl j hj
    simp; omega
  rw [e] at this
  simpa using this
theorem outI_none {v : Net} {l : List TPass} (h : chnB v l = true) : outI (lngL (gL v l) l.length) l l.length = [] := by
  rw [lngL_all (gL_next h)]
  unfold outI
  have : (List.range l.length).filter (fun j => !decide (j ∈ List.range l.length)) = [] := by
    rw [List.filter_eq_nil_iff]
    intro j hj
    simp [List.mem_range.1 hj]
  rw [this]; rfl

/-! ### Segments -/
theorem chnB_parts {v : Net} : ∀ {A B : List TPass}, chnB v (A ++ B) = true → chnB v A = true ∧ chnB v B = true
  | [], B, h => ⟨rfl, h⟩
  | [a], [], h => ⟨rfl, rfl⟩
  | [a], b :: B, h => by
    rw [List.singleton_append, chnB, Bool.and_eq_true] at h
    exact ⟨rfl, h.2⟩
  | a :: b :: A, B, h => by
    rw [List.cons_append, List.cons_append, chnB, Bool.and_eq_true] at h
    obtain ⟨q1, q2⟩ := chnB_parts (A := b :: A) (B := B) h.2
    exact ⟨by rw [chnB, h.1, q1]; rfl, q2⟩
theorem seg_feas {v : Net} {l : List TPass} {g : Int} (h : chnB v l = true) {r : List TPass} (hr : r ∈ segsM v l g) : chnB v r = true := by
  have hj := segsI_join (v := v) (l := l) (g := g) l.length (Nat.le_refl _)
  rw [List.take_length] at hj
  obtain ⟨A, B, hAB⟩ := List.append_of_mem hr
  have e : l = A.flatten ++ (r ++ B.flatten) := by
    have hj : (segsM v l g).flatten = l := hj
    rw [← hj, hAB]; simp
  rw [e] at h
  exact (chnB_parts (chnB_parts h).2).1
theorem segAdd_ne {L : List (List TPass)} {b : Bool} {p : TPass} (h : ∀ r ∈ L, r ≠ []) : ∀ r ∈ segAdd L b p, r ≠ [] := by
  unfold segAdd
  intro r hr
  split at hr
  · rcases List.mem_append.1 hr with q | q
    · exact h r q
    · simp at q; subst q; simp
  · rcases List.mem_append.1 hr with q | q
    · exact h r ((List.dropLast_sublist _).mem q)
    · simp at q; subst q; simp
theorem segsI_ne {v : Net} {l : List TPass} {g : Int} : ∀ i : Nat, ∀ r ∈ segsI v l g i, r ≠ []
  | 0 => by simp [segsI]
  | i + 1 => by
    rw [segsI]
    split
    · exact segAdd_ne (segsI_ne i)
    · exact segsI_ne i
theorem pauseM_mono {v : Net} {a b : TPass} {g g' : Int} (h : g ≤ g') (hp : pauseM v a b g' = true) : pauseM v a b g = true := by
  unfold pauseM at hp ⊢
  split
  · rename_i n e
    rw [e] at hp
    simp at hp ⊢
    omega
  · rfl
theorem segB_mono {v : Net} {l : List TPass} {g g' : Int} (h : g ≤ g') {i : Nat} (hp : segB v l g' i = true) : segB v l g i = true := by
  cases i with
  | zero => rfl
  | succ i =>
    unfold segB at hp ⊢
    simp only at hp ⊢
    split
    · rename_i a b ha hb
      rw [ha, hb] at hp
      exact pauseM_mono h hp
    · rfl
theorem segs_mono {v : Net} {l : List TPass} {g g' : Int} (h : g ≤ g') : ∀ i : Nat, i ≤ l.length → (segsI v l g' i).length ≤ (segsI v l g i).length
  | 0, _ => by simp [segsI]
  | i + 1, hi => by
    obtain ⟨p, hp, _⟩ := get_lt (l := l) (i := i) (by omega)
    have ih := segs_mono (v := v) (l := l) h i (by omega)
    rw [segsI_succ hp, segsI_succ hp]
    cases i with
    | zero => simp [segsI, segAdd, segB]
    | succ j =>
      have n1 := segsI_pos (v := v) (l := l) (g := g) (i := j) (by omega)
      have n2 := segsI_pos (v := v) (l := l) (g := g') (i := j) (by omega)
      have l1 := List.length_pos_iff.2 n1
      have l2 := List.length_pos_iff.2 n2
      cases hb : segB v l g' (j + 1) with
      | true => rw [segB_mono h hb]; simp [segAdd]; exact ih
      | false =>
        cases hc : segB v l g (j + 1) with
        | true => simp [segAdd]; omega
        | false => simp [segAdd]; omega
theorem gapM_mono {g g' : Int} (h : g ≤ g') : gapM g ≤ gapM g' := by unfold gapM; split <;> split <;> (try split) <;> omega

/-! ### The example -/
def cT : Topo := ⟨⟨[⟨[97], 4, []⟩, ⟨[98], 4, []⟩, ⟨[99], 4, []⟩], [⟨[97], [98], 100, 200⟩, ⟨[98], [99], 100, 200⟩]⟩, []⟩
def cL : List TPass := [⟨[49], [97], 0, [], [], 0, 0, []⟩, ⟨[50], [98], 100, [], [], 0, 0, []⟩, ⟨[51], [99], 150, [], [], 0, 0, []⟩, ⟨[52], [99], 300, [], [], 0, 0, []⟩]
def cM : List TPass := [⟨[], [97], 0, [], [], 0, 0, []⟩, ⟨[], [98], 150, [], [], 0, 0, []⟩, ⟨[], [99], 400, [], [], 0, 0, []⟩]
theorem cT_err : topoErr cT = 0 := by decide +kernel
theorem cT_valid : validT cT = cT := by rw [validT, if_pos cT_err]
theorem cL_lng : lngL (gL cT.net cL) cL.length = [0, 1, 3] := by decide +kernel
theorem cL_in : (inI [0, 1, 3] cL 4).length = 3 := by decide +kernel
theorem cL_out : outI [0, 1, 3] cL 4 = [⟨[51], 9⟩] := by decide +kernel
theorem cL_chn : chnB cT.net cL = false := by decide +kernel
theorem cM_chn : chnB cT.net cM = true := by decide +kernel
theorem cM_s0 : (segsM cT.net cM (gapM 0)).length = 2 := by decide +kernel
theorem cM_s1 : (segsM cT.net cM (gapM 50)).length = 1 := by decide +kernel
theorem cPass_ok {p : TPass} (h1 : p.sources = []) (h2 : p.id.length ≤ 9) (h3 : p.point.length ≤ 9) (h4 : p.tag.length ≤ 9) (h5 : p.plate.length ≤ 9) : p.Ok :=
  ⟨by rw [TPass.srcs, h1]; rfl, by unfold shortS; omega, by unfold shortS; omega, by unfold shortS; omega, by unfold shortS; omega, by rw [TPass.srcs, h1]; simp, by rw [h1]; exact Nat.zero_le _⟩
theorem cL_ok : ∀ p ∈ cL, p.Ok ∧ p.sources.length ≤ 1000 ∧ isTimeB p.time = true := by
  intro p hp
  simp [cL] at hp
  rcases hp with rfl | rfl | rfl | rfl <;> exact ⟨cPass_ok rfl (by decide) (by decide) (by decide) (by decide), by decide, by decide⟩
theorem cM_ok : ∀ p ∈ cM, p.Ok ∧ p.sources.length ≤ 1000 ∧ isTimeB p.time = true := by
  intro p hp
  simp [cM] at hp
  rcases hp with rfl | rfl | rfl <;> exact ⟨cPass_ok rfl (by decide) (by decide) (by decide) (by decide), by decide, by decide⟩
end Go.Toll
