/-
  The best path between two points: the shortest duration, then the fewest points, then the first in ascending order.
-/
import Derived.Test.YtonpmbppmmaheaaTollGraph
set_option linter.unusedVariables false
set_option linter.unusedSimpArgs false
namespace Go.Toll
open Go Go.Abs

/-- No worse: less time, or as much and fewer points, or as many and no later in the order. -/
def ble (d : Int) (p : List Bytes) (e : Int) (q : List Bytes) : Prop := d < e ∨ (d = e ∧ (p.length < q.length ∨ (p.length = q.length ∧ pcmp p q ≤ 0)))
theorem ble_refl (d : Int) (p : List Bytes) : ble d p d p := .inr ⟨rfl, .inr ⟨rfl, by rw [pcmp_self]; omega⟩⟩
theorem ble_trans {d e f : Int} {p q r : List Bytes} (h1 : ble d p e q) (h2 : ble e q f r) : ble d p f r := by
  unfold ble at *
  rcases h1 with h1 | ⟨rfl, h1⟩
  · rcases h2 with h2 | ⟨rfl, h2⟩
    · exact .inl (by omega)
    · exact .inl h1
  · rcases h2 with h2 | ⟨rfl, h2⟩
    · exact .inl h2
    · refine .inr ⟨rfl, ?_⟩
      rcases h1 with h1 | ⟨h1, h1'⟩
      · rcases h2 with h2 | ⟨h2, _⟩ <;> exact .inl (by omega)
      · rcases h2 with h2 | ⟨h2, h2'⟩
        · exact .inl (by omega)
        · exact .inr ⟨by omega, pcmp_trans h1' h2'⟩
theorem ble_antisymm {d e : Int} {p q : List Bytes} (h1 : ble d p e q) (h2 : ble e q d p) : d = e ∧ p = q := by
  unfold ble at *
  rcases h1 with h1 | ⟨rfl, h1⟩
  · rcases h2 with h2 | ⟨rfl, h2⟩
    · omega
    · omega
  · rcases h2 with h2 | ⟨_, h2⟩
    · omega
    · refine ⟨rfl, ?_⟩
      rcases h1 with h1 | ⟨h1, h1'⟩
      · rcases h2 with h2 | ⟨h2, _⟩ <;> omega
      · rcases h2 with h2 | ⟨h2, h2'⟩
        · omega
        · have := pcmp_anti p q
          exact pcmp_zero.1 (by omega)
theorem ble_app {d e : Int} {p q : List Bytes} (m : Int) (z : Bytes) (h : ble d p e q) : ble (d + m) (p ++ [z]) (e + m) (q ++ [z]) := by
  unfold ble at *
  rcases h with h | ⟨rfl, h⟩
  · exact .inl (by omega)
  · refine .inr ⟨rfl, ?_⟩
    rcases h with h | ⟨h, h'⟩
    · exact .inl (by simp; omega)
    · refine .inr ⟨by simp; omega, ?_⟩
      rw [pcmp_app _ _ h]
      split
      · rw [pcmp_self]; omega
      · exact h'
/-- As the reference asks it; the empty path is none. -/
def betB (d : Int) (p : List Bytes) (e : Int) (q : List Bytes) : Bool :=
  if q = [] ∨ d ≠ e then decide (q = []) || decide (d < e) else if p.length ≠ q.length then decide (p.length < q.length) else decide (pcmp p q < 0)
theorem betB_true {d e : Int} {p q : List Bytes} (h : betB d p e q = true) (hq : q ≠ []) : ble d p e q := by
  unfold betB at h
  split at h
  · rename_i c
    simp [hq] at h
    exact .inl h
  · rename_i c
    have c1 : d = e := by
      rcases Decidable.em (d = e) with h | h
      · exact h
      · exact absurd (.inr h) c
    split at h
    · exact .inr ⟨c1, .inl (by simpa using h)⟩
    · rename_i c2
      exact .inr ⟨c1, .inr ⟨by omega, by have := of_decide_eq_true h; omega⟩⟩
theorem betB_false {d e : Int} {p q : List Bytes} (h : betB d p e q = false) : q ≠ [] ∧ ble e q d p := by
  unfold betB at h
  split at h
  · rename_i c
    rw [Bool.or_eq_false_iff] at h
    have h1 : q ≠ [] := of_decide_eq_false h.1
    have h2 : ¬ d < e := of_decide_eq_false h.2
    refine ⟨h1, ?_⟩
    rcases c with c | c
    · exact absurd c h1
    · exact .inl (by omega)
  · rename_i c
    have c0 : q ≠ [] := fun h => c (.inl h)
    have c1 : d = e := by
      rcases Decidable.em (d = e) with h | h
      · exact h
      · exact absurd (.inr h) c
    refine ⟨c0, ?_⟩
    split at h
    · rename_i c2
      have h2 : ¬ p.length < q.length := of_decide_eq_false h
      exact .inr ⟨c1.symm, .inl (by omega)⟩
    · rename_i c2
      have h2 : ¬ pcmp p q < 0 := of_decide_eq_false h
      have := pcmp_anti p q
      exact .inr ⟨c1.symm, .inr ⟨by omega, by omega⟩⟩

/-! ### The place of a point -/
def posP (l : List Pt) (s : Bytes) : Nat := l.findIdx fun p => decide (p.name = s)
theorem posP_get {l : List Pt} {s : Bytes} (h : hasPt l s = true) : ∃ p, l[posP l s]? = some p ∧ p.name = s := by
  rw [hasPt, List.any_eq_true] at h
  have hlt : posP l s < l.length := List.findIdx_lt_length.2 h
  refine ⟨l[posP l s], List.getElem?_eq_getElem hlt, ?_⟩
  have := List.findIdx_getElem (w := hlt) (p := fun p : Pt => decide (p.name = s))
  exact of_decide_eq_true this
theorem posP_lt {l : List Pt} {s : Bytes} (h : hasPt l s = true) : posP l s < l.length := by
  obtain ⟨p, hp, _⟩ := posP_get h
  exact (List.getElem?_eq_some_iff.1 hp).1
theorem posP_inj {l : List Pt} {s t : Bytes} (hs : hasPt l s = true) (ht : hasPt l t = true) (h : posP l s = posP l t) : s = t := by
  obtain ⟨p, hp, rfl⟩ := posP_get hs
  obtain ⟨q, hq, rfl⟩ := posP_get ht
  rw [h, hq] at hp
  exact (congrArg Pt.name (Option.some.inj hp)).symm
theorem posP_of {l : List Pt} (hn : (l.map (·.name)).Nodup) {i : Nat} {p : Pt} (h : l[i]? = some p) : posP l p.name = i := by
  have hh : hasPt l p.name = true := (hasPt_iff _ _).2 (List.mem_map_of_mem (List.mem_of_getElem? h))
  obtain ⟨q, hq, e⟩ := posP_get hh
  obtain ⟨h1, h1'⟩ := List.getElem?_eq_some_iff.1 hq
  obtain ⟨h2, h2'⟩ := List.getElem?_eq_some_iff.1 h
  have a1 : (l.map (·.name))[posP l p.name]? = some p.name := by rw [List.getElem?_map, hq, Option.map_some, e]
  have a2 : (l.map (·.name))[i]? = some p.name := by rw [List.getElem?_map, h]; rfl
  exact nodup_get hn a1 a2
theorem idxI_pos {l : List Pt} {s : Bytes} (h : hasPt l s = true) : idxI (fun p : Pt => decide (p.name = s)) l = (posP l s : Int) := by
  have key : ∀ (l : List Pt) (i : Nat), hasPt l s = true → idxFrom (fun p : Pt => decide (p.name = s)) i l = ((i + posP l s : Nat) : Int) := by
    intro l
    induction l with
    | nil => intro i h; cases h
    | cons p l ih =>
      intro i h
      rw [idxFrom, posP, List.findIdx_cons]
      by_cases hp : p.name = s
      · simp [hp]
      · rw [hasPt, List.any_cons, show decide (p.name = s) = false by simp [hp], Bool.false_or] at h
        rw [show decide (p.name = s) = false by simp [hp]]
        have := ih (i + 1) h
        simp only [Bool.false_eq_true, if_false, cond_false]
        rw [this, posP]
        omega
  have := key l 0 h
  simpa [idxI] using this

/-! ### The reference's search -/
abbrev St := List (List Bytes × Int)
def stG (v : Net) (st : St) (s : Bytes) : List Bytes × Int := st.getD (posP v.pts s) ([], 0)
def rStep (v : Net) (st : St) (x : Lk) : St :=
  if (stG v st x.src).1 = [] then st
  else if betB ((stG v st x.src).2 + x.min) ((stG v st x.src).1 ++ [x.dst]) (stG v st x.dst).2 (stG v st x.dst).1 then st.set (posP v.pts x.dst) ((stG v st x.src).1 ++ [x.dst], (stG v st x.src).2 + x.min) else st
def rRound (v : Net) (st : St) : St := v.lks.foldl (rStep v) st
def rInit (v : Net) (a : Bytes) : St := (v.pts.map fun _ => (([] : List Bytes), (0 : Int))).set (posP v.pts a) ([a], 0)
def rsh (v : Net) (a : Bytes) : St := iter (rRound v) v.pts.length (rInit v a)
def bestP (v : Net) (a b : Bytes) : Option (List Bytes × Int) :=
  if hasPt v.pts a = true ∧ hasPt v.pts b = true then (if (stG v (rsh v a) b).1 = [] then none else some (stG v (rsh v a) b)) else none

structure IsBest (v : Net) (a b : Bytes) (l : List Bytes) (d : Int) : Prop where
  walk : ∃ s, wk v a l = some s ∧ s.1 = d
  ends : endOf a l = b
  best : ∀ l' s, wk v a l' = some s → endOf a l' = b → ble d (a :: l) s.1 (a :: l')

section
variable {v : Net}
theorem IsBest.uniq {a b : Bytes} {l l' : List Bytes} {d d' : Int} (h : IsBest v a b l d) (h' : IsBest v a b l' d') : l = l' ∧ d = d' := by
  obtain ⟨s, w1, rfl⟩ := h.walk
  obtain ⟨s', w1', rfl⟩ := h'.walk
  obtain ⟨e1, e2⟩ := ble_antisymm (h.best l' s' w1' h'.ends) (h'.best l s w1 h.ends)
  exact ⟨by injection e2, e1⟩
theorem stG_set (st : St) (hl : st.length = v.pts.length) {s t : Bytes} (hs : hasPt v.pts s = true) (ht : hasPt v.pts t = true) (y : List Bytes × Int) : stG v (st.set (posP v.pts s) y) t = if t = s then y else stG v st t := by
  unfold stG
  rw [List.getD_eq_getElem?_getD, List.getD_eq_getElem?_getD, List.getElem?_set]
  by_cases h : t = s
  · subst h
    rw [if_pos rfl, if_pos rfl, if_pos (by rw [hl]; exact posP_lt ht)]; rfl
  · rw [if_neg h, if_neg (fun e => h (posP_inj ht hs e.symm))]
/-- What is known of the state: each path is a walk. -/
structure StOk (v : Net) (a : Bytes) (st : St) : Prop where
  len : st.length = v.pts.length
  walk : ∀ t, hasPt v.pts t = true → (stG v st t).1 ≠ [] → ∃ l s, (stG v st t).1 = a :: l ∧ wk v a l = some s ∧ s.1 = (stG v st t).2 ∧ endOf a l = t
/-- No worse at any point. -/
def stLe (v : Net) (st' st : St) : Prop := ∀ t, hasPt v.pts t = true → (stG v st t).1 ≠ [] → (stG v st' t).1 ≠ [] ∧ ble (stG v st' t).2 (stG v st' t).1 (stG v st t).2 (stG v st t).1
theorem stLe.refl (st : St) : stLe v st st := fun t _ h => ⟨h, ble_refl _ _⟩
theorem stLe.trans {a b c : St} (h1 : stLe v a b) (h2 : stLe v b c) : stLe v a c := fun t ht h => by
  obtain ⟨p1, p2⟩ := h2 t ht h
  obtain ⟨q1, q2⟩ := h1 t ht p1
  exact ⟨q1, ble_trans q2 p2⟩
theorem rStep_ok (ok : NetOk v) {a : Bytes} {st : St} (h : StOk v a st) {x : Lk} (hx : x ∈ v.lks) : StOk v a (rStep v st x) ∧ stLe v (rStep v st x) st ∧
    ((stG v st x.src).1 ≠ [] → (stG v (rStep v st x) x.dst).1 ≠ [] ∧ ble (stG v (rStep v st x) x.dst).2 (stG v (rStep v st x) x.dst).1 ((stG v st x.src).2 + x.min) ((stG v st x.src).1 ++ [x.dst])) := by
  obtain ⟨p1, p2, p3⟩ := ok.ends x hx
  unfold rStep
  split
  · rename_i hz
    exact ⟨h, stLe.refl _, fun h => absurd hz h⟩
  rename_i hz
  obtain ⟨l, s, e1, e2, e3, e4⟩ := h.walk x.src p1 hz
  split
  · rename_i hb
    have hne : (stG v st x.src).1 ++ [x.dst] ≠ [] := by simp
    refine ⟨⟨by rw [List.length_set]; exact h.len, fun t ht hh => ?_⟩, fun t ht hh => ?_, fun _ => ?_⟩
    · rw [stG_set st h.len p2 ht] at hh ⊢
      split
      · rename_i et
        subst et
        refine ⟨l ++ [x.dst], (s.1 + (x.min + 0), s.2 + (x.max + 0)), by rw [e1]; rfl, wk_app.2 ⟨s, (x.min + 0, x.max + 0), e2, ?_, rfl⟩, ?_, endOf_snoc _ _ _⟩
        · rw [e4]; exact wk_cons.2 ⟨x, (0, 0), ok.lkOf hx, rfl, rfl⟩
        · show s.1 + (x.min + 0) = _ + x.min; rw [e3]; omega
      · rename_i et
        rw [if_neg et] at hh
        exact h.walk t ht hh
    · rw [stG_set st h.len p2 ht]
      split
      · rename_i et
        subst et
        exact ⟨hne, betB_true hb hh⟩
      · exact ⟨hh, ble_refl _ _⟩
    · rw [stG_set st h.len p2 p2, if_pos rfl]
      exact ⟨hne, ble_refl _ _⟩
  · rename_i hb
    have hb := betB_false (by simpa using hb)
    exact ⟨h, stLe.refl _, fun _ => hb⟩
theorem rFold_ok (ok : NetOk v) {a : Bytes} : ∀ (ls : List Lk) {st : St}, (∀ x ∈ ls, x ∈ v.lks) → StOk v a st → StOk v a (ls.foldl (rStep v) st) ∧ stLe v (ls.foldl (rStep v) st) st ∧
    ∀ x ∈ ls, ∀ d p, p ≠ [] → (stG v st x.src).1 ≠ [] → ble (stG v st x.src).2 (stG v st x.src).1 d p → (stG v (ls.foldl (rStep v) st) x.dst).1 ≠ [] ∧ ble (stG v (ls.foldl (rStep v) st) x.dst).2 (stG v (ls.foldl (rStep v) st) x.dst).1 (d + x.min) (p ++ [x.dst])
  | [], st, _, h => ⟨h, stLe.refl _, by simp⟩
  | y :: ls, st, hl, h => by
    obtain ⟨s1, s2, s3⟩ := rStep_ok ok h (hl y List.mem_cons_self)
    obtain ⟨i1, i2, i3⟩ := rFold_ok ok ls (fun z hz => hl z (List.mem_cons_of_mem _ hz)) s1
    rw [List.foldl_cons]
    refine ⟨i1, i2.trans s2, fun x hx d p hp hne hb => ?_⟩
    rcases List.mem_cons.1 hx with rfl | hx
    · obtain ⟨q1, q2⟩ := s3 hne
      obtain ⟨r1, r2⟩ := i2 x.dst (ok.ends x (hl x List.mem_cons_self)).2.1 q1
      exact ⟨r1, ble_trans r2 (ble_trans q2 (ble_app _ _ hb))⟩
    · obtain ⟨q1, q2⟩ := s2 x.src (ok.ends x (hl x (List.mem_cons_of_mem _ hx))).1 hne
      exact i3 x hx d p hp q1 (ble_trans q2 hb)
theorem rInit_at (v : Net) {a : Bytes} (ha : hasPt v.pts a = true) {t : Bytes} (ht : hasPt v.pts t = true) : stG v (rInit v a) t = if t = a then ([a], 0) else ([], 0) := by
  rw [rInit, stG_set _ (by simp) ha ht]
  split
  · rfl
  · unfold stG
    rw [List.getD_eq_getElem?_getD, List.getElem?_map]
    cases v.pts[posP v.pts t]? <;> rfl
theorem rIter_ok (ok : NetOk v) {a : Bytes} (ha : hasPt v.pts a = true) : ∀ n, StOk v a (iter (rRound v) n (rInit v a)) ∧
    ∀ l s, l.length ≤ n → wk v a l = some s → (stG v (iter (rRound v) n (rInit v a)) (endOf a l)).1 ≠ [] ∧ ble (stG v (iter (rRound v) n (rInit v a)) (endOf a l)).2 (stG v (iter (rRound v) n (rInit v a)) (endOf a l)).1 s.1 (a :: l)
  | 0 => by
    refine ⟨⟨by simp [iter, rInit], fun t ht hh => ?_⟩, fun l s hl h => ?_⟩
    · rw [iter, rInit_at v ha ht] at hh ⊢
      split
      · rename_i e; exact ⟨[], (0, 0), rfl, rfl, rfl, e.symm⟩
      · rename_i e; rw [if_neg e] at hh; exact absurd rfl hh
    · obtain rfl : l = [] := List.length_eq_zero_iff.1 (by omega)
      obtain rfl := Option.some.inj h
      rw [iter, endOf, rInit_at v ha ha, if_pos rfl]
      exact ⟨by simp, ble_refl _ _⟩
  | n + 1 => by
    obtain ⟨i1, i2⟩ := rIter_ok ok ha n
    obtain ⟨j1, j2, j3⟩ := rFold_ok ok v.lks (fun _ h => h) i1
    refine ⟨j1, fun l s hl h => ?_⟩
    rcases List.eq_nil_or_concat l with rfl | ⟨l', b, rfl⟩
    · obtain ⟨q1, q2⟩ := i2 [] s (by simp) h
      obtain ⟨r1, r2⟩ := j2 _ ha q1
      exact ⟨r1, ble_trans r2 q2⟩
    · rw [List.concat_eq_append] at h hl ⊢
      obtain ⟨t, u, h1, h2, rfl⟩ := wk_app.1 h
      obtain ⟨x, w, h3, h4, rfl⟩ := wk_cons.1 h2
      obtain rfl := Option.some.inj h4
      obtain ⟨m, e1, e2⟩ := lkOf_some h3
      obtain ⟨q1, q2⟩ := i2 l' t (by simp at hl; omega) h1
      rw [← e1] at q1 q2
      have := j3 x m t.1 (a :: l') (by simp) q1 q2
      have e : iter (rRound v) (n + 1) (rInit v a) = v.lks.foldl (rStep v) (iter (rRound v) n (rInit v a)) := rfl
      rw [endOf_snoc, ← e2, e]
      simpa using this
theorem ble_worse {d e f : Int} {p q : List Bytes} (h : d < e) : ble d p e q := .inl h
/-- The reference's search finds the best. -/
theorem rsh_best (ok : NetOk v) {a b : Bytes} (ha : hasPt v.pts a = true) (hb : hasPt v.pts b = true) :
    ((stG v (rsh v a) b).1 = [] → ∀ l s, wk v a l = some s → endOf a l ≠ b) ∧ ((stG v (rsh v a) b).1 ≠ [] → ∃ l, (stG v (rsh v a) b).1 = a :: l ∧ IsBest v a b l (stG v (rsh v a) b).2) := by
  obtain ⟨i1, i2⟩ := rIter_ok ok ha v.pts.length
  have key : ∀ l s, wk v a l = some s → endOf a l = b → (stG v (rsh v a) b).1 ≠ [] ∧ ble (stG v (rsh v a) b).2 (stG v (rsh v a) b).1 s.1 (a :: l) := by
    intro l s h he
    obtain ⟨l', s', q1, q2, q3, _, q5⟩ := simple_le ok _ a l s (Nat.le_refl _) h
    have hl := simple_len ok q1 ha q3
    obtain ⟨r1, r2⟩ := i2 l' s' (by omega) q1
    rw [q2, he] at r1 r2
    refine ⟨r1, ?_⟩
    rcases q5 with rfl | ⟨q5, _⟩
    · rw [q1] at h
      obtain rfl := Option.some.inj h
      exact r2
    · exact ble_trans r2 (.inl q5)
  refine ⟨fun hz l s h he => (key l s h he).1 hz, fun hz => ?_⟩
  obtain ⟨l, s, e1, e2, e3, e4⟩ := i1.walk b hb hz
  refine ⟨l, e1, ⟨s, e2, e3⟩, e4, fun l' s' h he => ?_⟩
  have := (key l' s' h he).2
  rw [show (stG v (rsh v a) b).1 = a :: l from e1] at this
  exact this
theorem bestP_some (ok : NetOk v) {a b : Bytes} {l : List Bytes} {d : Int} (ha : hasPt v.pts a = true) (hb : hasPt v.pts b = true) (h : IsBest v a b l d) : bestP v a b = some (a :: l, d) := by
  obtain ⟨r1, r2⟩ := rsh_best ok ha hb
  unfold bestP
  rw [if_pos ⟨ha, hb⟩]
  split
  · rename_i hz
    obtain ⟨s, w1, _⟩ := h.walk
    exact absurd h.ends (r1 hz l s w1)
  · rename_i hz
    obtain ⟨l', e1, e2⟩ := r2 hz
    obtain ⟨rfl, e3⟩ := e2.uniq h
    rw [← e1, ← e3]
theorem bestP_none (ok : NetOk v) {a b : Bytes} (h : ∀ l s, wk v a l = some s → endOf a l ≠ b) : bestP v a b = none := by
  unfold bestP
  split
  · rename_i hh
    obtain ⟨r1, r2⟩ := rsh_best ok hh.1 hh.2
    split
    · rfl
    · rename_i hz
      obtain ⟨l, e1, e2⟩ := r2 hz
      obtain ⟨s, w1, _⟩ := e2.walk
      exact absurd e2.ends (h l s w1)
  · rfl
theorem bestP_spec (ok : NetOk v) (a b : Bytes) : (∃ l d, bestP v a b = some (a :: l, d) ∧ IsBest v a b l d ∧ hasPt v.pts a = true ∧ hasPt v.pts b = true) ∨ (bestP v a b = none ∧ (hasPt v.pts a = true → hasPt v.pts b = true → ¬ Rch v a b)) := by
  by_cases hh : hasPt v.pts a = true ∧ hasPt v.pts b = true
  · obtain ⟨r1, r2⟩ := rsh_best ok hh.1 hh.2
    by_cases hz : (stG v (rsh v a) b).1 = []
    · right
      refine ⟨by unfold bestP; rw [if_pos hh, if_pos hz], fun _ _ ⟨l, s, h1, h2⟩ => r1 hz l s h1 h2⟩
    · left
      obtain ⟨l, e1, e2⟩ := r2 hz
      refine ⟨l, (stG v (rsh v a) b).2, ?_, e2, hh⟩
      unfold bestP; rw [if_pos hh, if_neg hz, ← e1]
  · right
    refine ⟨by unfold bestP; rw [if_neg hh], fun h1 h2 => absurd ⟨h1, h2⟩ hh⟩
theorem IsBest.simple (ok : NetOk v) {a b : Bytes} {l : List Bytes} {d : Int} (h : IsBest v a b l d) : (a :: l).Nodup := by
  obtain ⟨s, w1, rfl⟩ := h.walk
  obtain ⟨l', s', q1, q2, q3, _, q5⟩ := simple_le ok _ a l s (Nat.le_refl _) w1
  rcases q5 with rfl | ⟨q5, _⟩
  · exact q3
  · rcases h.best l' s' q1 (q2.trans h.ends) with c | ⟨c, _⟩
    · omega
    · omega
/-! ### As the reference goes -/
def rSt (v : Net) (a : Bytes) (r i : Nat) : St := (v.lks.take i).foldl (rStep v) (iter (rRound v) r (rInit v a))
theorem rSt_zero (v : Net) (a : Bytes) : rSt v a 0 0 = rInit v a := rfl
theorem rSt_succ {v : Net} {i : Nat} {x : Lk} (a : Bytes) (r : Nat) (h : v.lks[i]? = some x) : rSt v a r (i + 1) = rStep v (rSt v a r i) x := by
  rw [rSt, List.take_add_one, h, Option.toList_some, List.foldl_append]
  rfl
theorem rSt_all (v : Net) (a : Bytes) (r : Nat) : rSt v a r v.lks.length = rSt v a (r + 1) 0 := by
  rw [rSt, List.take_length]; rfl
theorem rSt_last (v : Net) (a : Bytes) : rSt v a v.pts.length 0 = rsh v a := rfl
theorem rSt_ok (ok : NetOk v) {a : Bytes} (ha : hasPt v.pts a = true) (r i : Nat) : StOk v a (rSt v a r i) :=
  (rFold_ok ok _ (fun x hx => List.mem_of_mem_take hx) (rIter_ok ok ha r).1).1
theorem stG_len {st : St} {n : Nat} (h : ∀ y ∈ st, y.1.length ≤ n) (t : Bytes) : (stG v st t).1.length ≤ n := by
  unfold stG
  rw [List.getD_eq_getElem?_getD]
  cases e : st[posP v.pts t]? with
  | none => simp
  | some y => exact h y (List.mem_of_getElem? e)
theorem rStep_len {st : St} {n : Nat} (h : ∀ y ∈ st, y.1.length ≤ n) (x : Lk) : ∀ y ∈ rStep v st x, y.1.length ≤ n + 1 := by
  intro y hy
  unfold rStep at hy
  split at hy
  · exact Nat.le_succ_of_le (h y hy)
  · split at hy
    · rcases List.mem_or_eq_of_mem_set hy with hy | rfl
      · exact Nat.le_succ_of_le (h y hy)
      · have := stG_len (v := v) h x.src
        simp; omega
    · exact Nat.le_succ_of_le (h y hy)
theorem rFold_len : ∀ (ls : List Lk) {st : St} {n : Nat}, (∀ y ∈ st, y.1.length ≤ n) → ∀ y ∈ ls.foldl (rStep v) st, y.1.length ≤ n + ls.length
  | [], st, n, h => fun y hy => h y hy
  | x :: ls, st, n, h => fun y hy => by
    have := rFold_len ls (rStep_len (v := v) h x) y hy
    simp; omega
theorem rSt_len (hl : v.lks.length ≤ 128) (a : Bytes) : ∀ r i, i ≤ v.lks.length → ∀ y ∈ rSt v a r i, y.1.length ≤ 1 + 128 * r + i
  | 0, i, hi => fun y hy => by
    have h0 : ∀ y ∈ rInit v a, y.1.length ≤ 1 := fun y hy => by
      unfold rInit at hy
      rcases List.mem_or_eq_of_mem_set hy with hy | rfl
      · obtain ⟨_, _, rfl⟩ := List.mem_map.1 hy
        simp
      · simp
    have := rFold_len (v := v) (v.lks.take i) h0 y hy
    simp at this ⊢; omega
  | r + 1, i, hi => fun y hy => by
    have h0 := rSt_len hl a r v.lks.length (Nat.le_refl _)
    rw [rSt_all] at h0
    have := rFold_len (v := v) (v.lks.take i) h0 y hy
    simp at this ⊢; omega
theorem stG_get {st : St} (hl : st.length = v.pts.length) {t : Bytes} (ht : hasPt v.pts t = true) : st[posP v.pts t]? = some (stG v st t) := by
  have h : posP v.pts t < st.length := by rw [hl]; exact posP_lt ht
  unfold stG
  rw [List.getD_eq_getElem?_getD, List.getElem?_eq_getElem h]; rfl
/-- The rows and the numbers of a state. -/
def stP (st : St) : List (List (List AV)) := st.map fun y => y.1.map encT
def stD (st : St) : List (List AV) := st.map fun y => [.int .i64 y.2]
theorem stP_len (st : St) : (stP st).length = st.length := by simp [stP]
theorem stD_len (st : St) : (stD st).length = st.length := by simp [stD]
theorem stP_set (st : St) (k : Nat) (y : List Bytes × Int) : stP (st.set k y) = (stP st).set k (y.1.map encT) := by simp [stP, List.map_set]
theorem stD_set (st : St) (k : Nat) (y : List Bytes × Int) : stD (st.set k y) = (stD st).set k [.int .i64 y.2] := by simp [stD, List.map_set]
theorem stP_get {st : St} {k : Nat} {y : List Bytes × Int} (h : st[k]? = some y) : (stP st)[k]? = some (y.1.map encT) := by rw [stP, List.getElem?_map, h]; rfl
theorem stD_get {st : St} {k : Nat} {y : List Bytes × Int} (h : st[k]? = some y) : (stD st)[k]? = some [.int .i64 y.2] := by rw [stD, List.getElem?_map, h]; rfl
def st0 (n : Nat) : St := List.replicate n ([], 0)
theorem st0_P (n : Nat) : stP (st0 n) = List.replicate n [] := by simp [stP, st0]
theorem st0_D (n : Nat) : stD (st0 n) = List.replicate n [.int .i64 0] := by simp [stD, st0]
theorem rInit_eq (v : Net) (a : Bytes) : rInit v a = (st0 v.pts.length).set (posP v.pts a) ([a], 0) := by
  rw [rInit]
  congr 1
  exact List.eq_replicate_iff.2 ⟨by simp, fun b hb => by simp at hb; exact hb.2.symm⟩
end
end Go.Toll
