/-
  How the abstract heap may be turned: a new block, a block's content, a block that is given up, a block that goes on under a new name.
-/
import Derived.Test.YtillfoacekifbaaDoorAbsCore
import Derived.Laws.Rows
set_option linter.unusedVariables false
set_option linter.unusedSimpArgs false
namespace Go.Abs
open Go

section
variable {gl : Globs} {h h' : AHeap} {J J' : List Blk} {w w' : World}

theorem ORel.evo {k : Blk} {o : AObj} (ev : Evo h J w h' J' w') (hw : w'.heap[k.r]? = w.heap[k.r]?) (ho : ORel J (Own h J) w k o) : ORel J' (Own h' J') w' k o := by
  cases o with
  | dead => trivial
  | cells n es =>
    obtain ⟨h0, h1, h2, h3, vs, T, h4, h5, h6⟩ := ho
    refine ⟨h0, h1, h2, h3, vs, T, hw.trans h4, h5, fun i e c x hi hx => ?_⟩
    obtain ⟨v, p1, p2, p3⟩ := h6 i e c x hi hx
    exact ⟨v, p1, p2, p3.evo ev⟩
  | map kvs =>
    obtain ⟨es, clock, h1, h2, h3, h4⟩ := ho
    exact ⟨es, clock, hw.trans h1, h2, fun i e p hi hp => ⟨(h3 i e p hi hp).1.evo ev, (h3 i e p hi hp).2.evo ev⟩, h4⟩
  | raw o => exact hw.trans ho

theorem HRel.step (hh : HRel gl h J w) (ev : Evo h J w h' J' w') (len : J'.length = h'.length)
    (inj : ∀ (b b' : Nat) (k k' : Blk) (o o' : AObj), J'[b]? = some k → J'[b']? = some k' → h'[b]? = some o → h'[b']? = some o' → o ≠ .dead → o' ≠ .dead → k.r = k'.r → b = b')
    (lt : ∀ (b : Nat) (k : Blk), J'[b]? = some k → k.r < w'.heap.size)
    (objs : ∀ (b : Nat) (k : Blk) (o : AObj), J'[b]? = some k → h'[b]? = some o → o ≠ .dead → (J[b]? = some k ∧ h[b]? = some o ∧ w'.heap[k.r]? = w.heap[k.r]?) ∨ ORel J' (Own h' J') w' k o) : HRel gl h' J' w' := by
  refine ⟨len, inj, lt, fun b k o hb ho => ?_, fun g cs hg => (hh.glob g cs hg).evo ev⟩
  by_cases hd : o = .dead
  · subst hd; trivial
  · rcases objs b k o hb ho hd with ⟨h1, h2, h3⟩ | h1
    · exact (hh.obj b k o h1 h2).evo ev h3
    · exact h1

/-- A draw. -/
theorem HRel.drew (hh : HRel gl h J w) : HRel gl h J w.drew ∧ Evo h J w h J w.drew := by
  have ev : Evo h J w h J w.drew := ⟨⟨[], by simp⟩, Nat.le_refl _, fun _ _ n => ⟨rfl, n⟩, rfl, rfl, rfl⟩
  exact ⟨hh.step ev hh.len hh.inj hh.lt (fun b k o h1 h2 _ => .inl ⟨h1, h2, rfl⟩), ev⟩

theorem own_append {k : Blk} {o : AObj} (hl : J.length = h.length) {r : Nat} (hr : Own (h ++ [o]) (J ++ [k]) r) : Own h J r ∨ (o ≠ .dead ∧ k.r = r) := by
  obtain ⟨b, k', o', h1, h2, h3, h4⟩ := hr
  rcases Nat.lt_or_ge b J.length with hb | hb
  · rw [List.getElem?_append_left hb] at h1
    rw [List.getElem?_append_left (by omega)] at h2
    exact .inl ⟨b, k', o', h1, h2, h3, h4⟩
  · rw [List.getElem?_append_right hb] at h1
    rw [List.getElem?_append_right (by omega), ← hl] at h2
    rcases Nat.eq_zero_or_pos (b - J.length) with h0 | h0
    · rw [h0] at h1 h2
      simp at h1 h2
      subst h1; subst h2
      exact .inr ⟨h3, h4⟩
    · rw [List.getElem?_eq_none (by simp; omega)] at h1
      cases h1

/-- A new block. -/
theorem HRel.alloc (hh : HRel gl h J w) (ob : Obj) (k : Blk) (o : AObj) (hk : k.r = w.heap.size)
    (ho : ∀ J' O', (∀ x v, VRel J (Own h J) w x v → VRel J' O' (w.alloc ob) x v) → ORel J' O' (w.alloc ob) k o) :
    HRel gl (h ++ [o]) (J ++ [k]) (w.alloc ob) ∧ Evo h J w (h ++ [o]) (J ++ [k]) (w.alloc ob) := by
  have hold : ∀ r, r < w.heap.size → (w.alloc ob).heap[r]? = w.heap[r]? := fun r hr => by
    show (w.heap.push ob)[r]? = _
    rw [Array.getElem?_push, if_neg (by omega)]
  have ev : Evo h J w (h ++ [o]) (J ++ [k]) (w.alloc ob) := by
    refine ⟨⟨[k], rfl⟩, by simp, fun r hr hn => ⟨hold r hr, fun hO => ?_⟩, rfl, rfl, rfl⟩
    rcases own_append hh.len hO with h1 | ⟨_, h1⟩
    · exact hn h1
    · omega
  refine ⟨hh.step ev (by simp [hh.len]) ?_ ?_ ?_, ev⟩
  · intro b b' k1 k2 o1 o2 h1 h2 h3 h4 h5 h6 h7
    have hlen := hh.len
    rcases Nat.lt_or_ge b J.length with hb | hb <;> rcases Nat.lt_or_ge b' J.length with hb' | hb'
    · rw [List.getElem?_append_left hb] at h1
      rw [List.getElem?_append_left hb'] at h2
      rw [List.getElem?_append_left (by omega)] at h3 h4
      exact hh.inj b b' k1 k2 o1 o2 h1 h2 h3 h4 h5 h6 h7
    · rw [List.getElem?_append_left hb] at h1
      rw [List.getElem?_append_right hb'] at h2
      have : k2 = k := by
        rcases Nat.eq_zero_or_pos (b' - J.length) with h0 | h0
        · rw [h0] at h2; simpa using h2.symm
        · rw [List.getElem?_eq_none (by simp; omega)] at h2; cases h2
      subst this
      have := hh.lt b k1 h1
      omega
    · rw [List.getElem?_append_right hb] at h1
      rw [List.getElem?_append_left hb'] at h2
      have : k1 = k := by
        rcases Nat.eq_zero_or_pos (b - J.length) with h0 | h0
        · rw [h0] at h1; simpa using h1.symm
        · rw [List.getElem?_eq_none (by simp; omega)] at h1; cases h1
      subst this
      have := hh.lt b' k2 h2
      omega
    · have e1 : b = J.length := by
        rcases Nat.eq_zero_or_pos (b - J.length) with h0 | h0
        · omega
        · rw [List.getElem?_append_right hb, List.getElem?_eq_none (by simp; omega)] at h1; cases h1
      have e2 : b' = J.length := by
        rcases Nat.eq_zero_or_pos (b' - J.length) with h0 | h0
        · omega
        · rw [List.getElem?_append_right hb', List.getElem?_eq_none (by simp; omega)] at h2; cases h2
      omega
  · intro b k1 h1
    rcases Nat.lt_or_ge b J.length with hb | hb
    · rw [List.getElem?_append_left hb] at h1
      have := hh.lt b k1 h1
      simp; omega
    · rw [List.getElem?_append_right hb] at h1
      have : k1 = k := by
        rcases Nat.eq_zero_or_pos (b - J.length) with h0 | h0
        · rw [h0] at h1; simpa using h1.symm
        · rw [List.getElem?_eq_none (by simp; omega)] at h1; cases h1
      subst this
      simp [hk]
  · intro b k1 o1 h1 h2 h3
    have hlen := hh.len
    rcases Nat.lt_or_ge b J.length with hb | hb
    · rw [List.getElem?_append_left hb] at h1
      rw [List.getElem?_append_left (by omega)] at h2
      exact .inl ⟨h1, h2, hold _ (hh.lt b k1 h1)⟩
    · right
      rw [List.getElem?_append_right hb] at h1
      rw [List.getElem?_append_right (by omega), ← hlen] at h2
      rcases Nat.eq_zero_or_pos (b - J.length) with h0 | h0
      · rw [h0] at h1 h2
        simp at h1 h2
        subst h1; subst h2
        exact ho _ _ fun x v hv => hv.evo ev
      · rw [List.getElem?_eq_none (by simp; omega)] at h1; cases h1

theorem own_set {b : Nat} {o : AObj} {k : Blk} {o' : AObj} (hb : J[b]? = some k) (ho : h[b]? = some o') (ho' : o' ≠ .dead) {r : Nat} (hr : Own (h.set b o) J r) : Own h J r := by
  obtain ⟨b', k', o1, h1, h2, h3, h4⟩ := hr
  by_cases e : b = b'
  · subst e
    rw [hb] at h1
    injection h1 with h1
    subst h1
    exact ⟨b, k, o', hb, ho, ho', h4⟩
  · rw [List.getElem?_set_ne e] at h2
    exact ⟨b', k', o1, h1, h2, h3, h4⟩

/-- A block's content is turned. -/
theorem HRel.set (hh : HRel gl h J w) {b : Nat} {k : Blk} {o' : AObj} (o : AObj) (hb : J[b]? = some k) (ho' : h[b]? = some o') (hnd : o' ≠ .dead)
    (hsz : w'.heap.size = w.heap.size) (hkeep : ∀ r, r ≠ k.r → w'.heap[r]? = w.heap[r]?) (hos : w'.os = w.os) (htape : w'.tape = w.tape) (hout : w'.output = w.output)
    (ho : ∀ O', (∀ x v, VRel J (Own h J) w x v → VRel J O' w' x v) → ORel J O' w' k o) :
    HRel gl (h.set b o) J w' ∧ Evo h J w (h.set b o) J w' := by
  have hOwn : Own h J k.r := ⟨b, k, o', hb, ho', hnd, rfl⟩
  have ev : Evo h J w (h.set b o) J w' := by
    refine ⟨⟨[], by simp⟩, by omega, fun r hr hn => ⟨hkeep r (fun e => hn (e ▸ hOwn)), fun hO => hn (own_set hb ho' hnd hO)⟩, hos, htape, hout⟩
  have hblt : b < h.length := (List.getElem?_eq_some_iff.1 ho').1
  refine ⟨hh.step ev (by simp [hh.len]) ?_ ?_ ?_, ev⟩
  · intro b1 b2 k1 k2 o1 o2 h1 h2 h3 h4 h5 h6 h7
    have old : ∀ (b1 : Nat) (k1 : Blk) (o1 : AObj), J[b1]? = some k1 → (h.set b o)[b1]? = some o1 → o1 ≠ AObj.dead → ∃ o : AObj, h[b1]? = some o ∧ o ≠ AObj.dead := by
      intro b1 k1 o1 h1 h3 h5
      by_cases e : b = b1
      · subst e; exact ⟨o', ho', hnd⟩
      · rw [List.getElem?_set_ne e] at h3; exact ⟨o1, h3, h5⟩
    obtain ⟨p1, q1, r1⟩ := old b1 k1 o1 h1 h3 h5
    obtain ⟨p2, q2, r2⟩ := old b2 k2 o2 h2 h4 h6
    exact hh.inj b1 b2 k1 k2 p1 p2 h1 h2 q1 q2 r1 r2 h7
  · intro b1 k1 h1; rw [hsz]; exact hh.lt b1 k1 h1
  · intro b1 k1 o1 h1 h2 h3
    by_cases e : b = b1
    · subst e
      rw [hb] at h1
      injection h1 with h1
      subst h1
      rw [List.getElem?_set_self hblt] at h2
      injection h2 with h2
      subst h2
      exact .inr (ho _ fun x v hv => hv.evo ev)
    · rw [List.getElem?_set_ne e] at h2
      refine .inl ⟨h1, h2, hkeep _ fun he => e ?_⟩
      exact (hh.inj b1 b k1 k o1 o' h1 hb h2 ho' h3 hnd he).symm

/-- A block is given up: from now on it may only be read, under the values that show it. -/
theorem HRel.kill (hh : HRel gl h J w) {b : Nat} : HRel gl (h.set b .dead) J w ∧ Evo h J w (h.set b .dead) J w := by
  have sub : ∀ r, Own (h.set b .dead) J r → Own h J r := by
    rintro r ⟨b', k', o1, h1, h2, h3, h4⟩
    by_cases e : b = b'
    · subst e
      rw [List.getElem?_set] at h2
      split at h2
      · split at h2
        · injection h2 with h2; exact absurd h2.symm h3
        · cases h2
      · exact ⟨b, k', o1, h1, h2, h3, h4⟩
    · rw [List.getElem?_set_ne e] at h2
      exact ⟨b', k', o1, h1, h2, h3, h4⟩
  have ev : Evo h J w (h.set b .dead) J w := ⟨⟨[], by simp⟩, Nat.le_refl _, fun r _ hn => ⟨rfl, fun hO => hn (sub r hO)⟩, rfl, rfl, rfl⟩
  have old : ∀ (b1 : Nat) (o1 : AObj), (h.set b AObj.dead)[b1]? = some o1 → o1 ≠ AObj.dead → h[b1]? = some o1 := by
    intro b1 o1 h1 h2
    rw [List.getElem?_set] at h1
    split at h1
    · first
        | (injection h1 with h1; exact absurd h1.symm h2)
        | (split at h1
           · injection h1 with h1; exact absurd h1.symm h2
           · cases h1)
    · exact h1
  refine ⟨hh.step ev (by simp [hh.len]) ?_ hh.lt ?_, ev⟩
  · intro b1 b2 k1 k2 o1 o2 h1 h2 h3 h4 h5 h6 h7
    exact hh.inj b1 b2 k1 k2 o1 o2 h1 h2 (old _ _ h3 h5) (old _ _ h4 h6) h5 h6 h7
  · intro b1 k1 o1 h1 h2 h3
    exact .inl ⟨h1, old _ _ h2 h3, rfl⟩

/-- A block goes on under a new name. -/
theorem HRel.move (hh : HRel gl h J w) {b : Nat} {k : Blk} {o' : AObj} (k' : Blk) (o : AObj) (hb : J[b]? = some k) (ho' : h[b]? = some o') (hnd : o' ≠ .dead) (hk : k'.r = k.r)
    (ho : ∀ J' O', (∀ x v, VRel J (Own h J) w x v → VRel J' O' w x v) → ORel J' O' w k' o) :
    HRel gl (h.set b .dead ++ [o]) (J ++ [k']) w ∧ Evo h J w (h.set b .dead ++ [o]) (J ++ [k']) w := by
  obtain ⟨hk1, ev1⟩ := hh.kill (b := b)
  have hlen := hh.len
  have hOwn : Own h J k.r := ⟨b, k, o', hb, ho', hnd, rfl⟩
  have hblt : b < h.length := (List.getElem?_eq_some_iff.1 ho').1
  have ev : Evo h J w (h.set b .dead ++ [o]) (J ++ [k']) w := by
    refine ⟨⟨[k'], rfl⟩, Nat.le_refl _, fun r hr hn => ⟨rfl, fun hO => ?_⟩, rfl, rfl, rfl⟩
    rcases own_append (by simp [hlen]) hO with h1 | ⟨_, h1⟩
    · exact (ev1.keep r hr hn).2 h1
    · rw [hk] at h1; exact hn (h1 ▸ hOwn)
  have last : ∀ b1 k1, (J ++ [k'])[b1]? = some k1 → J.length ≤ b1 → b1 = J.length ∧ k1 = k' := by
    intro b1 k1 h1 hb1
    rw [List.getElem?_append_right hb1] at h1
    rcases Nat.eq_zero_or_pos (b1 - J.length) with h0 | h0
    · rw [h0] at h1; exact ⟨by omega, by simpa using h1.symm⟩
    · rw [List.getElem?_eq_none (by simp; omega)] at h1; cases h1
  have old : ∀ (b1 : Nat) (o1 : AObj), b1 < J.length → (h.set b AObj.dead ++ [o])[b1]? = some o1 → o1 ≠ AObj.dead → b1 ≠ b ∧ h[b1]? = some o1 := by
    intro b1 o1 hb1 h1 h2
    rw [List.getElem?_append_left (by simp; omega), List.getElem?_set] at h1
    split at h1
    · first
        | (injection h1 with h1; exact absurd h1.symm h2)
        | (split at h1
           · injection h1 with h1; exact absurd h1.symm h2
           · cases h1)
    · rename_i hne; exact ⟨Ne.symm hne, h1⟩
  refine ⟨hh.step ev (by simp [hlen]) ?_ ?_ ?_, ev⟩
  · intro b1 b2 k1 k2 o1 o2 h1 h2 h3 h4 h5 h6 h7
    rcases Nat.lt_or_ge b1 J.length with l1 | l1 <;> rcases Nat.lt_or_ge b2 J.length with l2 | l2
    · rw [List.getElem?_append_left l1] at h1
      rw [List.getElem?_append_left l2] at h2
      exact hh.inj b1 b2 k1 k2 o1 o2 h1 h2 (old _ _ l1 h3 h5).2 (old _ _ l2 h4 h6).2 h5 h6 h7
    · rw [List.getElem?_append_left l1] at h1
      obtain ⟨e1, e2⟩ := last _ _ h2 l2
      obtain ⟨n1, n2⟩ := old _ _ l1 h3 h5
      exact absurd (hh.inj b1 b k1 k o1 o' h1 hb n2 ho' h5 hnd (by rw [h7, e2, hk])) n1
    · rw [List.getElem?_append_left l2] at h2
      obtain ⟨e1, e2⟩ := last _ _ h1 l1
      obtain ⟨n1, n2⟩ := old _ _ l2 h4 h6
      exact absurd (hh.inj b2 b k2 k o2 o' h2 hb n2 ho' h6 hnd (by rw [← h7, e2, hk])) n1
    · rw [(last _ _ h1 l1).1, (last _ _ h2 l2).1]
  · intro b1 k1 h1
    rcases Nat.lt_or_ge b1 J.length with l1 | l1
    · rw [List.getElem?_append_left l1] at h1; exact hh.lt b1 k1 h1
    · rw [(last _ _ h1 l1).2, hk]; exact hh.lt b k hb
  · intro b1 k1 o1 h1 h2 h3
    rcases Nat.lt_or_ge b1 J.length with l1 | l1
    · rw [List.getElem?_append_left l1] at h1
      exact .inl ⟨h1, (old _ _ l1 h2 h3).2, rfl⟩
    · obtain ⟨e1, e2⟩ := last _ _ h1 l1
      rw [e1, List.getElem?_append_right (by simp; omega)] at h2
      have : o1 = o := by
        simp only [List.length_set] at h2
        rw [show J.length - h.length = 0 by omega] at h2
        simpa using h2.symm
      subst this
      rw [e2]
      exact .inr (ho _ _ fun x v hv => hv.evo ev)
end
end Go.Abs
