/-
  A region whose acts may come in more than one order: each order of the acts is told by itself, as a region of its own with the acts in a row.
-/
import Derived.Test.YtillfoacekifbaaDoorAbsLast
set_option linter.unusedVariables false
set_option linter.unusedSimpArgs false
namespace Go.Abs
open Go

/-- The operations in another text order, the acts in a row. -/
def isAct (ops : Array Oper) (i : Nat) : Bool := match ops[i]? with
  | some o => actB o.op
  | none => false
def lastAct (ops : Array Oper) (p : List Nat) (k : Nat) : Option Nat := ((List.range k).filter fun m => isAct ops (p.getD m 0)).getLast?
def permOp (ops : Array Oper) (p : List Nat) (k i : Nat) (o : Oper) : Oper :=
  { o with
    after := (o.after.filter (Region.binds .any)).map (fun e => { e with on := p.idxOf e.on }) ++ (if actB o.op then (match lastAct ops p k with | some m => #[({ on := m, ground := .data } : Edge)] | none => #[]) else #[]),
    guard := o.guard.map fun g => (p.idxOf g.1, g.2) }
def permOps (ops : Array Oper) (p : List Nat) : Array Oper := ((List.range p.length).map fun k => permOp ops p k (p.getD k 0) (ops.getD (p.getD k 0) default)).toArray

def exts (dep : Nat → Nat → Bool) : Nat → List Nat → List (List Nat)
  | 0, _ => [[]]
  | n + 1, rest => rest.flatMap fun i => if rest.all fun j => !dep j i then (exts dep n (rest.erase i)).map (i :: ·) else []
def permsOk (ops : Array Oper) (ps : List (List Nat)) : Bool :=
  let ms := masks ops.toList []
  sufOk ops ops.size && (ps.all fun p => decide (p.length = ops.size) && ((List.range ops.size).all fun i => p.contains i) && (List.range ops.size).all fun k => decide (p.getD k 0 < ops.size) && decide (p.idxOf (p.getD k 0) = k)) &&
  (let A := (List.range ops.size).filter (isAct ops); (exts (depB ms) A.length A).all fun q => ps.any fun p => decide (p.filter (isAct ops) = q))

/-- An order that a region may take, from where some operations have been carried out. -/
inductive Sched (ops : Array Oper) : Array Bool → List Nat → Prop
  | nil (l : Array Bool) (h : Region.ready .any ops l = []) : Sched ops l []
  | cons (l : Array Bool) (i : Nat) (s : List Nat) (h : i ∈ Region.ready .any ops l) (hs : Sched ops (l.setIfInBounds i true) s) : Sched ops l (i :: s)

section
variable {P : Program} {ops : Array Oper}

theorem sched_go : ∀ (fuel t : Nat) (l : Array Bool), l.size = ops.size → l.toList.count false ≤ fuel → Sched ops l (Region.linearise.go .any ops fuel t l []) := by
  intro fuel
  have none_left : ∀ l : Array Bool, l.size = ops.size → l.toList.count false = 0 → Region.ready .any ops l = [] := by
    intro l hs hc
    cases hr : Region.ready .any ops l with
    | nil => rfl
    | cons i r =>
      obtain ⟨h1, o, ho, _⟩ := (ready_iff hs).1 (by rw [hr]; simp : i ∈ Region.ready .any ops l)
      have hi := (Array.getElem?_eq_some_iff.1 ho).1
      have := count_set_lt (l := l) (by omega) h1
      omega
  induction fuel with
  | zero =>
    intro t l hs hc
    simp only [Region.linearise.go, List.reverse_nil]
    exact .nil l (none_left l hs (by omega))
  | succ fuel ih =>
    intro t l hs hc
    simp only [Region.linearise.go]
    change Sched ops l (match (Region.ready .any ops l)[t % (Region.ready .any ops l).length]? with
      | some i => Region.linearise.go .any ops fuel (t / (Region.ready .any ops l).length) (l.setIfInBounds i true) [i]
      | none => [].reverse)
    cases hi : (Region.ready .any ops l)[t % (Region.ready .any ops l).length]? with
    | none =>
      have hnil : Region.ready .any ops l = [] := by
        cases hr : Region.ready .any ops l with
        | nil => rfl
        | cons x xs =>
          rw [hr] at hi
          have hlt : t % (x :: xs).length < (x :: xs).length := Nat.mod_lt _ (by simp)
          simp at hi
          simp at hlt
          omega
      exact .nil l hnil
    | some i =>
      simp only []
      rw [linearise_go_acc, List.reverse_singleton, List.singleton_append]
      have hm := List.mem_of_getElem? hi
      obtain ⟨h1, o, ho, _⟩ := (ready_iff hs).1 hm
      have hil := (Array.getElem?_eq_some_iff.1 ho).1
      have := count_set_lt (l := l) (by omega) h1
      exact .cons l i _ hm (ih _ _ (by simp [hs]) (by omega))

theorem any_sched {Q : Exit → Act → World → Prop} {l : Array Bool} {s : List Nat} (h : Sched ops l s) : ∀ {fuel : Nat} {a : Act} {w : World}, s.length ≤ fuel → wpAny P .any ops Q fuel l a w → wpOps P ops Q s a w := by
  induction h with
  | nil l h =>
    intro fuel a w _ hw
    cases fuel with
    | zero => simpa [wpOps] using hw.2
    | succ fuel => simpa [wpOps] using hw.1 h
  | cons l i s hi hs ih =>
    intro fuel a w hf hw
    cases fuel with
    | zero => simp at hf
    | succ fuel =>
      rw [wpOps_cons]
      exact wpOp_mono (fun a w h => ih (by simpa using hf) h) (hw.2 i hi)

theorem Sched.facts {l : Array Bool} {s : List Nat} (h : Sched ops l s) (se : SufOk ops ops.size) : l.size = ops.size → Closed ops l →
    s.Nodup ∧ (∀ i, i ∈ s ↔ i < ops.size ∧ l.getD i false = false) ∧ s.Pairwise fun i j => ¬ Dep ops j i := by
  induction h with
  | nil l h =>
    intro hs _
    refine ⟨List.Pairwise.nil, fun i => ⟨fun h => by simp at h, fun ⟨hi, hl⟩ => ?_⟩, List.Pairwise.nil⟩
    exfalso
    induction i using Nat.strongRecOn with
    | _ i ih =>
      have ho : ops[i]? = some (ops[i]'hi) := Array.getElem?_eq_getElem hi
      by_cases hx : ∃ e ∈ (ops[i]'hi).after, Region.binds .any e = true ∧ l.getD e.on false = false
      · obtain ⟨e, he, hb, hf⟩ := hx
        have := se.early i _ ho e he hb
        exact ih e.on this ⟨by omega, hf⟩ (by omega) hf
      · have : i ∈ Region.ready .any ops l := (ready_iff hs).2 ⟨hl, _, ho, fun e he hb => by
          cases hx2 : l.getD e.on false with
          | true => rfl
          | false => exact absurd ⟨e, he, hb, hx2⟩ hx⟩
        rw [h] at this; cases this
  | cons l i s hi hsd ih =>
    intro hs hc
    obtain ⟨h1, o, ho, h2⟩ := (ready_iff hs).1 hi
    have hil := (Array.getElem?_eq_some_iff.1 ho).1
    have hdep := ready_dep hc ho h2
    obtain ⟨n1, n2, n3⟩ := ih (by simp [hs]) (fun p q hd hq => by
      rw [getD_set (by omega)] at hq ⊢
      by_cases hp : p = i
      · simp [hp]
      · rw [if_neg hp]
        by_cases hqi : q = i
        · subst hqi; exact hdep p hd
        · rw [if_neg hqi] at hq; exact hc p q hd hq)
    refine ⟨List.nodup_cons.2 ⟨fun hm => ?_, n1⟩, fun k => ?_, List.pairwise_cons.2 ⟨fun j hj hd => ?_, n3⟩⟩
    · have := ((n2 i).1 hm).2
      rw [getD_set (by omega), if_pos rfl] at this; cases this
    · rw [List.mem_cons, n2 k, getD_set (by omega)]
      constructor
      · rintro (rfl | ⟨a, b⟩)
        · exact ⟨hil, h1⟩
        · refine ⟨a, ?_⟩
          by_cases e : k = i
          · rw [if_pos e] at b; cases b
          · rwa [if_neg e] at b
      · rintro ⟨a, b⟩
        by_cases e : k = i
        · exact .inl e
        · exact .inr ⟨a, by rw [if_neg e]; exact b⟩
    · have := ((n2 j).1 hj).2
      rw [getD_set (by omega)] at this
      have hji : j ≠ i := by rintro rfl; rw [if_pos rfl] at this; cases this
      rw [if_neg hji] at this
      rw [hdep j hd] at this; cases this

theorem mem_exts {dep : Nat → Nat → Bool} : ∀ (q rest : List Nat), q.Nodup → rest.Nodup → (∀ i, i ∈ q ↔ i ∈ rest) → q.Pairwise (fun i j => dep j i = false) → (∀ i ∈ q, dep i i = false) → q ∈ exts dep q.length rest
  | [], _, _, _, _, _, _ => by simp [exts]
  | i :: q, rest, hq, hr, hm, hp, hir => by
    rw [List.length_cons, exts, List.mem_flatMap]
    obtain ⟨h1, h2⟩ := List.nodup_cons.1 hq
    obtain ⟨p1, p2⟩ := List.pairwise_cons.1 hp
    refine ⟨i, (hm i).1 (by simp), ?_⟩
    rw [if_pos]
    · refine List.mem_map.2 ⟨q, mem_exts q (rest.erase i) h2 (hr.erase i) (fun j => ?_) p2 (fun j hj => hir j (by simp [hj])), rfl⟩
      rw [hr.mem_erase_iff, ← hm j, List.mem_cons]
      constructor
      · intro hj; exact ⟨fun e => h1 (e ▸ hj), .inr hj⟩
      · rintro ⟨a, b | b⟩
        · exact absurd b a
        · exact b
    · rw [List.all_eq_true]
      intro j hj
      rcases List.mem_cons.1 ((hm j).2 hj) with rfl | hj'
      · simpa using hir j (by simp)
      · simpa using p1 j hj'

/-- What is asked of one order. -/
structure PermOk (ops : Array Oper) (p : List Nat) : Prop where
  len : p.length = ops.size
  mem : ∀ i, i < ops.size → i ∈ p
  lt : ∀ k, k < ops.size → p.getD k 0 < ops.size
  idx : ∀ k, k < ops.size → p.idxOf (p.getD k 0) = k

theorem PermOk.inv {p : List Nat} (s : PermOk ops p) {i : Nat} (hi : i < ops.size) : p.idxOf i < ops.size ∧ p.getD (p.idxOf i) 0 = i := by
  have hidx : p.idxOf i < p.length := List.idxOf_lt_length_of_mem (s.mem i hi)
  refine ⟨by rw [← s.len]; exact hidx, ?_⟩
  rw [List.getD_eq_getElem?_getD, List.getElem?_eq_getElem hidx, Option.getD_some]
  exact List.getElem_idxOf hidx
theorem PermOk.nodup {p : List Nat} (s : PermOk ops p) : p.Nodup := by
  rw [List.nodup_iff_pairwise_ne, List.pairwise_iff_getElem]
  intro i j hi hj hij he
  have h1 := s.idx i (by rw [← s.len]; exact hi)
  have h2 := s.idx j (by rw [← s.len]; exact hj)
  rw [List.getD_eq_getElem?_getD, List.getElem?_eq_getElem hi, Option.getD_some] at h1
  rw [List.getD_eq_getElem?_getD, List.getElem?_eq_getElem hj, Option.getD_some, ← he] at h2
  omega
theorem perm_get {p : List Nat} (s : PermOk ops p) {i : Nat} {o : Oper} (ho : ops[i]? = some o) : (permOps ops p)[p.idxOf i]? = some (permOp ops p (p.idxOf i) i o) := by
  have hi := (Array.getElem?_eq_some_iff.1 ho).1
  obtain ⟨hidx, hget⟩ := s.inv hi
  simp only [permOps, List.getElem?_toArray]
  rw [List.getElem?_map, List.getElem?_range (by rw [s.len]; exact hidx), Option.map_some, hget, Array.getD_eq_getD_getElem?, ho]
  rfl
theorem perm_size {p : List Nat} (s : PermOk ops p) : (permOps ops p).size = ops.size := by
  simp [permOps, s.len]

theorem split_uniq {α : Type} {x : α} : ∀ {A C B D : List α}, A ++ x :: B = C ++ x :: D → x ∉ A → x ∉ C → A = C
  | [], [], _, _, _, _, _ => rfl
  | [], c :: C, B, D, h, _, hc => by
    injection h with h1 h2
    exact absurd (by simp [h1]) hc
  | a :: A, [], B, D, h, ha, _ => by
    injection h with h1 h2
    exact absurd (by simp [h1]) ha
  | a :: A, c :: C, B, D, h, ha, hc => by
    injection h with h1 h2
    rw [h1, split_uniq h2 (fun e => ha (by simp [e])) (fun e => hc (by simp [e]))]

theorem sched_perm {p : List Nat} (sp : PermOk ops p) (se : SufOk ops ops.size) {l : Array Bool} {s : List Nat} (h : Sched ops l s) : ∀ (l' : Array Bool) (dn : List Nat), l.size = ops.size → l'.size = ops.size → Closed ops l → (∀ k, k < ops.size → l'.getD k false = l.getD (p.getD k 0) false) →
    p.filter (isAct ops) = dn ++ s.filter (isAct ops) → (∀ i ∈ dn, l.getD i false = true) → Sched (permOps ops p) l' (s.map p.idxOf) := by
  induction h with
  | nil l h =>
    intro l' dn hs hs' hc hl _ _
    refine .nil l' ?_
    cases hr : Region.ready .any (permOps ops p) l' with
    | nil => rfl
    | cons k r =>
      exfalso
      obtain ⟨h1, o, ho, _⟩ := (ready_iff (by rw [perm_size sp, hs'])).1 (by rw [hr]; simp : k ∈ Region.ready .any (permOps ops p) l')
      have hk := (Array.getElem?_eq_some_iff.1 ho).1
      rw [perm_size sp] at hk
      rw [hl k hk] at h1
      have := ((Sched.nil l h).facts se hs hc).2.1 (p.getD k 0)
      have := this.2 ⟨sp.lt k hk, h1⟩
      simp at this
  | cons l i s hi hsd ih =>
    intro l' dn hs hs' hc hl hact hdn
    obtain ⟨h1, o, ho, h2⟩ := (ready_iff hs).1 hi
    have hil := (Array.getElem?_eq_some_iff.1 ho).1
    obtain ⟨hii, hig⟩ := sp.inv hil
    have hdep := ready_dep hc ho h2
    have hkey : ∀ k, k < ops.size → (k = p.idxOf i ↔ p.getD k 0 = i) := fun k hk => ⟨fun e => by rw [e]; exact hig, fun e => by rw [← e, sp.idx k hk]⟩
    rw [List.map_cons]
    refine .cons l' _ _ ((ready_iff (by rw [perm_size sp, hs'])).2 ⟨by rw [hl _ hii, hig]; exact h1, _, perm_get sp ho, fun e he hb => ?_⟩) ?_
    · simp only [permOp] at he
      rcases Array.mem_append.1 he with he | he
      · obtain ⟨e0, he0, rfl⟩ := Array.mem_map.1 he
        obtain ⟨he0, hb0⟩ := Array.mem_filter.1 he0
        have h3 := h2 e0 he0 hb0
        have h4 : e0.on < ops.size := by
          rw [← hs]
          apply Classical.byContradiction
          intro hn
          rw [Array.getD_eq_getD_getElem?, Array.getElem?_eq_none (by omega)] at h3; cases h3
        obtain ⟨q1, q2⟩ := sp.inv h4
        show l'.getD (p.idxOf e0.on) false = true
        rw [hl _ q1, q2]; exact h3
      · split at he
        · rename_i hab
          split at he
          · rename_i m hm
            simp at he
            subst he
            show l'.getD m false = true
            have hmem := List.mem_of_getLast? hm
            obtain ⟨hmr, hma⟩ := List.mem_filter.1 hmem
            have hmi := List.mem_range.1 hmr
            rw [hl m (by omega)]
            refine hdn _ ?_
            have hia : isAct ops i = true := by simp [isAct, ho, hab]
            have hidx : p.idxOf i < p.length := by rw [sp.len]; exact hii
            have hpi : p[p.idxOf i]? = some i := by rw [List.getElem?_eq_getElem hidx]; congr 1; exact List.getElem_idxOf hidx
            have hpd : p = p.take (p.idxOf i) ++ i :: p.drop (p.idxOf i + 1) := by
              conv => lhs; rw [← List.take_append_drop (p.idxOf i) p]
              congr 1
              rw [List.drop_eq_getElem_cons hidx]
              congr 1
              exact List.getElem_idxOf hidx
            have hnd := sp.nodup
            have hf : (p.take (p.idxOf i)).filter (isAct ops) ++ i :: (p.drop (p.idxOf i + 1)).filter (isAct ops) = dn ++ i :: s.filter (isAct ops) := by
              rw [List.filter_cons, if_pos hia] at hact
              rw [← hact]
              conv => rhs; rw [hpd]
              rw [List.filter_append, List.filter_cons, if_pos hia]
            have hn1 : i ∉ (p.take (p.idxOf i)).filter (isAct ops) := by
              intro hm'
              have hm' := (List.mem_filter.1 hm').1
              rw [hpd] at hnd
              have := (List.nodup_append.1 hnd).2.2 i hm' i (by simp)
              exact this rfl
            have hn2 : i ∉ dn := fun hm' => by rw [hdn i hm'] at h1; cases h1
            rw [← split_uniq hf hn1 hn2]
            refine List.mem_filter.2 ⟨?_, hma⟩
            have hml : m < p.length := by rw [sp.len]; omega
            rw [List.getD_eq_getElem?_getD, List.getElem?_eq_getElem hml, Option.getD_some]
            exact List.mem_take_iff_getElem.2 ⟨m, by omega, rfl⟩
          · simp at he
        · simp at he
    · have hl2 : ∀ k, k < ops.size → (l'.setIfInBounds (p.idxOf i) true).getD k false = (l.setIfInBounds i true).getD (p.getD k 0) false := by
        intro k hk
        rw [getD_set (by omega), getD_set (by omega), hl k hk]
        have := hkey k hk
        by_cases e : k = p.idxOf i
        · rw [if_pos e, if_pos (this.1 e)]
        · rw [if_neg e, if_neg (fun q => e (this.2 q))]
      have hc2 : Closed ops (l.setIfInBounds i true) := fun p q hd hq => by
        rw [getD_set (by omega)] at hq ⊢
        by_cases hp : p = i
        · simp [hp]
        · rw [if_neg hp]
          by_cases hqi : q = i
          · subst hqi; exact hdep p hd
          · rw [if_neg hqi] at hq; exact hc p q hd hq
      by_cases hia : isAct ops i = true
      · rw [List.filter_cons, if_pos hia] at hact
        refine ih _ (dn ++ [i]) (by simp [hs]) (by simp [hs']) hc2 hl2 (by rw [hact]; simp) fun j hj => ?_
        rw [getD_set (by omega)]
        split
        · rfl
        · rename_i hji
          rcases List.mem_append.1 hj with hj | hj
          · exact hdn j hj
          · exact absurd (by simpa using hj) hji
      · rw [List.filter_cons, if_neg hia] at hact
        refine ih _ dn (by simp [hs]) (by simp [hs']) hc2 hl2 hact fun j hj => ?_
        rw [getD_set (by omega)]
        split
        · rfl
        · exact hdn j hj

theorem wpOps_perm {p : List Nat} (sp : PermOk ops p) {Q : Exit → Act → World → Prop} : ∀ (s : List Nat) (a : Act) (w : World), (∀ i ∈ s, i < ops.size) → wpOps P (permOps ops p) Q (s.map p.idxOf) a w → wpOps P ops Q s a w
  | [], a, w, _, h => by simpa [wpOps] using h
  | i :: s, a, w, hlt, h => by
    rw [List.map_cons, wpOps_cons] at h
    rw [wpOps_cons]
    have hi := hlt i (by simp)
    have ho : ops[i]? = some (ops[i]'hi) := Array.getElem?_eq_getElem hi
    have ho' := perm_get sp ho
    have next : ∀ a w, wpOps P (permOps ops p) Q (s.map p.idxOf) a w → wpOps P ops Q s a w := fun a w h => wpOps_perm sp s a w (fun j hj => hlt j (by simp [hj])) h
    generalize ops[i]'hi = o at ho ho'
    have hw : Region.wanted (permOp ops p (p.idxOf i) i o) (yielded (permOps ops p) a.tmps) = Region.wanted o (yielded ops a.tmps) := by
      cases hg : o.guard with
      | none => simp [Region.wanted, permOp, hg]
      | some g =>
        obtain ⟨j, b⟩ := g
        have hy : yielded (permOps ops p) a.tmps (p.idxOf j) = yielded ops a.tmps j := by
          unfold yielded
          rcases Nat.lt_or_ge j ops.size with hj | hj
          · have hoj : ops[j]? = some (ops[j]'hj) := Array.getElem?_eq_getElem hj
            rw [perm_get sp hoj, hoj]; rfl
          · have hn : j ∉ p := by
              intro hm
              obtain ⟨k, hk, he⟩ := List.getElem_of_mem hm
              have := sp.lt k (by rw [← sp.len]; exact hk)
              rw [List.getD_eq_getElem?_getD, List.getElem?_eq_getElem hk, Option.getD_some] at this
              omega
            rw [List.idxOf_eq_length hn, sp.len, Array.getElem?_eq_none (by rw [perm_size sp]; omega), Array.getElem?_eq_none hj]
        simp only [Region.wanted, permOp, hg, Option.map_some, hy]
    unfold wpOp at h ⊢
    rw [ho'] at h
    rw [ho]
    simp only at h ⊢
    rw [hw] at h
    split at h
    · rename_i hwt
      rw [if_pos hwt]
      rcases h with h | h
      · exact .inl (Oper.wp_mono next (show o.wp P a w (wpOps P (permOps ops p) Q (s.map p.idxOf)) Q from h))
      · exact .inr (show o.asks P a w ∧ LetsOut Q from h)
    · rename_i hwt
      rw [if_neg hwt]
      exact next _ _ h

theorem permsOk_spec {ps : List (List Nat)} (h : permsOk ops ps = true) : SufOk ops ops.size ∧ (∀ p ∈ ps, PermOk ops p) ∧ ∀ q ∈ exts (depB (masks ops.toList [])) ((List.range ops.size).filter (isAct ops)).length ((List.range ops.size).filter (isAct ops)), ∃ p ∈ ps, p.filter (isAct ops) = q := by
  unfold permsOk at h
  simp only [Bool.and_eq_true, List.all_eq_true, decide_eq_true_eq, List.mem_range, List.any_eq_true] at h
  obtain ⟨⟨h1, h2⟩, h3⟩ := h
  refine ⟨sufOk_spec h1, fun p hp => ?_, fun q hq => h3 q hq⟩
  obtain ⟨⟨a, b⟩, c⟩ := h2 p hp
  exact ⟨a, fun i hi => by simpa using b i hi, fun k hk => (c k hk).1, fun k hk => (c k hk).2⟩
end

section
variable {P : Program} {gl : Globs} {N : Nat} {Q : APost} {fr : AFrame} {h : AHeap} {ops : Array Oper}

theorem lax_any {J : List Blk} {a : Act} {w : World} (L : List (Nat × Nat)) (hd : laxOk ops L = true) (hs : aopsT P gl N ops ops.toList [] [] (fun frs hs fr h => laxAll P gl N ops L frs hs ∧ Q .normal fr h) fr h) (r : ARel gl N J fr h a w) :
    wpAny P .any ops (lift gl N h J w Q) ops.size (Array.replicate ops.size false) a { w with drawn := w.drawn + 1 } := by
  simp only [laxOk, Bool.and_eq_true, beq_iff_eq] at hd
  have dk := drawOk2_spec hd.1
  obtain ⟨F, H, X, f1, f2, f30, f4⟩ := aopsT_trace ops.toList 0 fr h [] [] (by simp) hs
  simp only [Nat.zero_add, Array.length_toList, List.nil_append] at f30 f4
  obtain ⟨hlax, f3⟩ := f30
  have lax := lax_of_all hd.2 f4 hlax
  obtain ⟨hdr, evd⟩ := r.heap.drew
  refine wpAny_of_part2 (F := F) (H := H) (X := X) (fr := fr) (h := h) (J0 := J) (w0 := w) dk f1 f2 (fun j o hj ho => f4 j o (Nat.zero_le _) hj ho) lax (Q := lift gl N h J w Q) ?_ ops.size _ a _ (by simp) ?_ (by simp) ?_
  · intro J' a' w' r' ev'
    exact ⟨J', F ops.size, H ops.size, r', ev', f3⟩
  · intro h0
    have : ops = #[] := Array.eq_empty_of_size_eq_zero h0
    subst this
    rfl
  · refine ⟨fun i j _ hj => ?_, 0, J, Nat.zero_le _, fun e o ho hae => ?_, ?_, ?_⟩
    · exfalso
      simp only [Array.getD_eq_getD_getElem?] at hj
      cases hx : (Array.replicate ops.size false)[j]? with
      | none => rw [hx] at hj; simp at hj
      | some b =>
        rw [hx] at hj
        rw [Array.getElem?_replicate] at hx
        split at hx <;> simp_all
    · have he : e < ops.size := (Array.getElem?_eq_some_iff.1 ho).1
      simp [he]
    · have hfd : ∀ n, FD ops X fr (fun i => (Array.replicate ops.size false).getD i false) n = fr := by
        intro n
        induction n with
        | zero => rfl
        | succ n ih =>
          simp only [FD]
          rw [if_neg, ih]
          intro hh
          simp only [Array.getD_eq_getD_getElem?] at hh
          cases hx : (Array.replicate ops.size false)[n]? with
          | none => rw [hx] at hh; simp at hh
          | some b =>
            rw [hx] at hh
            rw [Array.getElem?_replicate] at hx
            split at hx <;> simp_all
      rw [hfd, f2]
      exact ⟨r.size, r.defers, fun t => (r.tmps t).evo evd, hdr⟩
    · rw [f2]; exact evd

/-- A region whose acts come in one of some orders. -/
theorem AWP.region_perm {id : Nat} (ps : List (List Nat × List (Nat × Nat))) (hm : P.follows .mixedOrders = true) (hp : permsOk ops (ps.map (·.1)) = true) (hL : ∀ q ∈ ps, laxOk (permOps ops q.1) q.2 = true)
    (hs : ∀ q ∈ ps, aopsT P gl N (permOps ops q.1) (permOps ops q.1).toList [] [] (fun frs hs fr h => laxAll P gl N (permOps ops q.1) q.2 frs hs ∧ Q .normal fr h) fr h) : AWP P gl N (.region id ops true) Q fr h := by
  intro J a w r
  refine wp_region_draw fun t => ?_
  simp only [Region.schedule, hm, Bool.true_or, if_true]
  obtain ⟨se, sps, hcov⟩ := permsOk_spec hp
  have hsz : (Array.replicate ops.size false).size = ops.size := by simp
  have hc0 : Closed ops (Array.replicate ops.size false) := fun i j _ hj => by
    rw [Array.getD_eq_getD_getElem?, Array.getElem?_replicate] at hj
    split at hj <;> simp at hj
  have hsched : Sched ops (Array.replicate ops.size false) (Region.linearise .any ops t) := sched_go ops.size t _ hsz (by simp)
  generalize Region.linearise .any ops t = s at hsched
  obtain ⟨n1, n2, n3⟩ := hsched.facts se hsz hc0
  have hin : ∀ i, i ∈ s ↔ i < ops.size := fun i => by
    rw [n2 i]
    constructor
    · exact fun h => h.1
    · intro hi
      refine ⟨hi, ?_⟩
      rw [Array.getD_eq_getD_getElem?, Array.getElem?_replicate, if_pos hi]; rfl
  have hq : s.filter (isAct ops) ∈ exts (depB (masks ops.toList [])) ((List.range ops.size).filter (isAct ops)).length ((List.range ops.size).filter (isAct ops)) := by
    have hnd1 : (s.filter (isAct ops)).Nodup := n1.sublist List.filter_sublist
    have hnd2 : ((List.range ops.size).filter (isAct ops)).Nodup := List.nodup_range.sublist List.filter_sublist
    have hmm : ∀ i, i ∈ s.filter (isAct ops) ↔ i ∈ (List.range ops.size).filter (isAct ops) := fun i => by
      rw [List.mem_filter, List.mem_filter, hin, List.mem_range]
    have hlen : (s.filter (isAct ops)).length = ((List.range ops.size).filter (isAct ops)).length := ((List.perm_ext_iff_of_nodup hnd1 hnd2).2 hmm).length_eq
    rw [← hlen]
    refine mem_exts _ _ hnd1 hnd2 hmm ?_ ?_
    · refine (n3.sublist List.filter_sublist).imp fun {i j} hij => ?_
      cases hd : depB (masks ops.toList []) j i with
      | false => rfl
      | true => exact absurd (depB_sound hd) hij
    · intro i _
      cases hd : depB (masks ops.toList []) i i with
      | false => rfl
      | true => have := (depB_sound hd).lt se; omega
  obtain ⟨p, hpm, hpf⟩ := hcov _ hq
  obtain ⟨q, hqm, rfl⟩ := List.mem_map.1 hpm
  have sp := sps _ hpm
  have key := lax_any (J := J) (a := a) (w := w) q.2 (hL q hqm) (hs q hqm) r
  have hs' := sched_perm sp se hsched (Array.replicate (permOps ops q.1).size false) [] hsz (by simp [perm_size sp]) hc0 (fun k hk => by
    rw [Array.getD_eq_getD_getElem?, Array.getD_eq_getD_getElem?, Array.getElem?_replicate, Array.getElem?_replicate, if_pos (by rw [perm_size sp]; exact hk), if_pos (sp.lt k hk)]) (by rw [hpf]; simp) (by simp)
  have hfl : (s.map q.1.idxOf).length ≤ (permOps ops q.1).size := by
    rw [List.length_map, perm_size sp]
    have : s.length ≤ (List.range ops.size).length := ((List.perm_ext_iff_of_nodup n1 List.nodup_range).2 fun i => by rw [hin, List.mem_range]).length_eq ▸ Nat.le_refl _
    simpa using this
  exact wpOps_perm sp s a _ (fun i hi => (hin i).1 hi) (any_sched hs' hfl key)
end

/-! ### Code with regions of all these kinds -/
inductive RMode where
  | last (z : Nat) (L : List (Nat × Nat))
  | perm (ps : List (List Nat × List (Nat × Nat)))
def permAll (P : Program) (gl : Globs) (N : Nat) (ops : Array Oper) (K : AFrame → AHeap → Prop) (fr : AFrame) (h : AHeap) : List (List Nat × List (Nat × Nat)) → Prop
  | [] => True
  | q :: ps => (laxOk (permOps ops q.1) q.2 = true ∧ aopsT P gl N (permOps ops q.1) (permOps ops q.1).toList [] [] (fun frs hs fr h => laxAll P gl N (permOps ops q.1) q.2 frs hs ∧ K fr h) fr h) ∧ permAll P gl N ops K fr h ps
theorem permAll_mem {P : Program} {gl : Globs} {N : Nat} {ops : Array Oper} {K : AFrame → AHeap → Prop} {fr : AFrame} {h : AHeap} : ∀ {ps : List (List Nat × List (Nat × Nat))}, permAll P gl N ops K fr h ps → ∀ q ∈ ps,
    laxOk (permOps ops q.1) q.2 = true ∧ aopsT P gl N (permOps ops q.1) (permOps ops q.1).toList [] [] (fun frs hs fr h => laxAll P gl N (permOps ops q.1) q.2 frs hs ∧ K fr h) fr h
  | [], _, q, hq => by cases hq
  | p :: ps, hp, q, hq => by
    rcases List.mem_cons.1 hq with rfl | hq
    · exact hp.1
    · exact permAll_mem hp.2 q hq
def awpN (P : Program) (gl : Globs) (N : Nat) (lx : Nat → Option RMode) : Code → APost → AFrame → AHeap → Prop
  | .skip, Q, fr, h => Q .normal fr h
  | .label _, Q, fr, h => Q .normal fr h
  | .seq a b, Q, fr, h => awpN P gl N lx a (AThen (awpN P gl N lx b Q) Q) fr h
  | .cond c x y, Q, fr, h => (ev gl fr c).gd = true ∧ isB (ev gl fr c).core (acond (awpN P gl N lx x Q) (awpN P gl N lx y Q) fr h)
  | .block id c, Q, fr, h => awpN P gl N lx c (ABlock id Q) fr h
  | .exit id, Q, fr, h => Q (.exit id) fr h
  | .ret, Q, fr, h => Q .ret fr h
  | .region _ ops false, Q, fr, h => aops P gl N false ops ops.toList (Q .normal) fr h
  | .region id ops true, Q, fr, h => match lx id with
    | none => drawOk ops = true ∧ aops P gl N true ops ops.toList (Q .normal) fr h
    | some (.last z L) => (sufOk ops z = true ∧ laxOk (preOps ops z) L = true) ∧ aopsT P gl N (preOps ops z) (preOps ops z).toList [] [] (fun frs hs fr h => laxAll P gl N (preOps ops z) L frs hs ∧ aops P gl N false ops (ops.toList.drop z) (Q .normal) fr h) fr h
    | some (.perm ps) => permsOk ops (ps.map (·.1)) = true ∧ permAll P gl N ops (Q .normal) fr h ps
  | .loop c, Q, fr, h => AWP P gl N (.loop c) Q fr h
  | _, _, _, _ => False

section
variable {P : Program} {gl : Globs} {N : Nat} {fr : AFrame} {h : AHeap} {lx : Nat → Option RMode}

theorem AWP.of_awpN (lx : Nat → Option RMode) (hm : P.follows .mixedOrders = true) : ∀ (c : Code) (Q : APost) (fr : AFrame) (h : AHeap), awpN P gl N lx c Q fr h → AWP P gl N c Q fr h
  | .skip, Q, fr, h, hs => AWP.skip hs
  | .label _, Q, fr, h, hs => AWP.label hs
  | .seq a b, Q, fr, h, hs => by
    refine AWP.seq ((AWP.of_awpN lx hm a _ fr h hs).mono ?_)
    intro e fr' h' q
    cases e with
    | normal => exact AWP.of_awpN lx hm b Q fr' h' q
    | _ => exact q
  | .cond c x y, Q, fr, h, hs => by
    obtain ⟨hg, hs⟩ := hs
    unfold isB at hs
    split at hs
    · rename_i t ht
      intro J a w r
      have re := (ev_sound (a := a) r.heap (fun t' _ => r.tmps t') : VRel J (Own h J) w (ev gl fr c) (a.eval c)).core hg
      rw [ht] at re
      have hc : a.eval c = .bool t := by
        generalize a.eval c = v at re
        cases re
        rfl
      refine wp_cond hc ?_
      cases t with
      | true => exact AWP.of_awpN lx hm x Q fr h (hs.1 rfl) J a w r
      | false => exact AWP.of_awpN lx hm y Q fr h (hs.2 rfl) J a w r
    · exact hs.elim
  | .block id c, Q, fr, h, hs => AWP.block (AWP.of_awpN lx hm c _ fr h hs)
  | .exit id, Q, fr, h, hs => AWP.exit hs
  | .ret, Q, fr, h, hs => AWP.ret hs
  | .region _ ops false, Q, fr, h, hs => AWP.region hs
  | .region id ops true, Q, fr, h, hs => by
    simp only [awpN] at hs
    cases hl : lx id with
    | none => rw [hl] at hs; exact AWP.region_draw hm hs.1 hs.2
    | some r =>
      rw [hl] at hs
      cases r with
      | last z L => exact AWP.region_last z L hm hs.1.1 hs.1.2 hs.2
      | perm ps => exact AWP.region_perm ps hm hs.1 (fun q hq => (permAll_mem hs.2 q hq).1) (fun q hq => (permAll_mem hs.2 q hq).2)
  | .loop c, Q, fr, h, hs => hs
  | .rangeFunc .., _, _, _, hs => hs.elim
  | .scope _, _, _, _, hs => hs.elim
  | .goto _, _, _, _, hs => hs.elim
  | .refuse _, _, _, _, hs => hs.elim

theorem ACalls.bodyN {f : FuncId} (lx : Nat → Option RMode) (fn : Func) (c : Code) {args : List AV} {R : AV → AHeap → Prop} (hm : P.follows .mixedOrders = true) (hf : P.funcs[f]? = some fn) (hb : fn.body = some c) (hname : (fn.name == "runtime.NumGoroutine") = false)
    (hn : args.length ≤ fn.ntmps) (hc : awpN P gl fn.ntmps lx c (rleaves P fn R) (ainit args) h) : ACalls P gl f args h R :=
  ACalls.of_body' hf hb hname hn (AWP.of_awpN lx hm c _ _ _ hc)
theorem AWP.upN {c : Code} {Q : APost} (lx : Nat → Option RMode) (hm : P.follows .mixedOrders = true) (n : Nat) (I : Nat → AFrame → AHeap → Prop) (k : Nat) (hk : k ≤ n) (h0 : I k fr h)
    (round : ∀ k fr h, k ≤ n → I k fr h → awpN P gl N lx c (AThen (fun fr' h' => ∃ k', k < k' ∧ k' ≤ n ∧ I k' fr' h') Q) fr h) : AWP P gl N (.loop c) Q fr h :=
  AWP.loop_up n I k hk h0 fun k fr h h1 h2 => AWP.of_awpN lx hm c _ _ _ (round k fr h h1 h2)
theorem AWP.downN {c : Code} {Q : APost} (lx : Nat → Option RMode) (hm : P.follows .mixedOrders = true) (I : Nat → AFrame → AHeap → Prop) (k : Nat) (h0 : I k fr h)
    (round : ∀ k fr h, I k fr h → awpN P gl N lx c (AThen (fun fr' h' => ∃ k', k' < k ∧ I k' fr' h') Q) fr h) : AWP P gl N (.loop c) Q fr h :=
  AWP.loop I k h0 fun k fr h h2 => AWP.of_awpN lx hm c _ _ _ (round k fr h h2)
end
section
variable {P : Program} {gl : Globs} {N : Nat} {Q : APost} {fr : AFrame} {h : AHeap} {lx : Nat → Option RMode} {ops : Array Oper}
@[simp] theorem awp_skipN : awpN P gl N lx .skip Q fr h ↔ Q .normal fr h := Iff.rfl
@[simp] theorem awp_labelN (l : Nat) : awpN P gl N lx (.label l) Q fr h ↔ Q .normal fr h := Iff.rfl
@[simp] theorem awp_seqN (a b : Code) : awpN P gl N lx (.seq a b) Q fr h ↔ awpN P gl N lx a (AThen (awpN P gl N lx b Q) Q) fr h := Iff.rfl
@[simp] theorem awp_condN (c : Operand) (x y : Code) : awpN P gl N lx (.cond c x y) Q fr h ↔ (ev gl fr c).gd = true ∧ isB (ev gl fr c).core (acond (awpN P gl N lx x Q) (awpN P gl N lx y Q) fr h) := Iff.rfl
@[simp] theorem awp_blockN (id : Nat) (c : Code) : awpN P gl N lx (.block id c) Q fr h ↔ awpN P gl N lx c (ABlock id Q) fr h := Iff.rfl
@[simp] theorem awp_exitN (id : Nat) : awpN P gl N lx (.exit id) Q fr h ↔ Q (.exit id) fr h := Iff.rfl
@[simp] theorem awp_retN : awpN P gl N lx .ret Q fr h ↔ Q .ret fr h := Iff.rfl
@[simp] theorem awp_regionN (id : Nat) : awpN P gl N lx (.region id ops false) Q fr h ↔ aops P gl N false ops ops.toList (Q .normal) fr h := Iff.rfl
@[simp] theorem awp_loopN (c : Code) : awpN P gl N lx (.loop c) Q fr h ↔ AWP P gl N (.loop c) Q fr h := Iff.rfl
@[simp] theorem awp_drawN (id : Nat) (ops : Array Oper) : awpN P gl N lx (.region id ops true) Q fr h ↔ (match lx id with
    | none => drawOk ops = true ∧ aops P gl N true ops ops.toList (Q .normal) fr h
    | some (.last z L) => (sufOk ops z = true ∧ laxOk (preOps ops z) L = true) ∧ aopsT P gl N (preOps ops z) (preOps ops z).toList [] [] (fun frs hs fr h => laxAll P gl N (preOps ops z) L frs hs ∧ aops P gl N false ops (ops.toList.drop z) (Q .normal) fr h) fr h
    | some (.perm ps) => permsOk ops (ps.map (·.1)) = true ∧ permAll P gl N ops (Q .normal) fr h ps) := Iff.rfl
@[simp] theorem permAll_nil {K : AFrame → AHeap → Prop} : permAll P gl N ops K fr h [] ↔ True := Iff.rfl
@[simp] theorem permAll_cons {K : AFrame → AHeap → Prop} (q : List Nat × List (Nat × Nat)) (ps : List (List Nat × List (Nat × Nat))) : permAll P gl N ops K fr h (q :: ps) ↔ (laxOk (permOps ops q.1) q.2 = true ∧ aopsT P gl N (permOps ops q.1) (permOps ops q.1).toList [] [] (fun frs hs fr h => laxAll P gl N (permOps ops q.1) q.2 frs hs ∧ K fr h) fr h) ∧ permAll P gl N ops K fr h ps := Iff.rfl
end
end Go.Abs
