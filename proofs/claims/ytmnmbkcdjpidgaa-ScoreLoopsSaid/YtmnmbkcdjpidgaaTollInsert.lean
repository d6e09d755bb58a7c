/-
  Groups of readings: the order in which the readings come does not matter. No program in sight.
  Readings that are inserted into an ascending list, each once. No program in sight.
  Groups of readings: each reading is in exactly one of them, each transponder has one. No program in sight.
-/
import Derived.Test.YtmnmbkcdjpidgaaTollMerge
set_option linter.unusedVariables false
set_option linter.unusedSimpArgs false

section 

namespace Go.Toll
open Go Go.Abs

theorem sortR_filter {α : Type} {lt : α → α → Bool} (o : SWO lt) (p : α → Bool) (l : List α) : (sortR lt l).filter p = sortR lt (l.filter p) := by
  refine Stab.eq o ⟨List.Pairwise.sublist List.filter_sublist (sortR_srt o l), fun a => ?_⟩
  have h := (sortR_stab o l).2 a
  rw [List.filter_filter, List.filter_filter]
  have e : ∀ z : List α, z.filter (fun x => eqvB lt a x && p x) = (z.filter (eqvB lt a)).filter p := fun z => by
    rw [List.filter_filter]
    exact List.filter_congr fun x _ => Bool.and_comm _ _
  rw [e, e, h]
theorem swo_seen : SWO fun x y => decide (seenCmp x y < 0) := ord3_seen.swo
theorem eqv_seen (a x : TSeen) : eqvB (fun x y => decide (seenCmp x y < 0)) a x = true ↔ x = a := by
  have h1 := ord3_seen.anti a x
  have h2 := ord3_seen.anti x a
  rw [eqvB, Bool.and_eq_true, Bool.not_eq_true', Bool.not_eq_true', decide_eq_false_iff_not, decide_eq_false_iff_not, ← seenCmp_zero x a]
  omega
theorem sortS_perm {l m : List TSeen} (h : l.Perm m) : sortS l = sortS m := by
  refine Srt.uniq swo_seen (sortR_srt swo_seen l) (sortR_srt swo_seen m) fun a => ?_
  refine ((sortR_stab swo_seen l).2 a).trans (Eq.trans ?_ ((sortR_stab swo_seen m).2 a).symm)
  have hp := h.filter (eqvB (fun x y => decide (seenCmp x y < 0)) a)
  have all : ∀ z : List TSeen, z.filter (eqvB (fun x y => decide (seenCmp x y < 0)) a) = List.replicate (z.filter (eqvB (fun x y => decide (seenCmp x y < 0)) a)).length a := fun z =>
    List.eq_replicate_iff.2 ⟨rfl, fun b hb => (eqv_seen a b).1 (List.mem_filter.1 hb).2⟩
  rw [all l, all m, hp.length_eq]
theorem sortS_turn (l : List TSeen) (t : Nat) : sortS (l.drop t ++ l.take t) = sortS l := by
  refine sortS_perm (List.perm_append_comm.trans ?_)
  rw [List.take_append_drop]
theorem sortS_filter (l : List TSeen) (p : TSeen → Bool) : (sortS l).filter p = sortS (l.filter p) := sortR_filter swo_seen p l
theorem mergeG_filter : ∀ (l : List TSeen) (gs : List (List TSeen)), mergeG gs (l.filter groupB) = mergeG gs l
  | [], _ => rfl
  | s :: l, gs => by
    rw [mergeG, List.filter_cons]
    cases h : groupB s
    · simp [mergeG_filter l]
    · simp [mergeG, h, mergeG_filter l]
theorem mergeG_turn (l : List TSeen) (t : Nat) : mergeG [] (sortS (l.drop t ++ l.take t)) = mergeG [] (sortS l) := by rw [sortS_turn]
/-- The other telling sorts what it keeps. -/
theorem mergeG_kept (l : List TSeen) : mergeG [] (sortS (l.filter groupB)) = mergeG [] (sortS l) := by rw [← sortS_filter, mergeG_filter]
end Go.Toll
end

section 

namespace Go.Toll
open Go Go.Abs

def insF (s : TSeen) : List TSeen → Bool → List TSeen → List TSeen
  | out, done, [] => if done = true then out else out ++ [s]
  | out, done, y :: l => insF s ((if done = false ∧ seenCmp s y < 0 then out ++ [s] else out) ++ [y]) (done || decide (seenCmp s y < 0)) l
def insU (l : List TSeen) (s : TSeen) : List TSeen := if s ∈ l then l else insF s [] false l
def insT (s : TSeen) : List TSeen → List TSeen
  | [] => [s]
  | y :: l => if seenCmp s y < 0 then s :: y :: l else y :: insT s l
theorem insF_done (s : TSeen) : ∀ (l out : List TSeen), insF s out true l = out ++ l
  | [], out => by simp [insF]
  | y :: l, out => by simp [insF, insF_done s l]
theorem insF_not (s : TSeen) : ∀ (l out : List TSeen), insF s out false l = out ++ insT s l
  | [], out => by simp [insF, insT]
  | y :: l, out => by
    by_cases h : seenCmp s y < 0
    · simp [insF, insT, h, insF_done]
    · simp [insF, insT, h, insF_not s l]
theorem mem_insT (s x : TSeen) : ∀ l : List TSeen, x ∈ insT s l ↔ x = s ∨ x ∈ l
  | [] => by simp [insT]
  | y :: l => by
    rw [insT]
    split
    · simp
    · rw [List.mem_cons, mem_insT s x l, List.mem_cons]
      constructor
      · rintro (h | h | h)
        · exact .inr (.inl h)
        · exact .inl h
        · exact .inr (.inr h)
      · rintro (h | h | h)
        · exact .inr (.inl h)
        · exact .inl h
        · exact .inr (.inr h)
theorem mem_insU (l : List TSeen) (s x : TSeen) : x ∈ insU l s ↔ x = s ∨ x ∈ l := by
  unfold insU
  split
  · rename_i h
    exact ⟨.inr, fun h1 => h1.elim (fun e => e ▸ h) id⟩
  · rw [insF_not, List.nil_append, mem_insT]
def Asc (l : List TSeen) : Prop := l.Pairwise fun x y => seenCmp x y < 0
theorem asc_insT (s : TSeen) : ∀ l : List TSeen, Asc l → s ∉ l → Asc (insT s l)
  | [], _, _ => by simp [insT, Asc]
  | y :: l, h, hs => by
    obtain ⟨h1, h2⟩ := List.pairwise_cons.1 h
    rw [insT]
    split
    · rename_i hlt
      refine List.pairwise_cons.2 ⟨fun z hz => ?_, h⟩
      rcases List.mem_cons.1 hz with rfl | hz
      · exact hlt
      · have := swo_seen.lt_le (a := s) (b := y) (c := z) (decide_eq_true hlt) (decide_eq_false (by
          have := ord3_seen.anti y z
          have := h1 z hz
          omega))
        exact of_decide_eq_true this
    · rename_i hlt
      have hne : s ≠ y := fun e => hs (e ▸ List.mem_cons_self)
      have hgt : seenCmp y s < 0 := by
        have h3 := ord3_seen.anti s y
        have h5 := ord3_seen.anti y s
        have h4 : seenCmp s y ≠ 0 := fun e => hne ((seenCmp_zero s y).1 e)
        omega
      refine List.pairwise_cons.2 ⟨fun z hz => ?_, asc_insT s l h2 fun e => hs (List.mem_cons_of_mem _ e)⟩
      rcases (mem_insT s z l).1 hz with rfl | hz
      · exact hgt
      · exact h1 z hz
theorem asc_insU (l : List TSeen) (s : TSeen) (h : Asc l) : Asc (insU l s) := by
  unfold insU
  split
  · exact h
  · rename_i hs
    rw [insF_not, List.nil_append]
    exact asc_insT s l h hs
theorem asc_srt {l : List TSeen} (h : Asc l) : Srt (fun x y => decide (seenCmp x y < 0)) l := by
  refine List.Pairwise.imp (fun {a b} hab => ?_) h
  have := ord3_seen.anti a b
  exact decide_eq_false (by omega)
theorem asc_nodup {l : List TSeen} (h : Asc l) : l.Nodup := by
  refine List.Pairwise.imp (fun {a b} hab => ?_) h
  rintro rfl
  have := (seenCmp_zero a a).2 rfl
  omega
theorem asc_uniq {l m : List TSeen} (hl : Asc l) (hm : Asc m) (h : ∀ x, x ∈ l ↔ x ∈ m) : l = m := by
  have hp : l.Perm m := (List.perm_ext_iff_of_nodup (asc_nodup hl) (asc_nodup hm)).2 h
  have e := sortS_perm hp
  rwa [show sortS l = l from sortR_of_srt swo_seen (asc_srt hl), show sortS m = m from sortR_of_srt swo_seen (asc_srt hm)] at e
def insAll (l : List TSeen) (acc : List TSeen) : List TSeen := l.foldl insU acc
theorem mem_insAll (x : TSeen) : ∀ l acc : List TSeen, x ∈ insAll l acc ↔ x ∈ l ∨ x ∈ acc
  | [], acc => by simp [insAll]
  | s :: l, acc => by
    have := mem_insAll x l (insU acc s)
    rw [insAll, List.foldl_cons]
    rw [insAll] at this
    rw [this, mem_insU, List.mem_cons]
    constructor
    · rintro (h | h | h)
      · exact .inl (.inr h)
      · exact .inl (.inl h)
      · exact .inr h
    · rintro ((h | h) | h)
      · exact .inr (.inl h)
      · exact .inl h
      · exact .inr (.inr h)
theorem asc_insAll : ∀ l acc : List TSeen, Asc acc → Asc (insAll l acc)
  | [], acc, h => h
  | s :: l, acc, h => asc_insAll l _ (asc_insU acc s h)
theorem insAll_eq {l m : List TSeen} (h : ∀ x, x ∈ l ↔ x ∈ m) : insAll l [] = insAll m [] :=
  asc_uniq (asc_insAll l [] (by simp [Asc])) (asc_insAll m [] (by simp [Asc])) fun x => by rw [mem_insAll, mem_insAll, h x]

theorem insT_len (s : TSeen) : ∀ l : List TSeen, (insT s l).length = l.length + 1
  | [] => rfl
  | y :: l => by rw [insT]; split <;> simp [insT_len s l]
theorem insU_len (l : List TSeen) (s : TSeen) : (insU l s).length ≤ l.length + 1 := by
  unfold insU
  split
  · omega
  · rw [insF_not, List.nil_append, insT_len]; omega
theorem insAll_len : ∀ l acc : List TSeen, (insAll l acc).length ≤ l.length + acc.length
  | [], acc => by simp [insAll]
  | s :: l, acc => by
    have h1 := insAll_len l (insU acc s)
    have h2 := insU_len acc s
    rw [insAll, List.foldl_cons]
    rw [insAll] at h1
    simp; omega
theorem insAll_append (l m acc : List TSeen) : insAll (l ++ m) acc = insAll m (insAll l acc) := List.foldl_append
theorem insAll_one (acc : List TSeen) (s : TSeen) : insAll [s] acc = insU acc s := rfl

/-! ### The other telling's order -/
/-- A reading is put behind all that it is not before. -/
def putO (o : List TSeen) (s : TSeen) : List TSeen := o.takeWhile (fun y => decide (seenCmp y s ≤ 0)) ++ s :: o.dropWhile (fun y => decide (seenCmp y s ≤ 0))
def wlen (p : TSeen → Bool) (o : List TSeen) : Nat := (o.takeWhile p).length
theorem takeWhile_at {α : Type} (p : α → Bool) : ∀ (l : List α) (k : Nat), k ≤ l.length → (∀ i y, i < k → l[i]? = some y → p y = true) → (∀ y, l[k]? = some y → p y = false) → l.takeWhile p = l.take k ∧ l.dropWhile p = l.drop k
  | [], k, hk, _, _ => by simp
  | a :: l, 0, hk, _, h2 => by
    have := h2 a rfl
    simp [List.takeWhile_cons, List.dropWhile_cons, this]
  | a :: l, k + 1, hk, h1, h2 => by
    have ha := h1 0 a (by omega) rfl
    obtain ⟨e1, e2⟩ := takeWhile_at p l k (by simpa using hk) (fun i y hi hy => h1 (i + 1) y (by omega) (by simpa using hy)) (fun y hy => h2 y (by simpa using hy))
    simp [List.takeWhile_cons, List.dropWhile_cons, ha, e1, e2]
theorem putO_at (o : List TSeen) (s : TSeen) (k : Nat) (hk : k ≤ o.length) (h1 : ∀ i y, i < k → o[i]? = some y → seenCmp y s ≤ 0) (h2 : ∀ y, o[k]? = some y → ¬ seenCmp y s ≤ 0) : putO o s = o.take k ++ s :: o.drop k := by
  obtain ⟨e1, e2⟩ := takeWhile_at (fun y => decide (seenCmp y s ≤ 0)) o k hk (fun i y hi hy => decide_eq_true (h1 i y hi hy)) (fun y hy => decide_eq_false (h2 y hy))
  rw [putO, e1, e2]
theorem putO_insR {o : List TSeen} (s : TSeen) (h : Srt (fun x y => decide (seenCmp x y < 0)) o) : putO o s = insR (fun x y => decide (seenCmp x y < 0)) s o := by
  obtain ⟨h1, h2, h3⟩ := insK_spec swo_seen s o h o.length (Nat.le_refl _)
  rw [insR, putO_at o s _ h1 (fun i y hi hy => ?_) (fun y hy => ?_)]
  · have := of_decide_eq_false (h2 i y hi hy)
    have := ord3_seen.anti s y
    omega
  · have := of_decide_eq_true (h3 _ y (Nat.le_refl _) (List.getElem?_eq_some_iff.1 hy).1 hy)
    have := ord3_seen.anti s y
    omega
def orderF (o : List TSeen) : List TSeen → List TSeen
  | [] => o
  | s :: l => orderF (if groupB s = true then putO o s else o) l
theorem sortS_add (l : List TSeen) (s : TSeen) : sortS (l ++ [s]) = putO (sortS l) s := by
  have := putO_insR s (sortR_srt swo_seen l)
  rw [show sortR (fun x y => decide (seenCmp x y < 0)) l = sortS l from rfl] at this
  rw [this]
  simp [sortS, sortR]
theorem orderF_sort : ∀ (l m : List TSeen), orderF (sortS m) l = sortS (m ++ l.filter groupB)
  | [], m => by simp [orderF]
  | s :: l, m => by
    rw [orderF, List.filter_cons]
    cases h : groupB s
    · rw [if_neg (by simp), orderF_sort l m]; rfl
    · rw [if_pos rfl, if_pos rfl, ← sortS_add, orderF_sort l (m ++ [s])]; simp
theorem orderF_all (l : List TSeen) : orderF [] l = sortS (l.filter groupB) := by
  have := orderF_sort l []
  simpa [sortS, sortR] using this
theorem mem_putO (o : List TSeen) (s x : TSeen) : x ∈ putO o s ↔ x = s ∨ x ∈ o := by
  have : x ∈ o ↔ x ∈ o.takeWhile (fun y => decide (seenCmp y s ≤ 0)) ∨ x ∈ o.dropWhile (fun y => decide (seenCmp y s ≤ 0)) := by
    rw [← List.mem_append, List.takeWhile_append_dropWhile]
  rw [this]
  simp only [putO, List.mem_append, List.mem_cons]
  constructor
  · rintro (h | h | h)
    · exact .inr (.inl h)
    · exact .inl h
    · exact .inr (.inr h)
  · rintro (h | h | h)
    · exact .inr (.inl h)
    · exact .inl h
    · exact .inr (.inr h)
end Go.Toll
end

section 

namespace Go.Toll
open Go Go.Abs

theorem idxP_none (p : Nat → Bool) : ∀ n i, idxP p i n = -1 → ∀ k, i ≤ k → k < i + n → p k = false
  | 0, i, _, k, h1, h2 => by omega
  | n + 1, i, h, k, h1, h2 => by
    rw [idxP] at h
    split at h
    · omega
    · rename_i hp
      by_cases e : k = i
      · subst e; simpa using hp
      · exact idxP_none p n (i + 1) h k (by omega) (by omega)
theorem place_cases (gs : List (List TSeen)) (s : TSeen) :
    (placeG gs s = gs ++ [[s]] ∧ ∀ g ∈ gs, joinsB (headG g) s = false) ∨ ∃ k g, gs[k]? = some g ∧ joinsB (headG g) s = true ∧ placeG gs s = gs.set k (g ++ [s]) := by
  rcases idxP_range (fun i => joinsB (headG (gs.getD i [])) s) gs.length 0 with h | ⟨k, h, _, hk, hp⟩
  · left
    have h' : atG gs s = -1 := h
    refine ⟨by rw [placeG, h', if_pos (by omega)], fun g hg => ?_⟩
    obtain ⟨k, hk⟩ := List.getElem?_of_mem hg
    have hkl := (List.getElem?_eq_some_iff.1 hk).1
    have := idxP_none _ _ _ h k (by omega) (by omega)
    simpa [List.getD_eq_getElem?_getD, hk] using this
  · right
    obtain ⟨g, hg, _⟩ := get_lt (l := gs) (i := k) (by omega)
    have h' : atG gs s = (k : Int) := h
    refine ⟨k, g, hg, by simpa [List.getD_eq_getElem?_getD, hg] using hp, ?_⟩
    rw [placeG, h', if_neg (by omega), Int.toNat_natCast, List.getD_eq_getElem?_getD, hg]; rfl
theorem flat_set : ∀ (gs : List (List TSeen)) (k : Nat) (g : List TSeen) (s : TSeen), gs[k]? = some g → (gs.set k (g ++ [s])).flatten.Perm (gs.flatten ++ [s])
  | [], k, g, s, h => by simp at h
  | a :: gs, 0, g, s, h => by
    simp at h; subst h
    simp only [List.set_cons_zero, List.flatten_cons, List.append_assoc]
    exact List.Perm.append_left a List.perm_append_comm
  | a :: gs, k + 1, g, s, h => by
    simp only [List.set_cons_succ, List.flatten_cons, List.append_assoc]
    exact List.Perm.append_left a (flat_set gs k g s (by simpa using h))
theorem flat_place (gs : List (List TSeen)) (s : TSeen) : (placeG gs s).flatten.Perm (gs.flatten ++ [s]) := by
  rcases place_cases gs s with ⟨h, _⟩ | ⟨k, g, hg, _, h⟩
  · rw [h]; simp
  · rw [h]; exact flat_set gs k g s hg
theorem flat_merge : ∀ (l : List TSeen) (gs : List (List TSeen)), (mergeG gs l).flatten.Perm (gs.flatten ++ l.filter groupB)
  | [], gs => by simp [mergeG]
  | s :: l, gs => by
    rw [mergeG, List.filter_cons]
    cases h : groupB s
    · simpa using flat_merge l gs
    · rw [if_pos rfl, if_pos rfl]
      refine (flat_merge l _).trans ?_
      have := (flat_place gs s).append_right (l.filter groupB)
      simpa using this
/-- What a list of groups keeps. -/
structure GOk2 (gs : List (List TSeen)) : Prop where
  each : ∀ g ∈ gs, g ≠ [] ∧ ∀ s ∈ g, groupB s = true ∧ s.kind = (headG g).kind ∧ (s.kind = 1 → s.tag = (headG g).tag)
  apart : gs.Pairwise fun a b => (headG a).kind = 1 → (headG b).kind = 1 → (headG a).tag ≠ (headG b).tag
theorem head_add (g : List TSeen) (s : TSeen) (h : g ≠ []) : headG (g ++ [s]) = headG g := by
  cases g with
  | nil => exact absurd rfl h
  | cons a g => rfl
theorem pairwise_set {α : Type} {R : α → α → Prop} : ∀ (l : List α) (k : Nat) (a b : α), l[k]? = some a → (∀ x, R x a → R x b) → (∀ x, R a x → R b x) → l.Pairwise R → (l.set k b).Pairwise R
  | [], k, a, b, h, _, _, _ => by simp at h
  | c :: l, 0, a, b, h, h1, h2, hp => by
    simp at h; subst h
    obtain ⟨p1, p2⟩ := List.pairwise_cons.1 hp
    exact List.pairwise_cons.2 ⟨fun x hx => h2 x (p1 x hx), p2⟩
  | c :: l, k + 1, a, b, h, h1, h2, hp => by
    obtain ⟨p1, p2⟩ := List.pairwise_cons.1 hp
    refine List.pairwise_cons.2 ⟨fun x hx => ?_, pairwise_set l k a b (by simpa using h) h1 h2 p2⟩
    rcases List.mem_or_eq_of_mem_set hx with hx | hx
    · exact p1 x hx
    · subst hx
      exact h1 c (p1 a (List.mem_of_getElem? (by simpa using h)))
theorem GOk2.place {gs : List (List TSeen)} (q : GOk2 gs) (s : TSeen) (hs : groupB s = true) : GOk2 (placeG gs s) := by
  rcases place_cases gs s with ⟨h, hn⟩ | ⟨k, g, hg, hj, h⟩
  · rw [h]
    refine ⟨fun g hg => ?_, List.pairwise_append.2 ⟨q.apart, by simp, fun a ha b hb h1 h2 => ?_⟩⟩
    · rcases List.mem_append.1 hg with hg | hg
      · exact q.each g hg
      · obtain rfl := List.mem_singleton.1 hg
        refine ⟨by simp, fun t ht => ?_⟩
        obtain rfl := List.mem_singleton.1 ht
        exact ⟨hs, rfl, fun _ => rfl⟩
    · obtain rfl := List.mem_singleton.1 hb
      have := hn a ha
      have h2 : s.kind = 1 := h2
      rw [joinsB, if_neg (by simp [h1, h2]), if_pos h2] at this
      exact of_decide_eq_false this
  · rw [h]
    have hgo := q.each g (List.mem_of_getElem? hg)
    have hh := head_add g s hgo.1
    refine ⟨fun g' hg' => ?_, pairwise_set gs k g (g ++ [s]) hg (fun x hx => by rw [hh]; exact hx) (fun x hx => by rw [hh]; exact hx) q.apart⟩
    rcases List.mem_or_eq_of_mem_set hg' with hg' | hg'
    · exact q.each g' hg'
    · subst hg'
      rw [hh]
      refine ⟨by simp, fun t ht => ?_⟩
      rcases List.mem_append.1 ht with ht | ht
      · exact hgo.2 t ht
      · obtain rfl := List.mem_singleton.1 ht
        rw [joinsB] at hj
        split at hj
        · cases hj
        · rename_i hk
          have hk : (headG g).kind = t.kind := Decidable.not_not.1 hk
          refine ⟨hs, hk.symm, fun h1 => ?_⟩
          rw [if_pos h1] at hj
          exact (of_decide_eq_true hj).symm
theorem GOk2.merge : ∀ (l : List TSeen) (gs : List (List TSeen)), GOk2 gs → GOk2 (mergeG gs l)
  | [], gs, h => h
  | s :: l, gs, h => by
    rw [mergeG]
    split
    · rename_i hs; exact GOk2.merge l _ (h.place s hs)
    · exact GOk2.merge l _ h
theorem merge_ok (l : List TSeen) : GOk2 (mergeG [] l) := GOk2.merge l [] ⟨by simp, by simp⟩
theorem mem_groups {l : List TSeen} {g : List TSeen} {s : TSeen} (hg : g ∈ mergeG [] (sortS l)) (hs : s ∈ g) : s ∈ l := by
  have h1 : s ∈ (mergeG [] (sortS l)).flatten := List.mem_flatten.2 ⟨g, hg, hs⟩
  have h2 := (flat_merge (sortS l) []).mem_iff.1 h1
  simp only [List.flatten_nil, List.nil_append] at h2
  exact (mem_sortR _).1 (List.mem_filter.1 h2).1
theorem len_groups (l : List TSeen) : (mergeG [] (sortS l)).length ≤ l.length ∧ ∀ g ∈ mergeG [] (sortS l), g.length ≤ l.length := by
  have h1 := (flat_merge (sortS l) []).length_eq
  simp only [List.flatten_nil, List.nil_append] at h1
  have h2 := List.length_filter_le groupB (sortS l)
  rw [sortS_len] at h2
  have h3 : ∀ gs : List (List TSeen), (∀ g ∈ gs, g ≠ []) → gs.length ≤ gs.flatten.length ∧ ∀ g ∈ gs, g.length ≤ gs.flatten.length := by
    intro gs
    induction gs with
    | nil => simp
    | cons a gs ih =>
      intro h
      obtain ⟨i1, i2⟩ := ih fun g hg => h g (List.mem_cons_of_mem _ hg)
      have ha : 0 < a.length := List.length_pos_iff.2 (h a List.mem_cons_self)
      simp only [List.flatten_cons, List.length_append, List.length_cons]
      refine ⟨by omega, fun g hg => ?_⟩
      rcases List.mem_cons.1 hg with rfl | hg
      · omega
      · have := i2 g hg; omega
  obtain ⟨h4, h5⟩ := h3 _ fun g hg => ((merge_ok (sortS l)).each g hg).1
  exact ⟨by omega, fun g hg => by have := h5 g hg; omega⟩
/-- What was told of all the groups is told of the kept readings. -/
theorem ins_groups (l : List TSeen) : insAll (mergeG [] (sortS l)).flatten [] = insAll (l.filter groupB) [] := by
  refine insAll_eq fun x => ?_
  have h2 := (flat_merge (sortS l) []).mem_iff (a := x)
  simp only [List.flatten_nil, List.nil_append] at h2
  rw [h2, List.mem_filter, List.mem_filter]
  exact and_congr_left fun _ => mem_sortR _
end Go.Toll
end
