/-
  The accounts of a ledger: sorted keys, and texts that are inserted one by one.
-/
import Derived.Test.YtmdenljmfeejfaaAbsKeys
import Derived.Test.YtmdenljmfeejfaaTollLedger
import Derived.Test.YtmdenljmfeejfaaTollText
set_option linter.unusedVariables false
set_option linter.unusedSimpArgs false
namespace Go.Toll
open Go Go.Abs

def accS (out : List Bytes) (p : TPo) : List Bytes := if p.account ∈ out then out else insT p.account out
def accF (out : List Bytes) (l : List TPo) : List Bytes := l.foldl accS out
theorem accF_nil (out : List Bytes) : accF out [] = out := rfl
theorem accF_cons (out : List Bytes) (p : TPo) (l : List TPo) : accF out (p :: l) = accF (accS out p) l := rfl
theorem accS_len (out : List Bytes) (p : TPo) : (accS out p).length ≤ out.length + 1 := by
  rw [accS]; split
  · omega
  · rw [insT_len]; omega
theorem accF_all : ∀ (l : List TPo) (out : List Bytes), ascT out → out.Nodup → ascT (accF out l) ∧ (accF out l).Nodup ∧ ∀ a, a ∈ accF out l ↔ a ∈ out ∨ a ∈ l.map (·.account)
  | [], out, h1, h2 => ⟨h1, h2, by simp [accF_nil]⟩
  | p :: l, out, h1, h2 => by
    rw [accF_cons]
    by_cases hp : p.account ∈ out
    · rw [accS, if_pos hp]
      obtain ⟨i1, i2, i3⟩ := accF_all l out h1 h2
      refine ⟨i1, i2, fun a => (i3 a).trans ?_⟩
      rw [List.map_cons, List.mem_cons]
      constructor
      · rintro (h | h)
        · exact .inl h
        · exact .inr (.inr h)
      · rintro (h | rfl | h)
        · exact .inl h
        · exact .inl hp
        · exact .inr h
    · rw [accS, if_neg hp]
      have hn : (insT p.account out).Nodup := (insT_perm _ _).nodup_iff.2 (List.nodup_cons.2 ⟨hp, h2⟩)
      obtain ⟨i1, i2, i3⟩ := accF_all l _ (insT_asc _ _ h1) hn
      refine ⟨i1, i2, fun a => (i3 a).trans ?_⟩
      rw [(insT_perm _ _).mem_iff, List.mem_cons, List.map_cons, List.mem_cons]
      constructor
      · rintro ((h | h) | h)
        · exact .inr (.inl h)
        · exact .inl h
        · exact .inr (.inr h)
      · rintro (h | h | h)
        · exact .inl (.inr h)
        · exact .inl (.inl h)
        · exact .inr h
/-- All accounts of some posts. -/
def accL (l : List TPo) : List Bytes := sortT ((balM l).map (·.1))
theorem balM_nodup (l : List TPo) : ((balM l).map (·.1)).Nodup := balF_nodup l [] (by simp)
theorem accL_eq (l : List TPo) : accL l = accF [] l := by
  obtain ⟨i1, i2, i3⟩ := accF_all l [] (by simp [ascT]) (by simp)
  have hp : ((balM l).map (·.1)).Perm (accF [] l) := (List.perm_ext_iff_of_nodup (balM_nodup l) i2).2 fun a => by
    rw [balM_mem, i3]; simp
  rw [accL, sortT_perm hp]
  exact List.mergeSort_of_pairwise i1
theorem accL_perm (l : List TPo) : (accL l).Perm ((balM l).map (·.1)) := List.mergeSort_perm _ _
theorem accL_mem (l : List TPo) (a : Bytes) : a ∈ accL l ↔ a ∈ l.map (·.account) := by rw [(accL_perm l).mem_iff, balM_mem]
theorem accL_nodup (l : List TPo) : (accL l).Nodup := (accL_perm l).nodup_iff.2 (balM_nodup l)
theorem accL_len (l : List TPo) : (accL l).length ≤ l.length := by
  rw [(accL_perm l).length_eq, List.length_map]
  have := balM_len l []
  simpa [balM] using this
/-- Posts with the same accounts give the same list. -/
theorem accL_of_mem {l m : List TPo} (h : ∀ a, a ∈ l.map (·.account) ↔ a ∈ m.map (·.account)) : accL l = accL m := by
  refine sortT_perm ((List.perm_ext_iff_of_nodup (balM_nodup l) (balM_nodup m)).2 fun a => ?_)
  rw [balM_mem, balM_mem, h]
theorem postsErr_fits : ∀ (l : List TPo) (s : Int), postsErr s l = 0 → ∀ p ∈ l, fitsB p.cents = true
  | [], _, _, p, hp => by cases hp
  | q :: l, s, h, p, hp => by
    rw [postsErr] at h
    split at h
    · omega
    · split at h
      · omega
      · split at h
        · omega
        · rename_i h3
          rcases List.mem_cons.1 hp with rfl | hp
          · simpa using h3
          · exact postsErr_fits l _ h p hp
theorem enErr_fits {e : TEn} (h : enErr e = 0) : ∀ p ∈ e.posts, fitsB p.cents = true := by
  unfold enErr at h
  repeat' split at h
  all_goals first | omega | exact postsErr_fits _ _ h
theorem getS_of_mem {m : List (Bytes × Int)} (hnd : (m.map (·.1)).Nodup) {q : Bytes × Int} (hq : q ∈ m) : getS m q.1 = some q.2 := by
  induction m with
  | nil => cases hq
  | cons p m ih =>
    rw [List.map_cons, List.nodup_cons] at hnd
    rcases List.mem_cons.1 hq with rfl | hq
    · simp [getS]
    · have hne : ¬ q.1 = p.1 := fun e => hnd.1 (e ▸ List.mem_map_of_mem hq)
      have : getS (p :: m) q.1 = getS m q.1 := by simp [getS, hne]
      rw [this, ih hnd.2 hq]
theorem balI_snoc (l : List TEn) (e : TEn) (a : Bytes) : balI (l ++ [e]) a = balI l a + poI a e.posts := by
  rw [balI, allP_append, poI_append, balI]; simp
theorem over_eq (l : List TEn) (e : TEn) : e.posts.any (fun p => !fitsB (balI (l ++ [e]) p.account)) = (balM e.posts).any fun q => !fitsB (balI l q.1 + q.2) := by
  rw [Bool.eq_iff_iff, List.any_eq_true, List.any_eq_true]
  constructor
  · rintro ⟨p, hp, h⟩
    obtain ⟨q, hq, e2⟩ := List.mem_map.1 ((balM_mem e.posts p.account).2 (List.mem_map_of_mem hp))
    refine ⟨q, hq, ?_⟩
    have h1 := balM_get e.posts q.1
    rw [getS_of_mem (balM_nodup _) hq, Option.getD_some, e2] at h1
    rw [balI_snoc, ← h1, ← e2] at h
    exact h
  · rintro ⟨q, hq, h⟩
    obtain ⟨p, hp, e2⟩ := List.mem_map.1 ((balM_mem e.posts q.1).1 (List.mem_map_of_mem hq))
    refine ⟨p, hp, ?_⟩
    have h1 := balM_get e.posts q.1
    rw [getS_of_mem (balM_nodup _) hq, Option.getD_some] at h1
    rw [balI_snoc, e2, ← h1]
    exact h
/-! ### Ledgers that are built -/
theorem small2_all {e : TEn} (h : small2 e = true) : e.posts.length ≤ 40 ∧ e.key.length ≤ 100 ∧ ∀ p ∈ e.posts, p.account.length ≤ 100 := by
  simpa [small2, and_assoc] using h
theorem small2_okS {e : TEn} (h : small2 e = true) : e.okS := by
  obtain ⟨_, h2, h3⟩ := small2_all h
  exact ⟨by omega, fun p hp => by have := h3 p hp; omega⟩
structure okB (l : List TEn) (n : Nat) : Prop where
  len : l.length ≤ n
  each : ∀ e ∈ l, small2 e = true ∧ enErr e = 0
theorem okB.nil : okB [] 0 := ⟨by simp, by simp⟩
theorem okB.mono {l : List TEn} {n m : Nat} (h : okB l n) (hm : n ≤ m) : okB l m := ⟨Nat.le_trans h.len hm, h.each⟩
theorem okB.okl {l : List TEn} {n : Nat} (h : okB l n) (hn : n ≤ 50) : okL l :=
  ⟨by have := h.len; omega, fun e he => ⟨(small2_all (h.each e he).1).1, enErr_fits (h.each e he).2⟩⟩
theorem okB.push {l : List TEn} {n : Nat} (h : okB l n) (hn : n ≤ 49) (k : Bytes) (t : Int) : okL (l ++ [⟨k, t, []⟩]) := by
  have h1 := h.okl (by omega)
  refine ⟨by have := h.len; simp; omega, fun e he => ?_⟩
  rcases List.mem_append.1 he with he | he
  · exact h1.2 e he
  · rw [List.mem_singleton.1 he]; simp
theorem okB.texts {l : List TEn} {n : Nat} (h : okB l n) : ∀ p ∈ allP l, p.account.length ≤ 1000000 := fun p hp => by
  obtain ⟨e, he, hp⟩ := List.mem_flatMap.1 hp
  have := (small2_all (h.each e he).1).2.2 p hp
  omega
theorem okB.posts {l : List TEn} {n : Nat} (h : okB l n) : ∀ e ∈ l, e.posts.length ≤ 1000000 := fun e he => by
  have := (small2_all (h.each e he).1).1
  omega
theorem okB.post {l : List TEn} {n : Nat} (h : okB l n) {e : TEn} (he : small2 e = true) : okB (postR l e).1 (n + 1) := by
  unfold postR
  split
  · exact h.mono (by omega)
  · split
    · exact h.mono (by omega)
    · split
      · exact h.mono (by omega)
      · rename_i h1 _ _
        refine ⟨by have := h.len; simp; omega, fun x hx => ?_⟩
        rcases List.mem_append.1 hx with hx | hx
        · exact h.each x hx
        · rw [List.mem_singleton.1 hx]; exact ⟨he, by simpa using h1⟩
theorem okB.until {l : List TEn} {n : Nat} (h : okB l n) (t : Int) : okB (untilL t l) n :=
  ⟨Nat.le_trans (List.length_filter_le _ _) h.len, fun e he => h.each e (List.mem_filter.1 he).1⟩
def pstF : List TEn → List TEn → List TEn
  | o, [] => o
  | o, e :: l => pstF (postR o e).1 l
def bldF : List TEn → List TEn → List TEn × Bool
  | o, [] => (o, true)
  | o, e :: l => if small2 e = false then (o, false) else bldF (postR o e).1 l
def bldL (l : List TEn) : List TEn × Bool := if 40 < l.length then ([], false) else bldF [] l
theorem bldF_ok : ∀ (l o : List TEn), (bldF o l).2 = true → (∀ e ∈ l, small2 e = true) ∧ (bldF o l).1 = pstF o l
  | [], o, _ => ⟨by simp, rfl⟩
  | e :: l, o, h => by
    rw [bldF] at h ⊢
    split at h
    · cases h
    · rename_i h1
      have h1 : small2 e = true := by simpa using h1
      obtain ⟨i1, i2⟩ := bldF_ok l _ h
      rw [if_neg (by simp [h1]), i2]
      exact ⟨fun x hx => by rcases List.mem_cons.1 hx with rfl | hx; exact h1; exact i1 x hx, rfl⟩
theorem bldL_ok {l : List TEn} (h : (bldL l).2 = true) : l.length ≤ 40 ∧ (∀ e ∈ l, small2 e = true) ∧ (bldL l).1 = pstF [] l := by
  unfold bldL at h ⊢
  split at h
  · cases h
  · rename_i h1
    obtain ⟨i1, i2⟩ := bldF_ok l _ h
    rw [if_neg h1]
    exact ⟨by omega, i1, i2⟩
theorem pstF_okB : ∀ (l o : List TEn) (n : Nat), okB o n → (∀ e ∈ l, small2 e = true) → okB (pstF o l) (n + l.length)
  | [], o, n, h, _ => h
  | e :: l, o, n, h, hl => by
    rw [pstF]
    exact (pstF_okB l _ (n + 1) (h.post (hl e List.mem_cons_self)) fun x hx => hl x (List.mem_cons_of_mem _ hx)).mono (by simp; omega)

/-! ### Sums -/
def tot : List TPo → Int
  | [] => 0
  | p :: l => p.cents + tot l
theorem tot_append : ∀ l m : List TPo, tot (l ++ m) = tot l + tot m
  | [], m => by simp [tot]
  | p :: l, m => by rw [List.cons_append, tot, tot, tot_append l m]; omega
theorem postsErr_tot : ∀ (l : List TPo) (s : Int), postsErr s l = 0 → s + tot l = 0
  | [], s, h => by
    rw [postsErr] at h
    split at h
    · rw [tot]; omega
    · omega
  | q :: l, s, h => by
    rw [postsErr] at h
    split at h
    · omega
    · split at h
      · omega
      · split at h
        · omega
        · have := postsErr_tot l _ h
          rw [tot]; omega
theorem enErr_tot {e : TEn} (h : enErr e = 0) : tot e.posts = 0 := by
  have : postsErr 0 e.posts = 0 := by
    unfold enErr at h
    repeat' split at h
    all_goals first | omega | exact h
  have := postsErr_tot _ _ this
  omega
theorem okB.total {n : Nat} : ∀ {l : List TEn}, okB l n → tot (allP l) = 0
  | [], _ => rfl
  | e :: l, h => by
    rw [allP_cons, tot_append, enErr_tot (h.each e List.mem_cons_self).2, okB.total (n := n) ⟨by have := h.len; simp at this; omega, fun x hx => h.each x (List.mem_cons_of_mem _ hx)⟩]
    rfl
theorem tr_tot : ∀ l : List TPo, trD l = trC l + tot l
  | [] => rfl
  | p :: l => by
    rw [trD, trC, tot, tr_tot l]
    omega
def sumIn (A : List Bytes) : List TPo → Int
  | [] => 0
  | p :: l => (if p.account ∈ A then p.cents else 0) + sumIn A l
def sumA (l : List TPo) : List Bytes → Int
  | [] => 0
  | a :: A => poI a l + sumA l A
theorem sumA_snoc (l : List TPo) (a : Bytes) : ∀ A : List Bytes, sumA l (A ++ [a]) = sumA l A + poI a l
  | [] => by simp [sumA]
  | b :: A => by rw [List.cons_append, sumA, sumA, sumA_snoc l a A]; omega
theorem sumA_nil (A : List Bytes) : sumA [] A = 0 := by
  induction A with
  | nil => rfl
  | cons a A ih => rw [sumA, ih, poI]; rfl
theorem sumA_cons (p : TPo) (l : List TPo) : ∀ A : List Bytes, A.Nodup → sumA (p :: l) A = (if p.account ∈ A then p.cents else 0) + sumA l A
  | [], _ => by simp [sumA]
  | a :: A, h => by
    obtain ⟨h1, h2⟩ := List.nodup_cons.1 h
    rw [sumA, sumA, sumA_cons p l A h2, poI]
    by_cases e : p.account = a
    · subst e
      rw [if_pos rfl, if_neg h1, if_pos List.mem_cons_self]; omega
    · rw [if_neg e]
      by_cases e2 : p.account ∈ A
      · rw [if_pos e2, if_pos (List.mem_cons_of_mem _ e2)]; omega
      · rw [if_neg e2, if_neg (by rw [List.mem_cons]; rintro (x | x); exact e x; exact e2 x)]; omega
theorem sumA_eq : ∀ (l : List TPo) (A : List Bytes), A.Nodup → sumA l A = sumIn A l
  | [], A, _ => by rw [sumA_nil, sumIn]
  | p :: l, A, h => by rw [sumA_cons p l A h, sumA_eq l A h, sumIn]
theorem sumIn_range (A : List Bytes) : ∀ l : List TPo, (∀ p ∈ l, fitsB p.cents = true) → -(l.length : Int) * 1125899906842624 ≤ sumIn A l ∧ sumIn A l ≤ (l.length : Int) * 1125899906842624
  | [], _ => by simp [sumIn]
  | p :: l, h => by
    obtain ⟨h1, h2⟩ := sumIn_range A l fun q hq => h q (List.mem_cons_of_mem _ hq)
    have h3 := fits_range (h p List.mem_cons_self)
    rw [sumIn]
    simp only [List.length_cons]
    push_cast
    split <;> omega
theorem sumIn_all (A : List Bytes) : ∀ l : List TPo, (∀ p ∈ l, p.account ∈ A) → sumIn A l = tot l
  | [], _ => rfl
  | p :: l, h => by
    rw [sumIn, tot, if_pos (h p List.mem_cons_self), sumIn_all A l fun q hq => h q (List.mem_cons_of_mem _ hq)]
theorem sumA_accL (l : List TPo) : sumA l (accL l) = tot l := by
  rw [sumA_eq _ _ (accL_nodup l)]
  exact sumIn_all _ _ fun p hp => (accL_mem l _).2 (List.mem_map_of_mem hp)
end Go.Toll
