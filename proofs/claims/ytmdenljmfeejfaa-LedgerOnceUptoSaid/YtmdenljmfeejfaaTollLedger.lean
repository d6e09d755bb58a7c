/-
  A ledger: entries, posts, their errors, balances. No program in sight.
-/
import Derived.Test.YtmdenljmfeejfaaTollBase
import Derived.Test.YtmdenljmfeejfaaAbsList
set_option linter.unusedVariables false
set_option linter.unusedSimpArgs false
namespace Go.Toll
open Go Go.Abs

structure TPo where
  account : Bytes
  cents : Int
deriving DecidableEq
structure TEn where
  key : Bytes
  time : Int
  posts : List TPo
deriving DecidableEq
def encPo (p : TPo) : List AV := [.str p.account, .int .i64 p.cents]
def encEn (e : TEn) : List AV := [.str e.key, .int .i64 e.time, .ro (e.posts.map encPo)]
def encLg (l : List TEn) : List AV := [.ro (l.map encEn)]
@[simp] theorem encPo_eq (p : TPo) : encPo p = [.str p.account, .int .i64 p.cents] := rfl
@[simp] theorem encEn_eq (e : TEn) : encEn e = [.str e.key, .int .i64 e.time, .ro (e.posts.map encPo)] := rfl
@[simp] theorem encLg_eq (l : List TEn) : encLg l = [.ro (l.map encEn)] := rfl
@[simp] theorem encPo_len (p : TPo) : (encPo p).length = 2 := rfl
@[simp] theorem encEn_len (e : TEn) : (encEn e).length = 3 := rfl

def charB (c : UInt8) : Bool := decide (33 ≤ c.toNat) && decide (c.toNat ≤ 126)
def fieldB (s : Bytes) : Bool := s.all charB && !s.isEmpty
def fitsB (n : Int) : Bool := decide (-1125899906842624 ≤ n) && decide (n ≤ 1125899906842624)
theorem fits_range {n : Int} (h : fitsB n = true) : -1125899906842624 ≤ n ∧ n ≤ 1125899906842624 := by simpa [fitsB] using h
def postsErr (sum : Int) : List TPo → Int
  | [] => if sum = 0 then 0 else 26
  | p :: l => if fieldB p.account = false then 5 else if p.cents = 0 then 14 else if fitsB p.cents = false then 13 else postsErr (sum + p.cents) l
def enErr (e : TEn) : Int := if fieldB e.key = false then 5 else if e.time < 0 ∨ 68719476736 < e.time then 12 else if e.posts.length = 0 then 1 else if 1024 < e.posts.length then 3 else postsErr 0 e.posts
theorem postsErr_range : ∀ (l : List TPo) (s : Int), 0 ≤ postsErr s l ∧ postsErr s l ≤ 26
  | [], s => by rw [postsErr]; split <;> omega
  | p :: l, s => by
    rw [postsErr]
    have := postsErr_range l (s + p.cents)
    split
    · omega
    · split
      · omega
      · split <;> omega
/-- Texts of a length that a walk may go through. -/
def TEn.okS (e : TEn) : Prop := e.key.length ≤ 1000000 ∧ ∀ p ∈ e.posts, p.account.length ≤ 1000000
def findE (k : Bytes) : List TEn → Option TEn
  | [] => none
  | e :: l => if e.key = k then some e else findE k l
def en0 : TEn := ⟨[], 0, []⟩
def small2 (e : TEn) : Bool := decide (e.posts.length ≤ 40) && decide (e.key.length ≤ 100) && e.posts.all fun p => decide (p.account.length ≤ 100)

/-! ### Balances -/
def allP (l : List TEn) : List TPo := l.flatMap (·.posts)
@[simp] theorem allP_nil : allP [] = [] := rfl
@[simp] theorem allP_cons (e : TEn) (l : List TEn) : allP (e :: l) = e.posts ++ allP l := rfl
theorem allP_append (l m : List TEn) : allP (l ++ m) = allP l ++ allP m := by simp [allP]
def poI (a : Bytes) : List TPo → Int
  | [] => 0
  | p :: l => (if p.account = a then p.cents else 0) + poI a l
theorem poI_append (a : Bytes) : ∀ l m : List TPo, poI a (l ++ m) = poI a l + poI a m
  | [], m => by simp [poI]
  | p :: l, m => by rw [List.cons_append, poI, poI, poI_append a l m]; omega
def balI (l : List TEn) (a : Bytes) : Int := poI a (allP l)
def trD : List TPo → Int
  | [] => 0
  | p :: l => max p.cents 0 + trD l
def trC : List TPo → Int
  | [] => 0
  | p :: l => max (-p.cents) 0 + trC l
def encZ (n : Int) : AV := .int .i64 n
@[simp] theorem encZ_eq (n : Int) : encZ n = .int .i64 n := rfl
def balS (m : List (Bytes × Int)) (p : TPo) : List (Bytes × Int) := putS m p.account ((getS m p.account).getD 0 + p.cents)
def balF (m : List (Bytes × Int)) (l : List TPo) : List (Bytes × Int) := l.foldl balS m
def balM (l : List TPo) : List (Bytes × Int) := balF [] l
theorem balF_nil (m : List (Bytes × Int)) : balF m [] = m := rfl
theorem balF_cons (m : List (Bytes × Int)) (p : TPo) (l : List TPo) : balF m (p :: l) = balF (balS m p) l := rfl
theorem getS_none {m : List (Bytes × Int)} {a : Bytes} : getS m a = none ↔ a ∉ m.map (·.1) := by
  induction m with
  | nil => simp [getS]
  | cons p m ih =>
    by_cases h : a = p.1
    · subst h; simp [getS]
    · have : getS (p :: m) a = getS m a := by simp [getS, h]
      rw [this, ih]
      simp [h]
theorem putS_keys (m : List (Bytes × Int)) (a : Bytes) (v : Int) : (putS m a v).map (·.1) = if a ∈ m.map (·.1) then m.map (·.1) else m.map (·.1) ++ [a] := by
  induction m with
  | nil => simp [putS]
  | cons p m ih =>
    rw [putS]
    by_cases h : a = p.1
    · subst h; simp
    · rw [if_neg (by simpa using h), List.map_cons, ih]
      by_cases h2 : a ∈ m.map (·.1)
      · rw [if_pos h2, if_pos (by rw [List.map_cons]; exact List.mem_cons_of_mem _ h2)]; rfl
      · rw [if_neg h2, if_neg (by rw [List.map_cons, List.mem_cons]; rintro (e | e); exact h e; exact h2 e)]; rfl
theorem balF_nodup : ∀ (l : List TPo) (m : List (Bytes × Int)), (m.map (·.1)).Nodup → ((balF m l).map (·.1)).Nodup
  | [], m, h => h
  | p :: l, m, h => by
    rw [balF_cons]
    refine balF_nodup l _ ?_
    rw [balS, putS_keys]
    split
    · exact h
    · rename_i hn
      exact List.nodup_append.2 ⟨h, by simp, fun a ha b hb => by rw [List.mem_singleton.1 hb]; rintro rfl; exact hn ha⟩
theorem balF_get : ∀ (l : List TPo) (m : List (Bytes × Int)) (a : Bytes), (getS (balF m l) a).getD 0 = (getS m a).getD 0 + poI a l
  | [], m, a => by simp [balF_nil, poI]
  | p :: l, m, a => by
    rw [balF_cons, balF_get l, poI, balS, getS_putS]
    by_cases h : a = p.account
    · subst h; simp; omega
    · rw [if_neg h, if_neg (fun e => h e.symm)]; omega
theorem balF_mem : ∀ (l : List TPo) (m : List (Bytes × Int)) (a : Bytes), a ∈ (balF m l).map (·.1) ↔ a ∈ m.map (·.1) ∨ a ∈ l.map (·.account)
  | [], m, a => by simp [balF_nil]
  | p :: l, m, a => by
    rw [balF_cons, balF_mem l, balS, putS_keys, List.map_cons, List.mem_cons]
    split
    · rename_i h
      constructor
      · rintro (h1 | h1)
        · exact .inl h1
        · exact .inr (.inr h1)
      · rintro (h1 | rfl | h1)
        · exact .inl h1
        · exact .inl h
        · exact .inr h1
    · rw [List.mem_append, List.mem_singleton]
      constructor
      · rintro ((h1 | h1) | h1)
        · exact .inl h1
        · exact .inr (.inl h1)
        · exact .inr (.inr h1)
      · rintro (h1 | h1 | h1)
        · exact .inl (.inl h1)
        · exact .inl (.inr h1)
        · exact .inr h1
theorem balM_get (l : List TPo) (a : Bytes) : (getS (balM l) a).getD 0 = poI a l := by
  rw [balM, balF_get]; simp [getS]
theorem balM_mem (l : List TPo) (a : Bytes) : a ∈ (balM l).map (·.1) ↔ a ∈ l.map (·.account) := by
  rw [balM, balF_mem]; simp
theorem balM_len : ∀ (l : List TPo) (m : List (Bytes × Int)), (balF m l).length ≤ m.length + l.length
  | [], m => by simp [balF_nil]
  | p :: l, m => by
    rw [balF_cons]
    have h1 := balM_len l (balS m p)
    have h2 := putS_len m p.account ((getS m p.account).getD 0 + p.cents)
    rw [balS] at h1 ⊢
    simp; omega
/-- A ledger of a size whose sums fit. -/
def okL (l : List TEn) : Prop := l.length ≤ 50 ∧ ∀ e ∈ l, e.posts.length ≤ 40 ∧ ∀ p ∈ e.posts, fitsB p.cents = true
theorem okL_posts {l : List TEn} (h : okL l) : (allP l).length ≤ 2000 ∧ ∀ p ∈ allP l, fitsB p.cents = true := by
  obtain ⟨h1, h2⟩ := h
  have key : ∀ l : List TEn, (∀ e ∈ l, e.posts.length ≤ 40 ∧ ∀ p ∈ e.posts, fitsB p.cents = true) → (allP l).length ≤ l.length * 40 ∧ ∀ p ∈ allP l, fitsB p.cents = true := by
    intro l
    induction l with
    | nil => simp
    | cons e l ih =>
      intro h
      obtain ⟨i1, i2⟩ := ih fun x hx => h x (List.mem_cons_of_mem _ hx)
      obtain ⟨j1, j2⟩ := h e List.mem_cons_self
      refine ⟨by simp; omega, fun p hp => ?_⟩
      rw [allP_cons, List.mem_append] at hp
      exact hp.elim (j2 p) (i2 p)
  obtain ⟨k1, k2⟩ := key l h2
  exact ⟨by omega, k2⟩
theorem poI_range (a : Bytes) : ∀ l : List TPo, (∀ p ∈ l, fitsB p.cents = true) → -(l.length : Int) * 1125899906842624 ≤ poI a l ∧ poI a l ≤ (l.length : Int) * 1125899906842624
  | [], _ => by simp [poI]
  | p :: l, h => by
    obtain ⟨h1, h2⟩ := poI_range a l fun q hq => h q (List.mem_cons_of_mem _ hq)
    have h3 := fits_range (h p List.mem_cons_self)
    rw [poI]
    simp only [List.length_cons]
    push_cast
    split <;> omega
/-! ### Parts of a ledger -/
def untilL (t : Int) (l : List TEn) : List TEn := l.filter fun e => decide (e.time < t)
theorem untilL_nil (t : Int) : untilL t [] = [] := rfl
theorem untilL_cons (t : Int) (e : TEn) (l : List TEn) : untilL t (e :: l) = if e.time < t then e :: untilL t l else untilL t l := by
  simp only [untilL, List.filter_cons, decide_eq_true_eq]
/-- A ledger with one more entry, or an error. -/
def postR (l : List TEn) (e : TEn) : List TEn × Int :=
  if enErr e ≠ 0 then (l, enErr e) else if (findE e.key l).isSome = true then (l, 9)
  else if e.posts.any (fun p => !fitsB (balI (l ++ [e]) p.account)) = true then (l, 13) else (l ++ [e], 0)
end Go.Toll
