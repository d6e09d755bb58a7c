/-
  Chains: which of n things follow which, the longest chains among them, the first of these in order.
-/
import Derived.Test.YtjdchnbjegddhaaTollMove
import Derived.Test.YtjdchnbjegddhaaTollPass
set_option linter.unusedVariables false
set_option linter.unusedSimpArgs false
namespace Go.Toll
open Go Go.Abs

/-! ### Longest chains among n things, by a relation -/
section
variable (G : Nat → Nat → Bool) (n : Nat)
/-- What follows i. -/
def folL (i : Nat) : List Nat := (List.range n).filter (G i)
/-- The longest chain from i on, out of those from what follows. -/
def foldS (i : Nat) (S : Nat → Nat) (l : List Nat) (m : Nat) : Nat := l.foldl (fun m j => if i < j then max m (S j + 1) else m) m
def longS : Nat → (Nat → Nat)
  | 0 => fun _ => 0
  | k + 1 => fun j => if j = n - 1 - k then foldS (n - 1 - k) (longS k) (folL G n (n - 1 - k)) 1 else longS k j
/-- The length of the longest chain that begins with j. -/
def lng (j : Nat) : Nat := longS G n n j
theorem foldS_congr {i : Nat} {S S' : Nat → Nat} : ∀ {l : List Nat} {m : Nat}, (∀ j ∈ l, i < j → S j = S' j) → foldS i S l m = foldS i S' l m
  | [], _, _ => rfl
  | j :: r, m, h => by
    have e : (if i < j then max m (S j + 1) else m) = if i < j then max m (S' j + 1) else m := by
      by_cases c : i < j
      · rw [if_pos c, if_pos c, h j (by simp) c]
      · rw [if_neg c, if_neg c]
    show foldS i S r (if i < j then max m (S j + 1) else m) = foldS i S' r (if i < j then max m (S' j + 1) else m)
    rw [e]
    exact foldS_congr fun k hk => h k (by simp [hk])
theorem foldS_le {i : Nat} {S : Nat → Nat} : ∀ {l : List Nat} {m : Nat}, m ≤ foldS i S l m
  | [], _ => Nat.le_refl _
  | j :: r, m => by
    have : m ≤ if i < j then max m (S j + 1) else m := by split <;> omega
    exact Nat.le_trans this foldS_le
theorem foldS_up {i : Nat} {S : Nat → Nat} {j : Nat} (hij : i < j) : ∀ {l : List Nat} {m : Nat}, j ∈ l → S j + 1 ≤ foldS i S l m
  | [], _, h => by cases h
  | k :: r, m, h => by
    rcases List.mem_cons.1 h with rfl | h
    · have : S j + 1 ≤ if i < j then max m (S j + 1) else m := by rw [if_pos hij]; omega
      exact Nat.le_trans this foldS_le
    · exact foldS_up hij (l := r) h
theorem foldS_or {i : Nat} {S : Nat → Nat} : ∀ {l : List Nat} {m : Nat}, foldS i S l m = m ∨ ∃ j ∈ l, i < j ∧ foldS i S l m = S j + 1
  | [], _ => .inl rfl
  | k :: r, m => by
    have e : foldS i S (k :: r) m = foldS i S r (if i < k then max m (S k + 1) else m) := rfl
    rcases foldS_or (i := i) (S := S) (l := r) (m := if i < k then max m (S k + 1) else m) with h | ⟨j, h1, h2, h3⟩
    · by_cases c : i < k
      · rw [if_pos c] at h e
        rcases Nat.le_total m (S k + 1) with q | q
        · exact .inr ⟨k, by simp, c, by rw [e, h]; omega⟩
        · exact .inl (by rw [e, h]; omega)
      · rw [if_neg c] at h e
        exact .inl (by rw [e, h])
    · exact .inr ⟨j, by simp [h1], h2, by rw [e, h3]⟩
variable {G n}
theorem mem_folL {i j : Nat} : j ∈ folL G n i ↔ j < n ∧ G i j = true := by rw [folL, List.mem_filter, List.mem_range]
theorem folL_len (i : Nat) : (folL G n i).length ≤ n := by
  have := List.length_filter_le (G i) (List.range n)
  rw [List.length_range] at this
  exact this
theorem longS_keep {j k : Nat} (h : n ≤ j + k) : ∀ d : Nat, k + d ≤ n → longS G n (k + d) j = longS G n k j
  | 0, _ => rfl
  | d + 1, hd => by
    have : j ≠ n - 1 - (k + d) := by omega
    show (if j = n - 1 - (k + d) then _ else longS G n (k + d) j) = _
    rw [if_neg this]
    exact longS_keep h d (by omega)
theorem longS_lng {j k : Nat} (h : n ≤ j + k) (hk : k ≤ n) : longS G n k j = lng G n j := by
  have := longS_keep (G := G) h (n - k) (by omega)
  rw [show k + (n - k) = n by omega] at this
  exact this.symm
theorem lng_eq {i : Nat} (h : i < n) : lng G n i = foldS i (lng G n) (folL G n i) 1 := by
  have e1 := longS_lng (G := G) (n := n) (j := i) (k := n - 1 - i + 1) (by omega) (by omega)
  rw [← e1]
  have e2 : n - 1 - (n - 1 - i) = i := by omega
  show (if i = n - 1 - (n - 1 - i) then foldS (n - 1 - (n - 1 - i)) (longS G n (n - 1 - i)) (folL G n (n - 1 - (n - 1 - i))) 1 else _) = _
  rw [e2, if_pos rfl]
  exact foldS_congr fun j hj hij => longS_lng (by omega) (by omega)
theorem lng_up {k j : Nat} (h : k < j) (hj : j < n) (hg : G k j = true) : lng G n j + 1 ≤ lng G n k := by
  rw [lng_eq (by omega : k < n)]
  exact foldS_up h (mem_folL.2 ⟨hj, hg⟩)
theorem lng_pos {k : Nat} (h : k < n) : 1 ≤ lng G n k := by rw [lng_eq h]; exact foldS_le
theorem lng_or {k : Nat} (h : k < n) : lng G n k = 1 ∨ ∃ j, k < j ∧ j < n ∧ G k j = true ∧ lng G n k = lng G n j + 1 := by
  rw [lng_eq h]
  rcases foldS_or (i := k) (S := lng G n) (l := folL G n k) (m := 1) with q | ⟨j, h1, h2, h3⟩
  · exact .inl q
  · exact .inr ⟨j, h2, (mem_folL.1 h1).1, (mem_folL.1 h1).2, h3⟩
theorem lng_le : ∀ (d k : Nat), n - k ≤ d → k < n → lng G n k ≤ n - k
  | 0, k, h, hk => by omega
  | d + 1, k, h, hk => by
    rcases lng_or (G := G) hk with q | ⟨j, h1, h2, h3, h4⟩
    · omega
    · have := lng_le d j (by omega) h2
      omega
theorem lng_len {k : Nat} (hk : k < n) : lng G n k ≤ n := by have := lng_le (G := G) (n - k) k (Nat.le_refl _) hk; omega

/-- The greatest of the lengths from c on. -/
def mstC (G : Nat → Nat → Bool) (n c : Nat) : Nat := (((List.range n).drop c).map (lng G n)).foldr max 0
theorem range_drop {c : Nat} (h : c < n) : (List.range n).drop c = c :: (List.range n).drop (c + 1) := by
  rw [List.drop_eq_getElem_cons (by simpa using h)]
  simp
theorem mstC_succ {c : Nat} (h : c < n) : mstC G n c = max (lng G n c) (mstC G n (c + 1)) := by
  rw [mstC, range_drop h]; rfl
theorem mstC_end : mstC G n n = 0 := by rw [mstC, List.drop_eq_nil_of_le (by simp)]; rfl
theorem mstC_le : ∀ (d c : Nat), n - c = d → c ≤ n → mstC G n c ≤ n
  | 0, c, h, hc => by obtain rfl : c = n := by omega
                      rw [mstC_end]; omega
  | d + 1, c, h, hc => by
    rw [mstC_succ (by omega)]
    have h1 := lng_len (G := G) (n := n) (k := c) (by omega)
    have h2 := mstC_le d (c + 1) (by omega) (by omega)
    omega
theorem mstC_up : ∀ (d c : Nat), n - c = d → ∀ j, c ≤ j → j < n → lng G n j ≤ mstC G n c
  | 0, c, h, j, h1, h2 => by omega
  | d + 1, c, h, j, h1, h2 => by
    rw [mstC_succ (by omega)]
    rcases Nat.eq_or_lt_of_le h1 with rfl | h1
    · omega
    · have := mstC_up d (c + 1) (by omega) j h1 h2
      omega
theorem mstC_or : ∀ (d c : Nat), n - c = d → c ≤ n → mstC G n c = 0 ∨ ∃ j, c ≤ j ∧ j < n ∧ lng G n j = mstC G n c
  | 0, c, h, hc => by obtain rfl : c = n := by omega
                      exact .inl mstC_end
  | d + 1, c, h, hc => by
    rw [mstC_succ (by omega)]
    have hp := lng_pos (G := G) (n := n) (k := c) (by omega)
    rcases Nat.le_total (mstC G n (c + 1)) (lng G n c) with q | q
    · exact .inr ⟨c, by omega, by omega, by omega⟩
    · rcases mstC_or d (c + 1) (by omega) (by omega) with e | ⟨j, h1, h2, h3⟩
      · omega
      · exact .inr ⟨j, by omega, h2, by omega⟩

/-- May i come behind 'last'? -/
def aft (G : Nat → Nat → Bool) (last : Option Nat) (i : Nat) : Bool := last.all fun k => G k i
/-- The first chain of that length, behind 'last', out of the indices that are left. -/
def pickS (G : Nat → Nat → Bool) (n : Nat) : List Nat → Option Nat → Nat → List Nat
  | [], _, _ => []
  | i :: r, last, left => if left = 0 then [] else if lng G n i = left ∧ aft G last i = true then i :: pickS G n r (some i) (left - 1) else pickS G n r last left
/-- The first of the longest chains. -/
def lngL (G : Nat → Nat → Bool) (n : Nat) : List Nat := pickS G n (List.range n) none (mstC G n 0)
theorem pickS_zero {l : List Nat} {last : Option Nat} : pickS G n l last 0 = [] := by cases l <;> simp [pickS]

/-- A chain of indices behind 'last'. -/
def ChF (G : Nat → Nat → Bool) (n : Nat) : Option Nat → List Nat → Prop
  | _, [] => True
  | last, i :: r => i < n ∧ (∀ k, last = some k → k < i ∧ G k i = true) ∧ ChF G n (some i) r
theorem ChF.len : ∀ {r : List Nat} {i : Nat} {last : Option Nat}, ChF G n last (i :: r) → r.length + 1 ≤ lng G n i
  | [], i, _, h => lng_pos h.1
  | j :: r, i, _, h => by
    obtain ⟨h1, _, h3⟩ := h
    have h4 := ChF.len h3
    obtain ⟨h5, h6, _⟩ := h3
    obtain ⟨h7, h8⟩ := h6 i rfl
    have := lng_up h7 h5 h8
    simp only [List.length_cons]
    omega
/-- There is something to pick. -/
def Exs (G : Nat → Nat → Bool) (n c : Nat) (last : Option Nat) (left : Nat) : Prop := left = 0 ∨ ∃ j, c ≤ j ∧ j < n ∧ lng G n j = left ∧ aft G last j = true
theorem Exs.next {c : Nat} {last : Option Nat} {left : Nat} (h : Exs G n c last left) (hn : ¬ (lng G n c = left ∧ aft G last c = true)) (hl : left ≠ 0) : Exs G n (c + 1) last left := by
  rcases h with h | ⟨j, h1, h2, h3⟩
  · exact absurd h hl
  · rcases Nat.eq_or_lt_of_le h1 with rfl | h1
    · exact absurd h3 hn
    · exact .inr ⟨j, h1, h2, h3⟩
theorem Exs.pick {c left : Nat} (hc : c < n) (h : lng G n c = left) : Exs G n (c + 1) (some c) (left - 1) := by
  rcases lng_or (G := G) hc with q | ⟨j, h1, h2, h3, h4⟩
  · exact .inl (by omega)
  · exact .inr ⟨j, h1, h2, by omega, by simpa [aft] using h3⟩
theorem Exs.start : Exs G n 0 none (mstC G n 0) := by
  rcases mstC_or (G := G) n 0 rfl (by omega) with h | ⟨j, h1, h2, h3⟩
  · exact .inl h
  · exact .inr ⟨j, h1, h2, h3, rfl⟩
def lexB : List Nat → List Nat → Bool
  | a :: r, b :: q => if a ≠ b then decide (a < b) else lexB r q
  | _, _ => false
theorem pickS_spec : ∀ (d c : Nat) (last : Option Nat) (left : Nat), n - c = d → (∀ k, last = some k → k < c) → Exs G n c last left →
    ChF G n last (pickS G n ((List.range n).drop c) last left) ∧ (∀ j ∈ pickS G n ((List.range n).drop c) last left, c ≤ j ∧ j < n) ∧ (pickS G n ((List.range n).drop c) last left).length = left ∧
    ((∀ j, c ≤ j → j < n → aft G last j = true → lng G n j ≤ left) → ∀ J, ChF G n last J → (∀ j, J.head? = some j → c ≤ j) → J.length = left → lexB J (pickS G n ((List.range n).drop c) last left) = false)
  | 0, c, last, left, hd, hl, hE => by
    rcases hE with rfl | ⟨j, h1, h2, _⟩
    · rw [pickS_zero]
      exact ⟨trivial, by simp, rfl, fun _ J _ _ hJ => by rw [List.length_eq_zero_iff.1 hJ]; rfl⟩
    · omega
  | d + 1, c, last, left, hd, hl, hE => by
    have hc : c < n := by omega
    rw [range_drop hc, pickS]
    by_cases h0 : left = 0
    · rw [if_pos h0]
      subst h0
      exact ⟨trivial, by simp, rfl, fun _ J _ _ hJ => by rw [List.length_eq_zero_iff.1 hJ]; rfl⟩
    rw [if_neg h0]
    by_cases hp : lng G n c = left ∧ aft G last c = true
    · rw [if_pos hp]
      obtain ⟨q1, q2, q3, q4⟩ := pickS_spec d (c + 1) (some c) (left - 1) (by omega) (fun k e => by cases e; omega) (Exs.pick hc hp.1)
      refine ⟨⟨hc, fun k e => ⟨hl k e, ?_⟩, q1⟩, ?_, by simp [q3]; omega, ?_⟩
      · have := hp.2
        rw [e] at this
        simpa [aft] using this
      · intro j hj
        rcases List.mem_cons.1 hj with rfl | hj
        · omega
        · have := q2 j hj; omega
      · intro hb J hJ hh hlen
        cases J with
        | nil => rfl
        | cons j r =>
          have hj := hh j rfl
          rw [lexB]
          by_cases e : j = c
          · subst e
            rw [if_neg (by simp)]
            obtain ⟨_, _, h3⟩ := hJ
            refine q4 (fun k h1 h2 h4 => ?_) r h3 ?_ (by simp at hlen; omega)
            · have := lng_up (G := G) (k := j) (j := k) (by omega) h2 (by simpa [aft] using h4)
              omega
            · intro k hk
              cases r with
              | nil => simp at hk
              | cons k' r =>
                simp at hk
                subst hk
                exact (h3.2.1 j rfl).1
          · rw [if_pos e]
            simp
            omega
    · rw [if_neg hp]
      obtain ⟨q1, q2, q3, q4⟩ := pickS_spec d (c + 1) last left (by omega) (fun k e => by have := hl k e; omega) (hE.next hp h0)
      refine ⟨q1, fun j hj => by have := q2 j hj; omega, q3, ?_⟩
      intro hb J hJ hh hlen
      refine q4 (fun j h1 h2 h3 => hb j (by omega) h2 h3) J hJ ?_ hlen
      intro j hj
      have h1 := hh j hj
      rcases Nat.eq_or_lt_of_le h1 with rfl | h1
      · exfalso
        cases J with
        | nil => simp at hj
        | cons k r =>
          simp at hj
          subst hj
          have h5 := ChF.len hJ
          have h6 : aft G last k = true := by
            cases last with
            | none => rfl
            | some m => simpa [aft] using (hJ.2.1 m rfl).2
          have h7 := hb k (by omega) hc h6
          simp at hlen
          exact hp ⟨by omega, h6⟩
      · exact h1
theorem lngL_spec : ChF G n none (lngL G n) ∧ (∀ j ∈ lngL G n, j < n) ∧ (lngL G n).length = mstC G n 0 ∧ ∀ J, ChF G n none J → J.length ≤ (lngL G n).length ∧ (J.length = (lngL G n).length → lexB J (lngL G n) = false) := by
  obtain ⟨q1, q2, q3, q4⟩ := pickS_spec (G := G) n 0 none (mstC G n 0) rfl (fun k e => by cases e) Exs.start
  simp only [List.drop_zero] at q1 q2 q3 q4
  refine ⟨q1, fun j hj => (q2 j hj).2, q3, fun J hJ => ⟨?_, fun e => ?_⟩⟩
  · rw [lngL, q3]
    cases J with
    | nil => simp
    | cons j r =>
      have h1 := hJ.len
      have h2 := mstC_up (G := G) (n := n) n 0 rfl j (by omega) hJ.1
      simp
      omega
  · rw [lngL, q3] at e
    exact q4 (fun j h1 h2 h3 => mstC_up (G := G) n 0 rfl j (by omega) h2) J hJ (fun _ _ => by omega) e
/-- A chain's indices ascend. -/
theorem ChF.asc : ∀ {l : List Nat} {last : Option Nat}, ChF G n last l → l.Pairwise (· < ·) ∧ ∀ k, last = some k → ∀ j ∈ l, k < j
  | [], _, _ => ⟨.nil, by simp⟩
  | i :: r, last, h => by
    obtain ⟨h1, h2, h3⟩ := h
    obtain ⟨q1, q2⟩ := ChF.asc h3
    refine ⟨List.pairwise_cons.2 ⟨fun j hj => q2 i rfl j hj, q1⟩, fun k e j hj => ?_⟩
    have := (h2 k e).1
    rcases List.mem_cons.1 hj with rfl | hj
    · exact this
    · have := q2 i rfl j hj; omega
/-- All of them, where each follows the one before. -/
theorem ChF.all (hg : ∀ i, i + 1 < n → G i (i + 1) = true) : ∀ (d c : Nat) (last : Option Nat), n - c = d → (∀ k, last = some k → k + 1 = c) → ChF G n last ((List.range n).drop c)
  | 0, c, last, h, _ => by rw [List.drop_eq_nil_of_le (by simp; omega)]; trivial
  | d + 1, c, last, h, hl => by
    rw [range_drop (by omega)]
    refine ⟨by omega, fun k e => ?_, ChF.all hg d (c + 1) (some c) (by omega) (fun k e => by cases e; rfl)⟩
    obtain rfl := hl k e
    exact ⟨by omega, hg k (by omega)⟩
theorem asc_all : ∀ {n c : Nat} {l : List Nat}, l.Pairwise (· < ·) → (∀ j ∈ l, c ≤ j ∧ j < n) → n - c ≤ l.length → l = (List.range n).drop c
  | n, c, [], _, _, hl => by rw [List.drop_eq_nil_of_le (by simp at hl ⊢; omega)]
  | n, c, i :: r, h, hr, hl => by
    have hi := hr i (by simp)
    obtain ⟨h1, h2⟩ := List.pairwise_cons.1 h
    have hb := asc_len r h2 (c := i + 1) (n := n) fun j hj => ⟨h1 j hj, (hr j (by simp [hj])).2⟩
    simp at hl
    obtain rfl : i = c := by omega
    rw [range_drop (by omega)]
    rw [← asc_all (n := n) (c := i + 1) h2 (fun j hj => ⟨h1 j hj, (hr j (by simp [hj])).2⟩) (by omega)]
where asc_len : ∀ (l : List Nat), l.Pairwise (· < ·) → ∀ {c n : Nat}, (∀ j ∈ l, c ≤ j ∧ j < n) → l.length ≤ n - c
  | [], _, _, _, _ => by simp
  | i :: r, h, c, n, hr => by
    obtain ⟨h1, h2⟩ := List.pairwise_cons.1 h
    have := asc_len r h2 (c := i + 1) (n := n) fun j hj => ⟨h1 j hj, (hr j (by simp [hj])).2⟩
    have := hr i (by simp)
    simp
    omega
theorem lngL_all (hg : ∀ i, i + 1 < n → G i (i + 1) = true) : lngL G n = List.range n := by
  obtain ⟨h1, h2, h3, h4⟩ := lngL_spec (G := G) (n := n)
  have h5 := (h4 (List.range n) (by simpa using ChF.all hg n 0 none rfl (fun k e => by cases e))).1
  have := asc_all (n := n) (c := 0) h1.asc.1 (fun j hj => ⟨by omega, h2 j hj⟩) (by simpa using h5)
  simpa using this
end
/-! ### Passages -/
def encIx (n : Nat) : List AV := [.int .i64 n]
@[simp] theorem encIx_len (n : Nat) : (encIx n).length = 1 := rfl
@[simp] theorem encIx_tail (n : Nat) : (encIx n).tail = [] := rfl
def fe (v : Net) (a b : TPass) : Bool := feasM v a.point b.point a.time b.time
/-- Is the j-th passage feasible after the i-th? -/
def gL (v : Net) (l : List TPass) (i j : Nat) : Bool := match l[i]?, l[j]? with
  | some a, some b => fe v a b
  | _, _ => false
theorem gL_at {v : Net} {l : List TPass} {i j : Nat} {a b : TPass} (ha : l[i]? = some a) (hb : l[j]? = some b) : gL v l i j = fe v a b := by rw [gL, ha, hb]
def folI (G : Nat → Nat → Bool) (i j : Nat) : List Nat := (List.range j).filter (G i)
theorem folI_succ (G : Nat → Nat → Bool) (i j : Nat) : folI G i (j + 1) = if G i j = true then folI G i j ++ [j] else folI G i j := by
  rw [folI, List.range_succ, List.filter_append, folI]
  by_cases c : G i j = true
  · rw [if_pos c, List.filter_cons_of_pos c]; rfl
  · rw [if_neg c, List.filter_cons_of_neg c]; simp
theorem folI_len (G : Nat → Nat → Bool) (i j : Nat) : (folI G i j).length ≤ j := by
  have := List.length_filter_le (G i) (List.range j)
  rwa [List.length_range] at this
/-- Each passage is feasible after the one before. -/
def chnB (v : Net) : List TPass → Bool
  | a :: b :: r => fe v a b && chnB v (b :: r)
  | _ => true
theorem chnB_drop {v : Net} {l : List TPass} {i : Nat} {a b : TPass} (ha : l[i]? = some a) (hb : l[i + 1]? = some b) : chnB v (l.drop i) = (fe v a b && chnB v (l.drop (i + 1))) := by
  rw [drop_get ha, drop_get hb, chnB]
theorem chnB_end {v : Net} {l : List TPass} {i : Nat} (h : l.length ≤ i + 1) : chnB v (l.drop i) = true := by
  rcases hd : l.drop i with _ | ⟨a, _ | ⟨b, r⟩⟩
  · rfl
  · rfl
  · have : (l.drop i).length = r.length + 2 := by rw [hd]; rfl
    rw [List.length_drop] at this
    omega
/-- What a vehicle needs at most, from a point to another one. -/
def needM (v : Net) (a b : Bytes) : Option Int := if a = b then some 0 else match bestP v a b with
  | some (p, _) => some (boundsM v p).2.1
  | none => none
theorem best_fits {v : Net} (ok : NetOk v) {a b : Bytes} {p : List Bytes} {d : Int} (h : bestP v a b = some (p, d)) : p.length ≤ 64 ∧ (boundsM v p).2.2 = 0 ∧ 0 ≤ (boundsM v p).2.1 ∧ (boundsM v p).2.1 ≤ 137438953472 := by
  rcases bestP_spec ok a b with ⟨l, d', e, hb, ha, hb'⟩ | ⟨e, _⟩
  · rw [h] at e
    obtain ⟨rfl, rfl⟩ : p = a :: l ∧ d = d' := by injection e with e; injection e with e1 e2; exact ⟨e1, e2⟩
    obtain ⟨s, hs, _⟩ := hb.walk
    have h1 := simple_len ok hs ha (hb.simple ok)
    have h2 := ok.plen
    have h3 := (bounds_wk ok ha hs).1
    obtain ⟨h4, h5, h6⟩ := wk_rng ok hs
    rw [h3]
    have h7 : (l.length : Int) ≤ 64 := by omega
    refine ⟨by simp; omega, rfl, ?_, ?_⟩
    · show (0 : Int) ≤ s.2; omega
    · show s.2 ≤ 137438953472; omega
  · rw [h] at e; cases e
theorem need_rng {v : Net} (ok : NetOk v) {a b : Bytes} {n : Int} (h : needM v a b = some n) : 0 ≤ n ∧ n ≤ 137438953472 := by
  unfold needM at h
  split at h
  · injection h with h; omega
  · rcases hb : bestP v a b with _ | ⟨p, d⟩
    · rw [hb] at h; cases h
    · rw [hb] at h
      have := best_fits ok hb
      injection h with h
      omega
/-- Does a new segment begin with b? -/
def pauseM (v : Net) (a b : TPass) (g : Int) : Bool := match needM v a.point b.point with
  | some n => decide (n + g < b.time - a.time)
  | none => true
/-- A gap as it counts. -/
def gapM (g : Int) : Int := if g < 0 then 0 else if 68719476736 < g then 68719476736 else g
theorem gapM_rng (g : Int) : 0 ≤ gapM g ∧ gapM g ≤ 68719476736 := by unfold gapM; split <;> (try split) <;> omega
theorem gapM_min (g : Int) : gapM g = min (max g 0) 68719476736 := by unfold gapM; split <;> (try split) <;> omega
/-- Behind the segments one more passage: its own, or joined to the last. -/
def segB (v : Net) (l : List TPass) (g : Int) (i : Nat) : Bool := match i with
  | 0 => true
  | i + 1 => match l[i]?, l[i + 1]? with
    | some a, some b => pauseM v a b g
    | _, _ => true
def segAdd (L : List (List TPass)) (new : Bool) (p : TPass) : List (List TPass) := if new = true then L ++ [[p]] else L.dropLast ++ [L.getLastD [] ++ [p]]
def segsI (v : Net) (l : List TPass) (g : Int) : Nat → List (List TPass)
  | 0 => []
  | i + 1 => match l[i]? with
    | some p => segAdd (segsI v l g i) (segB v l g i) p
    | none => segsI v l g i
/-- The segments. -/
def segsM (v : Net) (l : List TPass) (g : Int) : List (List TPass) := segsI v l g l.length
theorem segsI_succ {v : Net} {l : List TPass} {g : Int} {i : Nat} {p : TPass} (h : l[i]? = some p) : segsI v l g (i + 1) = segAdd (segsI v l g i) (segB v l g i) p := by rw [segsI, h]
theorem segsI_pos {v : Net} {l : List TPass} {g : Int} : ∀ {i : Nat}, i < l.length → segsI v l g (i + 1) ≠ []
  | i, h => by
    obtain ⟨p, hp⟩ : ∃ p, l[i]? = some p := ⟨_, List.getElem?_eq_getElem h⟩
    rw [segsI_succ hp, segAdd]
    split <;> simp
theorem segAdd_len (L : List (List TPass)) (b : Bool) (p : TPass) : (segAdd L b p).length ≤ L.length + 1 := by
  unfold segAdd
  split
  · simp
  · simp
theorem segsI_len {v : Net} {l : List TPass} {g : Int} : ∀ i : Nat, (segsI v l g i).length ≤ i
  | 0 => by simp [segsI]
  | i + 1 => by
    rw [segsI]
    have := segsI_len (v := v) (l := l) (g := g) i
    split
    · rename_i p _
      have h2 := segAdd_len (segsI v l g i) (segB v l g i) p
      omega
    · omega
theorem seg_join (L : List (List TPass)) (b : Bool) (p : TPass) : (segAdd L b p).flatten = L.flatten ++ [p] := by
  unfold segAdd
  split
  · simp
  · rcases List.eq_nil_or_concat L with rfl | ⟨M, x, rfl⟩
    · rfl
    · simp
theorem segsI_join {v : Net} {l : List TPass} {g : Int} : ∀ i : Nat, i ≤ l.length → (segsI v l g i).flatten = l.take i
  | 0, _ => by simp [segsI]
  | i + 1, h => by
    obtain ⟨p, hp⟩ : ∃ p, l[i]? = some p := ⟨_, List.getElem?_eq_getElem (by omega)⟩
    rw [segsI_succ hp, seg_join, segsI_join i (by omega), List.take_add_one, hp]
    rfl
/-- The rows of a list of segments are not greater than the list. -/
theorem row_len {L : List (List TPass)} {r : List TPass} (h : r ∈ L) : r.length ≤ L.flatten.length := by
  obtain ⟨A, B, rfl⟩ := List.append_of_mem h
  simp
  omega
theorem segsI_row {v : Net} {l : List TPass} {g : Int} {i : Nat} (hi : i ≤ l.length) {r : List TPass} (h : r ∈ segsI v l g i) : r.length ≤ i := by
  have := row_len h
  rw [segsI_join i hi, List.length_take] at this
  omega
/-! ### Divided by the longest chain -/
structure TExc where
  id : Bytes
  why : Int
deriving DecidableEq
def encExc (x : TExc) : List AV := [.str x.id, .int .i64 x.why]
@[simp] theorem encExc_len (x : TExc) : (encExc x).length = 2 := rfl
/-- Of the first i passages those of the chain I; and the others. -/
def inI (I : List Nat) (l : List TPass) (i : Nat) : List TPass := ((List.range i).filter fun j => decide (j ∈ I)).filterMap fun j => l[j]?
def outI (I : List Nat) (l : List TPass) (i : Nat) : List TExc := ((List.range i).filter fun j => !decide (j ∈ I)).filterMap fun j => (l[j]?).map fun p => ⟨p.id, 9⟩
theorem inI_succ {I : List Nat} {l : List TPass} {i : Nat} {p : TPass} (h : l[i]? = some p) : inI I l (i + 1) = if i ∈ I then inI I l i ++ [p] else inI I l i := by
  rw [inI, List.range_succ, List.filter_append, List.filterMap_append, ← inI]
  by_cases c : i ∈ I
  · rw [if_pos c, List.filter_cons_of_pos (by simpa using c)]; simp [h]
  · rw [if_neg c, List.filter_cons_of_neg (by simpa using c)]; simp
theorem outI_succ {I : List Nat} {l : List TPass} {i : Nat} {p : TPass} (h : l[i]? = some p) : outI I l (i + 1) = if i ∈ I then outI I l i else outI I l i ++ [⟨p.id, 9⟩] := by
  rw [outI, List.range_succ, List.filter_append, List.filterMap_append, ← outI]
  by_cases c : i ∈ I
  · rw [if_pos c, List.filter_cons_of_neg (by simpa using c)]; simp
  · rw [if_neg c, List.filter_cons_of_pos (by simpa using c)]; simp [h]
theorem inI_len (I : List Nat) (l : List TPass) (i : Nat) : (inI I l i).length ≤ i := by
  refine Nat.le_trans (List.length_filterMap_le _ _) ?_
  have := List.length_filter_le (fun j => decide (j ∈ I)) (List.range i)
  rwa [List.length_range] at this
theorem outI_len (I : List Nat) (l : List TPass) (i : Nat) : (outI I l i).length ≤ i := by
  refine Nat.le_trans (List.length_filterMap_le _ _) ?_
  have := List.length_filter_le (fun j => !decide (j ∈ I)) (List.range i)
  rwa [List.length_range] at this
theorem inI_mem {I : List Nat} {l : List TPass} {i : Nat} {p : TPass} (h : p ∈ inI I l i) : p ∈ l := by
  obtain ⟨j, _, hj⟩ := List.mem_filterMap.1 h
  exact List.mem_of_getElem? hj
/-- What is left of the chain from i on. -/
def restI (I : List Nat) (i : Nat) : List Nat := I.filter fun j => decide (i ≤ j)
theorem restI_zero (I : List Nat) : restI I 0 = I := by simp [restI]
theorem restI_succ : ∀ {I : List Nat} {i : Nat}, I.Pairwise (· < ·) → restI I i = if i ∈ I then i :: restI I (i + 1) else restI I (i + 1)
  | [], i, _ => by simp [restI]
  | j :: r, i, h => by
    obtain ⟨h1, h2⟩ := List.pairwise_cons.1 h
    have ih := restI_succ (i := i) h2
    unfold restI at ih ⊢
    rcases Nat.lt_trichotomy j i with q | q | q
    · rw [List.filter_cons_of_neg (by simp; omega), List.filter_cons_of_neg (by simp; omega), ih]
      have : i ∈ j :: r ↔ i ∈ r := by simp; omega
      simp only [this]
    · subst q
      rw [List.filter_cons_of_pos (by simp), List.filter_cons_of_neg (by simp), if_pos (by simp), ih]
      have hn : j ∉ r := fun c => by have := h1 j c; omega
      rw [if_neg hn]
    · rw [List.filter_cons_of_pos (by simp; omega), List.filter_cons_of_pos (by simp; omega), ih]
      have hn : i ∉ r := fun c => by have := h1 i c; omega
      rw [if_neg hn, if_neg (by simp; exact ⟨by omega, hn⟩)]
theorem restI_ge {I : List Nat} {i j : Nat} (h : j ∈ restI I i) : i ≤ j := by simpa using (List.mem_filter.1 h).2
theorem restI_mem {I : List Nat} {i j : Nat} (h : j ∈ restI I i) : j ∈ I := (List.mem_filter.1 h).1
/-- Its head is i exactly where i is of the chain. -/
theorem restI_head {I : List Nat} {i : Nat} (h : I.Pairwise (· < ·)) : (∃ r, restI I i = i :: r) ↔ i ∈ I := by
  constructor
  · rintro ⟨r, e⟩; exact restI_mem (i := i) (by rw [e]; simp)
  · intro c; exact ⟨_, by rw [restI_succ h, if_pos c]⟩
theorem inI_split {I : List Nat} {l : List TPass} (h : I.Pairwise (· < ·)) (hl : ∀ j ∈ I, j < l.length) : ∀ i : Nat, i ≤ l.length → (inI I l i).length + (restI I i).length = I.length
  | 0, _ => by rw [restI_zero]; simp [inI]
  | i + 1, hi => by
    obtain ⟨p, hp⟩ : ∃ p, l[i]? = some p := ⟨_, List.getElem?_eq_getElem (by omega)⟩
    have ih := inI_split h hl i (by omega)
    rw [restI_succ h] at ih
    rw [inI_succ hp]
    by_cases c : i ∈ I
    · rw [if_pos c] at ih ⊢; simp at ih ⊢; omega
    · rw [if_neg c] at ih ⊢; exact ih
theorem rest_drop {I : List Nat} (h : I.Pairwise (· < ·)) : ∀ {i : Nat}, ∃ k, restI I i = I.drop k ∧ (restI I i).length + k = I.length
  | 0 => ⟨0, by rw [restI_zero]; simp, by rw [restI_zero]; simp⟩
  | i + 1 => by
    obtain ⟨k, e, hk⟩ := rest_drop h (i := i)
    have hs := restI_succ (i := i) h
    by_cases c : i ∈ I
    · rw [if_pos c] at hs
      rw [hs] at e hk
      refine ⟨k + 1, ?_, by simp at hk; omega⟩
      rw [← List.drop_drop, ← e]; rfl
    · rw [if_neg c] at hs
      rw [← hs]; exact ⟨k, e, hk⟩
/-- The index that the chain has at the place of how many were taken. -/
theorem chain_at {I : List Nat} {l : List TPass} (h : I.Pairwise (· < ·)) (hl : ∀ j ∈ I, j < l.length) {i : Nat} (hi : i ≤ l.length) : I[(inI I l i).length]? = (restI I i)[0]? := by
  obtain ⟨k, e, hk⟩ := rest_drop h (i := i)
  have := inI_split h hl i hi
  rw [e, List.getElem?_drop, Nat.add_zero, show (inI I l i).length = k by omega]
end Go.Toll
