/-
  Groups of readings: how they are made. No program in sight.
-/
import Derived.Test.YtmnmbkcdjpidgaaTollPlate
set_option linter.unusedVariables false
set_option linter.unusedSimpArgs false
namespace Go.Toll
open Go Go.Abs

/-- The first of the n places from i on where p holds, or -1. -/
def idxP (p : Nat → Bool) : Nat → Nat → Int
  | _, 0 => -1
  | i, n + 1 => if p i = true then (i : Int) else idxP p (i + 1) n
theorem idxP_range (p : Nat → Bool) : ∀ n i, idxP p i n = -1 ∨ (∃ k : Nat, idxP p i n = (k : Int) ∧ i ≤ k ∧ k < i + n ∧ p k = true)
  | 0, i => .inl rfl
  | n + 1, i => by
    rw [idxP]
    split <;> rename_i h
    · exact .inr ⟨i, rfl, by omega, by omega, h⟩
    · rcases idxP_range p n (i + 1) with h1 | ⟨k, h1, h2, h3, h4⟩
      · exact .inl h1
      · exact .inr ⟨k, h1, by omega, by omega, h4⟩
def seen0 : TSeen := ⟨[], 0, 0, [], [], 0, 0, 0, [], 0, 0⟩
def headG (g : List TSeen) : TSeen := g.headD seen0
def atG (gs : List (List TSeen)) (s : TSeen) : Int := idxP (fun i => joinsB (headG (gs.getD i [])) s) 0 gs.length
def placeG (gs : List (List TSeen)) (s : TSeen) : List (List TSeen) :=
  if atG gs s < 0 then gs ++ [[s]] else gs.set (atG gs s).toNat (gs.getD (atG gs s).toNat [] ++ [s])
def groupB (s : TSeen) : Bool := decide (s.kind = 1) || decide (s.kind = 2)
def mergeG : List (List TSeen) → List TSeen → List (List TSeen)
  | gs, [] => gs
  | gs, s :: l => mergeG (if groupB s then placeG gs s else gs) l
def sortS (l : List TSeen) : List TSeen := sortR (fun x y => decide (seenCmp x y < 0)) l
def decS (e : List AV) : TSeen := match e with
  | [.str a, .int _ b, .int _ c, .str d, .str p, .int _ x, .int _ y, .int _ t, .str q, .int _ l, .int _ k] => ⟨a, b, c, d, p, x, y, t, q, l, k⟩
  | _ => seen0
theorem decS_enc (s : TSeen) : decS (encSeen s) = s := rfl
theorem swo_decS : SWO fun x y => decide (seenCmp (decS x) (decS y) < 0) := (ord3_seen.comap decS).swo
theorem sortS_map (l : List TSeen) : sortR (fun x y => decide (seenCmp (decS x) (decS y) < 0)) (l.map encSeen) = (sortS l).map encSeen := sortR_map (fun _ _ => rfl) l
theorem sortS_len (l : List TSeen) : (sortS l).length = l.length := sortR_length _ l

/-! ### A list of groups in memory: a block of its own, each group another one -/
def cellsG (bs : List Nat) (gs : List (List TSeen)) : List (List AV) := List.zipWith (fun b g => [.own b 0 g.length]) bs gs
theorem cellsG_at {bs : List Nat} {gs : List (List TSeen)} {k b : Nat} {g : List TSeen} (hb : bs[k]? = some b) (hg : gs[k]? = some g) : (cellsG bs gs)[k]? = some [.own b 0 g.length] := by
  rw [cellsG, List.getElem?_zipWith, hb, hg]
theorem cellsG_len {bs : List Nat} {gs : List (List TSeen)} (h : bs.length = gs.length) : (cellsG bs gs).length = gs.length := by simp [cellsG, h]
theorem cellsG_add {bs : List Nat} {gs : List (List TSeen)} (h : bs.length = gs.length) (b : Nat) (g : List TSeen) : cellsG (bs ++ [b]) (gs ++ [g]) = cellsG bs gs ++ [[.own b 0 g.length]] := by
  rw [cellsG, List.zipWith_append h]; rfl
theorem cellsG_set {bs : List Nat} {gs : List (List TSeen)} (h : bs.length = gs.length) (k b : Nat) (g : List TSeen) : cellsG (bs.set k b) (gs.set k g) = (cellsG bs gs).set k [.own b 0 g.length] := by
  refine List.ext_getElem? fun i => ?_
  rw [List.getElem?_set, cellsG_len h, cellsG, cellsG, List.getElem?_zipWith, List.getElem?_zipWith, List.getElem?_set, List.getElem?_set, h]
  by_cases e : k = i
  · subst e
    rw [if_pos rfl, if_pos rfl, if_pos rfl]
    by_cases h1 : k < gs.length
    · rw [if_pos h1, if_pos h1, if_pos h1]
    · rw [if_neg h1, if_neg h1, if_neg h1]
  · rw [if_neg e, if_neg e, if_neg e]
/-- Groups in memory, above a bound. -/
structure Grp (lo : Nat) (h : AHeap) (x : AV) (bs : List Nat) (gs : List (List TSeen)) : Prop where
  len : bs.length = gs.length
  nodup : ∀ (i j b : Nat), bs[i]? = some b → bs[j]? = some b → i = j
  out : (x = .nil ∧ gs = []) ∨ ∃ bx, x = .own bx 0 gs.length ∧ lo ≤ bx ∧ bx ∉ bs ∧ h[bx]? = some (.cells 1 (cellsG bs gs))
  each : ∀ (k b : Nat) (g : List TSeen), bs[k]? = some b → gs[k]? = some g → g ≠ [] ∧ lo ≤ b ∧ h[b]? = some (.cells 11 (g.map encSeen))
theorem Grp.nil (lo : Nat) (h : AHeap) : Grp lo h .nil [] [] := ⟨rfl, by simp, .inl ⟨rfl, rfl⟩, by simp⟩
theorem Grp.more {lo : Nat} {h : AHeap} {x : AV} {bs : List Nat} {gs : List (List TSeen)} (r : Grp lo h x bs gs) (t : AHeap) : Grp lo (h ++ t) x bs gs := by
  refine ⟨r.len, r.nodup, ?_, fun k b g h1 h2 => ?_⟩
  · rcases r.out with h1 | ⟨bx, h1, h2, h3, h4⟩
    · exact .inl h1
    · exact .inr ⟨bx, h1, h2, h3, by rw [List.getElem?_append_left (List.getElem?_eq_some_iff.1 h4).1]; exact h4⟩
  · obtain ⟨h3, h4, h5⟩ := r.each k b g h1 h2
    exact ⟨h3, h4, by rw [List.getElem?_append_left (List.getElem?_eq_some_iff.1 h5).1]; exact h5⟩
theorem Grp.lt {lo : Nat} {h : AHeap} {x : AV} {bs : List Nat} {gs : List (List TSeen)} (r : Grp lo h x bs gs) {b : Nat} (hb : b ∈ bs) : b < h.length := by
  obtain ⟨k, hk⟩ := List.getElem?_of_mem hb
  obtain ⟨g, hg, _⟩ := get_lt (l := gs) (i := k) (by have := (List.getElem?_eq_some_iff.1 hk).1; have := r.len; omega)
  exact (List.getElem?_eq_some_iff.1 (r.each k b g hk hg).2.2).1
/-- One more group. -/
theorem Grp.add {lo : Nat} {h h' : AHeap} {x : AV} {bs : List Nat} {gs : List (List TSeen)} (r : Grp lo h x bs gs) (s : TSeen) (b bx : Nat) (hlo : lo ≤ h.length)
    (hk : ∀ k o, h[k]? = some o → x ≠ .own k 0 gs.length → h'[k]? = some o) (h1 : h.length ≤ b) (h2 : h.length ≤ bx) (h3 : bx ≠ b)
    (h4 : h'[b]? = some (.cells 11 [encSeen s])) (h5 : h'[bx]? = some (.cells 1 (cellsG bs gs ++ [[.own b 0 1]]))) : Grp lo h' (.own bx 0 (gs.length + 1)) (bs ++ [b]) (gs ++ [[s]]) := by
  refine ⟨by simp [r.len], ?_, .inr ⟨bx, by simp, by omega, ?_, ?_⟩, fun k c g hc hg => ?_⟩
  · intro i j c hi hj
    have old : ∀ i, i < bs.length → (bs ++ [b])[i]? = some c → bs[i]? = some c := fun i hl e => by rwa [List.getElem?_append_left hl] at e
    have new : ∀ i, bs.length ≤ i → (bs ++ [b])[i]? = some c → i = bs.length ∧ c = b := fun i hl e => by
      have hil := (List.getElem?_eq_some_iff.1 e).1
      simp at hil
      obtain rfl : i = bs.length := by omega
      rw [List.getElem?_append_right (by omega), Nat.sub_self] at e
      exact ⟨rfl, (by simpa using e.symm)⟩
    rcases Nat.lt_or_ge i bs.length with h6 | h6 <;> rcases Nat.lt_or_ge j bs.length with h7 | h7
    · exact r.nodup i j c (old i h6 hi) (old j h7 hj)
    · have := r.lt (List.mem_of_getElem? (old i h6 hi)); have := (new j h7 hj).2; omega
    · have := r.lt (List.mem_of_getElem? (old j h7 hj)); have := (new i h6 hi).2; omega
    · rw [(new i h6 hi).1, (new j h7 hj).1]
  · intro hm
    rcases List.mem_append.1 hm with hm | hm
    · have := r.lt hm; omega
    · exact h3 (by simpa using hm)
  · rw [cellsG_add r.len]; exact h5
  · rcases Nat.lt_or_ge k gs.length with hlt | hge
    · rw [List.getElem?_append_left (by rw [r.len]; exact hlt)] at hc
      rw [List.getElem?_append_left hlt] at hg
      obtain ⟨e1, e2, e3⟩ := r.each k c g hc hg
      refine ⟨e1, e2, hk c _ e3 fun e => ?_⟩
      rcases r.out with ⟨o1, _⟩ | ⟨b2, o1, _, o3, _⟩
      · rw [o1] at e; cases e
      · rw [o1] at e
        injection e with e
        exact o3 (e ▸ List.mem_of_getElem? hc)
    · rw [List.getElem?_append_right hge] at hg
      rw [List.getElem?_append_right (by rw [r.len]; exact hge), r.len] at hc
      have hk0 : k - gs.length = 0 := by have := (List.getElem?_eq_some_iff.1 hg).1; simp at this; omega
      rw [hk0] at hc hg
      obtain rfl : b = c := by simpa using hc
      obtain rfl : [s] = g := by simpa using hg
      exact ⟨by simp, by omega, h4⟩
/-- A group grows. -/
theorem Grp.put {lo : Nat} {h h' : AHeap} {x : AV} {bs : List Nat} {gs : List (List TSeen)} (r : Grp lo h x bs gs) (s : TSeen) {k b : Nat} {g : List TSeen} (hb : bs[k]? = some b) (hg : gs[k]? = some g) (bx b' : Nat) (hlo : lo ≤ h.length) (hx : x = .own bx 0 gs.length)
    (hk : ∀ c o, h[c]? = some o → c ≠ b → c ≠ bx → h'[c]? = some o) (h1 : h.length ≤ b')
    (h4 : h'[b']? = some (.cells 11 (g.map encSeen ++ [encSeen s]))) (h5 : h'[bx]? = some (.cells 1 ((cellsG bs gs).set k [.own b' 0 (g.length + 1)]))) : Grp lo h' x (bs.set k b') (gs.set k (g ++ [s])) := by
  have hbx : lo ≤ bx ∧ bx ∉ bs ∧ bx < h.length := by
    rcases r.out with ⟨o1, _⟩ | ⟨b2, o1, o2, o3, o4⟩
    · rw [o1] at hx; cases hx
    · rw [o1] at hx
      injection hx with hx
      subst hx
      exact ⟨o2, o3, (List.getElem?_eq_some_iff.1 o4).1⟩
  have hkl := (List.getElem?_eq_some_iff.1 hb).1
  have hnew : b' ∉ bs := fun hm => by have := r.lt hm; omega
  refine ⟨by simp [r.len], ?_, .inr ⟨bx, by rw [hx]; simp, hbx.1, ?_, ?_⟩, fun j c q hc hq => ?_⟩
  · intro i j c hi hj
    rw [List.getElem?_set] at hi hj
    by_cases e1 : k = i <;> by_cases e2 : k = j
    · omega
    · rw [if_pos e1, if_pos hkl] at hi
      rw [if_neg e2] at hj
      obtain rfl := Option.some.inj hi
      exact absurd (List.mem_of_getElem? hj) hnew
    · rw [if_pos e2, if_pos hkl] at hj
      rw [if_neg e1] at hi
      obtain rfl := Option.some.inj hj
      exact absurd (List.mem_of_getElem? hi) hnew
    · rw [if_neg e1] at hi
      rw [if_neg e2] at hj
      exact r.nodup i j c hi hj
  · intro hm
    rcases List.mem_or_eq_of_mem_set hm with hm | hm
    · exact hbx.2.1 hm
    · omega
  · rw [cellsG_set r.len, List.length_append]; exact h5
  · by_cases e : k = j
    · subst e
      rw [List.getElem?_set, if_pos rfl, if_pos (by omega)] at hc
      rw [List.getElem?_set, if_pos rfl, if_pos (by have := r.len; omega)] at hq
      obtain rfl := Option.some.inj hc
      obtain rfl := Option.some.inj hq
      exact ⟨by simp, by omega, by simpa using h4⟩
    · rw [List.getElem?_set, if_neg e] at hc hq
      obtain ⟨e1, e2, e3⟩ := r.each j c q hc hq
      refine ⟨e1, e2, hk c _ e3 (fun ec => ?_) (fun ec => ?_)⟩
      · subst ec
        exact e (r.nodup _ _ _ hb hc)
      · exact hbx.2.1 (ec ▸ List.mem_of_getElem? hc)
theorem Grp.frz {lo n : Nat} {h : AHeap} {x : AV} {bs : List Nat} {gs : List (List TSeen)} (r : Grp lo h x bs gs) (hn : n ≤ lo) : Frz n h x (.ro (gs.map fun g => [.ro (g.map encSeen)])) := by
  rcases r.out with ⟨rfl, rfl⟩ | ⟨bx, rfl, h1, h2, h3⟩
  · exact .nil
  · refine .own bx 0 gs.length 1 (cellsG bs gs) _ (by omega) h3 (by rw [cellsG_len r.len]; omega) (by simp) (fun i e e' he he' => ?_) (fun i e e' c y y' he he' hy hy' => ?_)
    · have hil : i < gs.length := by have := (List.getElem?_eq_some_iff.1 he').1; simpa using this
      obtain ⟨g, hg, _⟩ := get_lt hil
      obtain ⟨b, hb, _⟩ := get_lt (l := bs) (i := i) (by have := r.len; omega)
      rw [Nat.zero_add, cellsG_at hb hg] at he
      rw [List.getElem?_map, hg] at he'
      obtain rfl := Option.some.inj he
      obtain rfl := Option.some.inj he'
      rfl
    · have hil : i < gs.length := by have := (List.getElem?_eq_some_iff.1 he').1; simpa using this
      obtain ⟨g, hg, _⟩ := get_lt hil
      obtain ⟨b, hb, _⟩ := get_lt (l := bs) (i := i) (by have := r.len; omega)
      obtain ⟨_, e2, e3⟩ := r.each i b g hb hg
      rw [Nat.zero_add, cellsG_at hb hg] at he
      rw [List.getElem?_map, hg] at he'
      obtain rfl := Option.some.inj he
      obtain rfl := Option.some.inj he'
      cases c with
      | zero =>
        obtain rfl := Option.some.inj hy
        obtain rfl := Option.some.inj hy'
        exact Frz.ownD e3 (by omega) (by simp) (by rw [List.drop_zero, List.take_of_length_le (by simp)]) (fun e he y hy => by
          obtain ⟨s, _, rfl⟩ := List.mem_map.1 he
          simp at hy
          rcases hy with rfl | rfl | rfl | rfl | rfl | rfl | rfl | rfl | rfl | rfl | rfl <;> simp)
      | succ c => simp at hy
end Go.Toll
