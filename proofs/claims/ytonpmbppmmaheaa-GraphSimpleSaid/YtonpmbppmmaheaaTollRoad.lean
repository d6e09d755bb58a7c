/-
  The prepared network: the points' names in ascending order, their numbers, and for each of them the roads that leave it.
-/
import Derived.Test.YtonpmbppmmaheaaTollGraph
set_option linter.unusedVariables false
set_option linter.unusedSimpArgs false
namespace Go.Toll
open Go Go.Abs

structure TRoad where
  to : Int
  min : Int
  max : Int
  deriving DecidableEq
def encRoad (r : TRoad) : List AV := [.int .i64 r.to, .int .i64 r.min, .int .i64 r.max]
@[simp] theorem encRoad_len (r : TRoad) : (encRoad r).length = 3 := rfl
@[simp] theorem encRoad_eq (r : TRoad) : encRoad r = [.int .i64 r.to, .int .i64 r.min, .int .i64 r.max] := rfl
def encNum (n : Nat) : AV := .int .i64 (n : Int)

/-- The number of a point. -/
def posN (v : Net) (s : Bytes) : Nat := (ptsN v).idxOf s
def roadOf (v : Net) (x : Lk) : TRoad := ⟨posN v x.dst, x.min, x.max⟩
def rowOf (v : Net) (s : Bytes) : List TRoad := (lksOf v s).map (roadOf v)
def rowsR (v : Net) : List (List TRoad) := (ptsN v).map (rowOf v)
/-- The map of the numbers. -/
def numM : Nat → List Bytes → List (Bytes × Nat)
  | _, [] => []
  | i, s :: l => (s, i) :: numM (i + 1) l
def atM (v : Net) : List (Bytes × Nat) := numM 0 (ptsN v)
def encRoads (v : Net) (m : Nat) : List AV := [.ro ((ptsN v).map encT), .map m, .ro ((rowsR v).map fun r => [.ro (r.map encRoad)])]

theorem numM_len : ∀ (l : List Bytes) (i : Nat), (numM i l).length = l.length
  | [], _ => rfl
  | s :: l, i => by rw [numM, List.length_cons, numM_len l (i + 1)]; rfl
theorem getS_numM (t : Bytes) : ∀ (l : List Bytes) (i : Nat), getS (numM i l) t = if t ∈ l then some (i + l.idxOf t) else none
  | [], i => rfl
  | s :: l, i => by
    have ih := getS_numM t l (i + 1)
    by_cases h : t = s
    · subst h
      simp [numM, getS]
    · have : getS (numM i (s :: l)) t = getS (numM (i + 1) l) t := by simp [numM, getS, h]
      rw [this, ih]
      by_cases hm : t ∈ l
      · rw [if_pos hm, if_pos (List.mem_cons_of_mem _ hm), List.idxOf_cons]
        rw [show (s == t) = false by simp; exact fun e => h e.symm]
        simp; omega
      · rw [if_neg hm, if_neg (by rw [List.mem_cons]; rintro (e | e); exact h e; exact hm e)]
theorem putS_new {α : Type} : ∀ (m : List (Bytes × α)) (t : Bytes) (x : α), t ∉ m.map (·.1) → putS m t x = m ++ [(t, x)]
  | [], t, x, _ => rfl
  | p :: m, t, x, h => by
    rw [List.map_cons, List.mem_cons, not_or] at h
    rw [putS, if_neg (by simpa using h.1), putS_new m t x h.2]; rfl
theorem numM_keys : ∀ (l : List Bytes) (i : Nat), (numM i l).map (·.1) = l
  | [], _ => rfl
  | s :: l, i => by rw [numM, List.map_cons, numM_keys l (i + 1)]
theorem numM_snoc (s : Bytes) : ∀ (l : List Bytes) (i : Nat), numM i (l ++ [s]) = numM i l ++ [(s, i + l.length)]
  | [], i => rfl
  | t :: l, i => by
    rw [List.cons_append, numM, numM_snoc s l (i + 1), numM]
    simp; omega
section
variable {v : Net}
theorem getS_atM (v : Net) (t : Bytes) : getS (atM v) t = if hasPt v.pts t = true then some (posN v t) else none := by
  rw [atM, getS_numM, posN]
  by_cases h : t ∈ ptsN v
  · rw [if_pos h, if_pos ((ptsN_mem v t).1 h), Nat.zero_add]
  · rw [if_neg h, if_neg (fun h' => h ((ptsN_mem v t).2 h'))]
theorem posN_lt {t : Bytes} (h : hasPt v.pts t = true) : posN v t < (ptsN v).length := List.idxOf_lt_length_iff.2 ((ptsN_mem v t).2 h)
theorem posN_get {t : Bytes} (h : hasPt v.pts t = true) : (ptsN v)[posN v t]? = some t := by
  have := posN_lt h
  rw [List.getElem?_eq_getElem this]
  exact congrArg some (List.getElem_idxOf this)
theorem posN_of (ok : NetOk v) {i : Nat} {s : Bytes} (h : (ptsN v)[i]? = some s) : hasPt v.pts s = true ∧ posN v s = i := by
  have hp := (ptsN_mem v s).1 (List.mem_of_getElem? h)
  exact ⟨hp, nodup_get ok.nodup (posN_get hp) h⟩
theorem posN_inj (ok : NetOk v) {s t : Bytes} (hs : hasPt v.pts s = true) (ht : hasPt v.pts t = true) (h : posN v s = posN v t) : s = t := by
  have h1 := posN_get hs
  rw [h, posN_get ht] at h1
  exact (Option.some.inj h1).symm
/-- The numbers ascend as the names do. -/
theorem posN_le (ok : NetOk v) {s t : Bytes} (hs : hasPt v.pts s = true) (ht : hasPt v.pts t = true) : posN v s ≤ posN v t ↔ s ≤ t := by
  have key : ∀ {s t : Bytes}, hasPt v.pts s = true → hasPt v.pts t = true → posN v s ≤ posN v t → s ≤ t := by
    intro s t hs ht h
    rcases Nat.lt_or_eq_of_le h with h | h
    · have h1 := posN_get hs
      have h2 := posN_get ht
      obtain ⟨b1, c1⟩ := List.getElem?_eq_some_iff.1 h1
      obtain ⟨b2, c2⟩ := List.getElem?_eq_some_iff.1 h2
      have := List.pairwise_iff_getElem.1 (ptsN_asc v) _ _ b1 b2 h
      rw [c1, c2] at this
      exact of_decide_eq_true this
    · rw [posN_inj ok hs ht h]; exact List.le_refl t
  refine ⟨key hs ht, fun h => ?_⟩
  rcases Nat.le_total (posN v s) (posN v t) with h1 | h1
  · exact h1
  · have := List.le_antisymm h (key ht hs h1)
    subst this
    exact Nat.le_refl _
theorem posN_lt' (ok : NetOk v) {s t : Bytes} (hs : hasPt v.pts s = true) (ht : hasPt v.pts t = true) : posN v s < posN v t ↔ s < t := by
  have := posN_le ok ht hs
  rw [← Nat.not_le, this]
  exact List.not_le
theorem rowsR_len (v : Net) : (rowsR v).length = (ptsN v).length := by simp [rowsR]
theorem rowsR_get {i : Nat} {s : Bytes} (h : (ptsN v)[i]? = some s) : (rowsR v)[i]? = some (rowOf v s) := by rw [rowsR, List.getElem?_map, h]; rfl
theorem rowOf_len (v : Net) (s : Bytes) : (rowOf v s).length ≤ v.lks.length := by rw [rowOf, List.length_map]; exact lksOf_len v s
theorem rowOf_get {v : Net} {s : Bytes} {k : Nat} {r : TRoad} (h : (rowOf v s)[k]? = some r) : ∃ x, (lksOf v s)[k]? = some x ∧ r = roadOf v x ∧ x ∈ v.lks ∧ x.src = s := by
  rw [rowOf, List.getElem?_map, Option.map_eq_some_iff] at h
  obtain ⟨x, h1, h2⟩ := h
  exact ⟨x, h1, h2.symm, (lksOf_mem v s x).1 (List.mem_of_getElem? h1)⟩
/-- Sorted by numbers, the roads are those of the links in ascending order. -/
theorem rowOf_sort (ok : NetOk v) (s : Bytes) : ((v.lks.filter fun x => decide (x.src = s)).map (roadOf v)).mergeSort (fun a b => decide (a.to ≤ b.to)) = rowOf v s := by
  rw [rowOf, lksOf, ← List.map_mergeSort (r := fun x y : Lk => decide (x.dst ≤ y.dst)) (s := fun a b : TRoad => decide (a.to ≤ b.to)) (f := roadOf v)]
  intro a ha b hb
  have h1 := (ok.ends a (List.mem_filter.1 ha).1).2.1
  have h2 := (ok.ends b (List.mem_filter.1 hb).1).2.1
  have := posN_le ok h1 h2
  exact decide_eq_decide.2 (this.symm.trans (by simp [roadOf]))
theorem rowRaw_nd (ok : NetOk v) (s : Bytes) : (((v.lks.filter fun x => decide (x.src = s)).map (roadOf v)).map (·.to)).Nodup := by
  rw [List.map_map]
  have h := ok.dstnd s
  have h2 : ((v.lks.filter fun x => decide (x.src = s)).map (·.dst)).Nodup := (((List.mergeSort_perm _ _).map _).nodup_iff).1 h
  refine List.pairwise_map.2 ?_
  have h3 := List.pairwise_map.1 h2
  refine List.Pairwise.imp_of_mem ?_ h3
  intro a b ha hb hne e
  have h1 := (ok.ends a (List.mem_filter.1 ha).1).2.1
  have h2 := (ok.ends b (List.mem_filter.1 hb).1).2.1
  simp only [Function.comp, roadOf] at e
  exact hne (posN_inj ok h1 h2 (by omega))

/-! ### Parts of lists that are read -/
def upTo {α : Type} (l : List α) (i : Nat) : List α := l.take i
theorem upTo_zero {α : Type} (l : List α) : upTo l 0 = [] := rfl
theorem upTo_succ {α : Type} {l : List α} {i : Nat} {x : α} (h : l[i]? = some x) : upTo l (i + 1) = upTo l i ++ [x] := by rw [upTo, List.take_add_one, h]; rfl
theorem upTo_all {α : Type} {l : List α} {i : Nat} (h : l.length ≤ i) : upTo l i = l := List.take_of_length_le h
theorem upTo_len {α : Type} (l : List α) (i : Nat) : (upTo l i).length ≤ i := by simp [upTo]; omega
theorem rowOf_at {v : Net} {s : Bytes} (ok : NetOk v) {k : Nat} {r : TRoad} (h : (rowOf v s)[k]? = some r) : ∃ x, (nextL v s)[k]? = some x.dst ∧ r = roadOf v x ∧ x ∈ v.lks ∧ x.src = s ∧ (ptsN v)[posN v x.dst]? = some x.dst ∧ hasPt v.pts x.dst = true := by
  obtain ⟨x, h1, h2, h3, h4⟩ := rowOf_get h
  have h5 := (ok.ends x h3).2.1
  exact ⟨x, by rw [nextL, List.getElem?_map, h1]; rfl, h2, h3, h4, posN_get h5, h5⟩
theorem rowOf_nextlen (v : Net) (s : Bytes) : (rowOf v s).length = (nextL v s).length := by simp [rowOf, nextL]

/-- The road to a point, by its number. -/
theorem road_to (ok : NetOk v) {s t : Bytes} (ht : hasPt v.pts t = true) : (idxI (fun r : TRoad => decide (r.to = posN v t)) (rowOf v s) = -1 ∧ lkOf v s t = none) ∨
    ∃ (k : Nat) (x : Lk), idxI (fun r : TRoad => decide (r.to = posN v t)) (rowOf v s) = (k : Int) ∧ (rowOf v s)[k]? = some (roadOf v x) ∧ lkOf v s t = some x := by
  rcases idxI_spec (fun r : TRoad => decide (r.to = posN v t)) (rowOf v s) with ⟨h1, h2⟩ | ⟨k, r, h1, h2, h3⟩
  · left
    refine ⟨h1, ?_⟩
    cases e : lkOf v s t with
    | none => rfl
    | some x =>
      obtain ⟨m, e1, e2⟩ := lkOf_some e
      have := List.find?_eq_none.1 h2 (roadOf v x) (List.mem_map_of_mem ((lksOf_mem v s x).2 ⟨m, e1⟩))
      simp [roadOf, e2] at this
  · right
    obtain ⟨x, x1, rfl, x3, x4, x5, x6⟩ := rowOf_at ok h2
    have hp := List.find?_some h3
    have : posN v x.dst = posN v t := by have := of_decide_eq_true hp; simp only [roadOf] at this; omega
    have e := posN_inj ok x6 ht this
    refine ⟨k, x, h1, h2, ?_⟩
    rw [← x4, ← e]; exact ok.lkOf x3

/-! ### While the names and the numbers are collected -/
def pfxN (n : Net) (i : Nat) : List Bytes := (n.pts.take i).map (·.name)
theorem pfxN_zero (n : Net) : pfxN n 0 = [] := rfl
theorem pfxN_succ {n : Net} {i : Nat} {p : Pt} (h : n.pts[i]? = some p) : pfxN n (i + 1) = pfxN n i ++ [p.name] := by rw [pfxN, List.take_add_one, h]; simp [pfxN]
theorem pfxN_all (n : Net) : pfxN n n.pts.length = n.pts.map (·.name) := by rw [pfxN, List.take_length]
theorem pfxN_len (n : Net) (i : Nat) : (pfxN n i).length ≤ i := by simp [pfxN]; omega
def numK (v : Net) (i : Nat) : List (AV × AV) := sM encNum (numM 0 ((ptsN v).take i))
theorem numK_zero (v : Net) : numK v 0 = [] := rfl
theorem numK_all (v : Net) : numK v (ptsN v).length = sM encNum (atM v) := by rw [numK, List.take_length]; rfl
theorem numK_succ (ok : NetOk v) {i : Nat} {s : Bytes} (h : (ptsN v)[i]? = some s) : aset (numK v i) (.str s) (.int .i64 i) = numK v (i + 1) := by
  have hlt := lt_of_get h
  have hnot : s ∉ (ptsN v).take i := fun hm => by
    obtain ⟨j, hj⟩ := List.getElem?_of_mem hm
    have hj2 := lt_of_get hj
    rw [List.length_take] at hj2
    rw [List.getElem?_take_of_lt (by omega)] at hj
    have := nodup_get ok.nodup hj h
    omega
  rw [numK, numK, List.take_add_one, h, show AV.int .i64 (i : Int) = encNum i from rfl, aset_sM, putS_new _ _ _ (by rw [numM_keys]; exact hnot)]
  rw [Option.toList_some, numM_snoc, List.length_take, Nat.min_eq_left (by omega), Nat.zero_add]

/-! ### While the rows grow -/
/-- The rows after some links, in the links' order. -/
def rawRows (v : Net) (ls : List Lk) : List (List TRoad) := (ptsN v).map fun s => (ls.filter fun x => decide (x.src = s)).map (roadOf v)
theorem rawRows_nil (v : Net) : rawRows v [] = List.replicate (ptsN v).length [] := by
  exact List.eq_replicate_iff.2 ⟨by simp [rawRows], fun b hb => by simp [rawRows] at hb; exact hb.2⟩
theorem rawRows_snoc (ok : NetOk v) (ls : List Lk) {x : Lk} (hx : hasPt v.pts x.src = true) : rawRows v (ls ++ [x]) = (rawRows v ls).set (posN v x.src) ((((ls.filter fun y => decide (y.src = x.src)).map (roadOf v))) ++ [roadOf v x]) := by
  refine List.ext_getElem? fun i => ?_
  rw [List.getElem?_set]
  by_cases e : posN v x.src = i
  · subst e
    rw [if_pos rfl, if_pos (by rw [rawRows, List.length_map]; exact posN_lt hx), rawRows, List.getElem?_map, posN_get hx]
    simp
  · rw [if_neg e, rawRows, rawRows, List.getElem?_map, List.getElem?_map]
    cases h : (ptsN v)[i]? with
    | none => rfl
    | some s =>
      simp only [Option.map_some, List.filter_append, List.map_append]
      have : ¬ x.src = s := by rintro rfl; exact e (posN_of ok h).2
      simp [this]
theorem rawRows_get {ls : List Lk} {s : Bytes} {i : Nat} (h : (ptsN v)[i]? = some s) : (rawRows v ls)[i]? = some ((ls.filter fun x => decide (x.src = s)).map (roadOf v)) := by rw [rawRows, List.getElem?_map, h]; rfl
def rawI (v : Net) (j : Nat) : List (List (List AV)) := (rawRows v (v.lks.take j)).map fun r => r.map encRoad
def rawC (v : Net) (j : Nat) (s : Bytes) : List (List AV) := (((v.lks.take j).filter fun x => decide (x.src = s)).map (roadOf v)).map encRoad
theorem rawI_zero (v : Net) : rawI v 0 = List.replicate (ptsN v).length [] := by rw [rawI, List.take_zero, rawRows_nil, List.map_replicate]; rfl
theorem rawI_all (v : Net) : rawI v v.lks.length = (rawRows v v.lks).map fun r => r.map encRoad := by rw [rawI, List.take_length]
theorem rawI_get {j : Nat} {s : Bytes} (h : hasPt v.pts s = true) : (rawI v j)[posN v s]? = some (rawC v j s) := by rw [rawI, List.getElem?_map, rawRows_get (posN_get h)]; rfl
theorem rawI_succ (ok : NetOk v) {j : Nat} {x : Lk} (h : v.lks[j]? = some x) : rawI v (j + 1) = (rawI v j).set (posN v x.src) (rawC v j x.src ++ [encRoad (roadOf v x)]) := by
  rw [rawI, List.take_add_one, h, Option.toList_some, rawRows_snoc ok _ (ok.ends x (List.mem_of_getElem? h)).1, List.map_set, List.map_append]
  rfl
theorem rawC_len (v : Net) (j : Nat) (s : Bytes) : (rawC v j s).length ≤ v.lks.length := by
  rw [rawC, List.length_map, List.length_map]
  exact Nat.le_trans (List.length_filter_le _ _) (by simp; omega)
/-- The first rows sorted. -/
def midRows (v : Net) (i : Nat) : List (List TRoad) := (rowsR v).take i ++ (rawRows v v.lks).drop i
theorem midRows_zero (v : Net) : midRows v 0 = rawRows v v.lks := by simp [midRows]
theorem midRows_all (v : Net) : midRows v (ptsN v).length = rowsR v := by
  rw [midRows, List.take_of_length_le (by rw [rowsR_len]; exact Nat.le_refl _), List.drop_of_length_le (by rw [rawRows, List.length_map]; exact Nat.le_refl _), List.append_nil]
theorem midRows_len (v : Net) (i : Nat) : (midRows v i).length = (ptsN v).length := by
  simp [midRows, rowsR, rawRows]; omega
theorem midRows_get {s : Bytes} {i : Nat} (h : (ptsN v)[i]? = some s) : (midRows v i)[i]? = some ((v.lks.filter fun x => decide (x.src = s)).map (roadOf v)) := by
  have hl := (List.getElem?_eq_some_iff.1 h).1
  rw [midRows, List.getElem?_append_right (by rw [List.length_take, rowsR_len]; omega), List.length_take, rowsR_len, Nat.min_eq_left (by omega), Nat.sub_self, List.getElem?_drop, Nat.add_zero, rawRows_get h]
def midI (v : Net) (i : Nat) : List (List (List AV)) := (midRows v i).map fun r => r.map encRoad
def rawS (v : Net) (s : Bytes) : List TRoad := (v.lks.filter fun x => decide (x.src = s)).map (roadOf v)
theorem midI_zero (v : Net) : midI v 0 = rawI v v.lks.length := by rw [midI, midRows_zero, rawI_all]
theorem midI_all (v : Net) : midI v (ptsN v).length = (rowsR v).map fun r => r.map encRoad := by rw [midI, midRows_all]
theorem midI_get {s : Bytes} {i : Nat} (h : (ptsN v)[i]? = some s) : (midI v i)[i]? = some ((rawS v s).map encRoad) := by rw [midI, List.getElem?_map, midRows_get h]; rfl
theorem midRows_set {s : Bytes} {i : Nat} (h : (ptsN v)[i]? = some s) : (midRows v i).set i (rowOf v s) = midRows v (i + 1) := by
  have hl := (List.getElem?_eq_some_iff.1 h).1
  have hr := rawRows_get (ls := v.lks) h
  rw [midRows, midRows, List.set_append, if_neg (by rw [List.length_take, rowsR_len]; omega), List.length_take, rowsR_len, Nat.min_eq_left (by omega), Nat.sub_self]
  obtain ⟨hrl, hre⟩ := List.getElem?_eq_some_iff.1 hr
  rw [List.drop_eq_getElem_cons hrl, List.set_cons_zero, List.take_add_one, rowsR_get h]
  simp
theorem midI_succ {s : Bytes} {i : Nat} (h : (ptsN v)[i]? = some s) : (midI v i).set i ((rowOf v s).map encRoad) = midI v (i + 1) := by
  rw [midI, midI, ← midRows_set h, List.map_set]
end
end Go.Toll
