/-
  One round of the search for a completion, step by step.
-/
import Derived.Test.YtonpmbppmmaheaaTollPaths
import Derived.Test.YtonpmbppmmaheaaTollBest
set_option linter.unusedVariables false
set_option linter.unusedSimpArgs false
namespace Go.Toll
open Go Go.Abs

def levI (v : Net) (S F : List Bytes) (i : Nat) : List Bytes × List Bytes := (F.take i).foldl (cplMore v) (S, [])
def levJ (v : Net) (S F : List Bytes) (i : Nat) (y : Bytes) (j : Nat) : List Bytes × List Bytes := ((nextL v y).take j).foldl cplAdd (levI v S F i)
section
variable {v : Net} {S F M p : List Bytes} {i j n : Nat} {x y t : Bytes}
theorem levI_zero (v : Net) (S F : List Bytes) : levI v S F 0 = (S, []) := rfl
theorem levJ_zero (v : Net) (S F : List Bytes) (i : Nat) (y : Bytes) : levJ v S F i y 0 = levI v S F i := rfl
theorem levI_all (v : Net) (S F : List Bytes) : levI v S F F.length = cplLev v S F := by rw [levI, List.take_length]; rfl
theorem levJ_succ (h : (nextL v y)[j]? = some x) : levJ v S F i y (j + 1) = cplAdd (levJ v S F i y j) x := by
  rw [levJ, List.take_add_one, h, Option.toList_some, List.foldl_append]; rfl
theorem levJ_all (h : F[i]? = some y) : levJ v S F i y (nextL v y).length = levI v S F (i + 1) := by
  rw [levJ, List.take_length, levI, levI, List.take_add_one, h, Option.toList_some, List.foldl_append]; rfl
theorem cplAdd_in (h : x ∈ S) : cplAdd (S, M) x = (S, M) := by rw [cplAdd, if_pos h]
theorem cplAdd_new (h : x ∉ S) : cplAdd (S, M) x = (S ++ [x], M ++ [x]) := by rw [cplAdd, if_neg h]
theorem cplB_hit (h : t ∈ F) : cplB v t (n + 1) S F = true := by rw [cplB, if_pos h]
theorem cplB_miss (h : t ∉ F) : cplB v t (n + 1) S F = cplB v t n (levI v S F F.length).1 (levI v S F F.length).2 := by rw [cplB, if_neg h, levI_all]
theorem cplB_end : cplB v t 0 S F = false := rfl
/-- What was seen is the path and new points, as many as were found in this round or more. -/
def Cp (v : Net) (p S M : List Bytes) : Prop := ∃ W, S = p ++ W ∧ W.Nodup ∧ (∀ z ∈ W, hasPt v.pts z = true) ∧ M.length ≤ W.length
theorem Cp.zero (v : Net) (p : List Bytes) : Cp v p p [] := ⟨[], by simp, by simp, by simp, by simp⟩
theorem Cp.new (c : Cp v p S M) : Cp v p S [] := by
  obtain ⟨W, h1, h2, h3, _⟩ := c
  exact ⟨W, h1, h2, h3, by simp⟩
theorem Cp.add (c : Cp v p S M) (hx : x ∉ S) (hp : hasPt v.pts x = true) : Cp v p (S ++ [x]) (M ++ [x]) := by
  obtain ⟨W, rfl, h2, h3, h4⟩ := c
  refine ⟨W ++ [x], by simp, ?_, fun z hz => ?_, by simp; omega⟩
  · rw [List.nodup_append]
    exact ⟨h2, by simp, fun a ha b hb e => by
      rw [List.mem_singleton.1 hb] at e
      exact hx (List.mem_append.2 (.inr (e ▸ ha)))⟩
  · rcases List.mem_append.1 hz with h | h
    · exact h3 z h
    · rw [List.mem_singleton.1 h]; exact hp
theorem Cp.len (c : Cp v p S M) (ok : NetOk v) : S.length ≤ p.length + 64 ∧ M.length ≤ 64 := by
  obtain ⟨W, rfl, h2, h3, h4⟩ := c
  have h1 := nodup_sub_len h2 (m := v.pts.map (·.name)) fun z hz => (hasPt_iff _ _).1 (h3 z hz)
  have := ok.plen
  rw [List.length_map] at h1
  rw [List.length_append]
  exact ⟨by omega, by omega⟩
theorem extF_stop {path : List Bytes} {f : List (List Bytes)} {k : Nat} (h : 1024 < (extF v t n path f k).length) : ∀ m, extF v t n path f (k + m) = extF v t n path f k
  | 0 => rfl
  | m + 1 => by
    have ih := extF_stop h m
    rw [← Nat.add_assoc]
    cases e : (nextL v (lastT path))[k + m]? with
    | none =>
      rw [extF, List.take_add_one, e, Option.toList_none, List.append_nil]
      exact ih
    | some x => rw [extF_succ e, ih, extS_neg (by rintro ⟨c, _⟩; omega)]
theorem lev_pt (ok : NetOk v) (h : x ∈ nextL v y) : hasPt v.pts x = true := by
  obtain ⟨k, hk, _, rfl⟩ := (nextL_mem v _ _).1 h
  exact (ok.ends k hk).2.1
end
end Go.Toll
