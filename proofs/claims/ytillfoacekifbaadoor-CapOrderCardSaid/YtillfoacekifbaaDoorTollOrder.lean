/-
  Caps: the order of the charges does not matter, nor does one more charge that is later than all. No program in sight.
-/
import Derived.Test.YtillfoacekifbaaDoorTollNever
set_option linter.unusedVariables false
set_option linter.unusedSimpArgs false
namespace Go.Toll
open Go Go.Abs

def sameAt (ch : List TChg) (i k : Nat) : Bool := decide ((chD ch i).time = (chD ch k).time) && decide ((chD ch i).key = (chD ch k).key)
def sameB (ch : List TChg) : Bool := (List.range ch.length).any fun i => (List.range i).any fun k => sameAt ch i k
theorem same_none {ch : List TChg} (h : sameB ch = false) {i k : Nat} (hi : i < ch.length) (hk : k < ch.length) (hz : chgCmp (chD ch i) (chD ch k) = 0) : i = k := by
  have key : ∀ i k, i < ch.length → k < i → chgCmp (chD ch i) (chD ch k) ≠ 0 := by
    intro i k hi hk hz
    have : sameB ch = true := by
      refine List.any_eq_true.2 ⟨i, List.mem_range.2 hi, List.any_eq_true.2 ⟨k, List.mem_range.2 hk, ?_⟩⟩
      rw [chgCmp] at hz
      have ht : (chD ch i).time = (chD ch k).time := by
        by_cases e : cmpI (chD ch i).time (chD ch k).time = 0
        · exact cmpI_zero.1 e
        · rw [if_neg e] at hz; exact absurd hz e
      rw [if_pos (cmpI_zero.2 ht)] at hz
      simp [sameAt, ht, cmpS_zero.1 hz]
    rw [this] at h; cases h
  rcases Nat.lt_trichotomy i k with h1 | h1 | h1
  · exact absurd ((ord3_chg.zero).1 hz) (key k i hk h1)
  · exact h1
  · exact absurd hz (key i k hi h1)

theorem chD_rev {ch : List TChg} {i : Nat} (hi : i < ch.length) : chD ch.reverse (ch.length - 1 - i) = chD ch i := by
  have h1 : ch.reverse[ch.length - 1 - i]? = ch[i]? := by
    rw [List.getElem?_reverse (by omega)]; congr 1; omega
  rw [chD, chD, List.getD_eq_getElem?_getD, List.getD_eq_getElem?_getD, h1]
theorem ord_rev {ch : List TChg} (h : sameB ch = false) : ordI ch.reverse = (ordI ch).map fun i => ch.length - 1 - i := by
  refine pw_uniq (ord_pw _) ?_ fun i => ?_
  · have hp := ord_pw ch
    have hnd := hp.nodup
    unfold Pw at hp ⊢
    rw [List.pairwise_map]
    have hp2 := List.Pairwise.and hp hnd
    refine List.Pairwise.imp_of_mem ?_ hp2
    intro a b ha hb hab
    have hal := ord_mem.1 ha
    have hbl := ord_mem.1 hb
    rw [chD_rev hal, chD_rev hbl, firstB_iff]
    rcases (firstB_iff _ _ _ _).1 hab.1 with h1 | h1
    · exact .inl h1
    · exact absurd (same_none h hal hbl h1.1) hab.2
  · rw [ord_mem, List.length_reverse, List.mem_map]
    constructor
    · intro hi
      exact ⟨ch.length - 1 - i, ord_mem.2 (by omega), by omega⟩
    · rintro ⟨j, hj, rfl⟩
      have := ord_mem.1 hj
      omega
theorem app_rev (l : List TCap) {ch : List TChg} (h : sameB ch = false) {i : Nat} (hi : i < ch.length) : (appApply l ch.reverse)[ch.length - 1 - i]? = (appApply l ch)[i]? := by
  obtain ⟨j, hj⟩ := List.getElem?_of_mem (ord_mem.2 hi)
  have h1 := (app_get l ch).2.2 j i hj
  have h2 := (app_get l ch.reverse).2.2 j (ch.length - 1 - i) (by rw [ord_rev h]; simp [hj])
  have h3 : (ordI ch.reverse).map (chD ch.reverse) = (ordI ch).map (chD ch) := by
    rw [ord_rev h, List.map_map]
    exact List.map_congr_left fun a ha => chD_rev (ord_mem.1 ha)
  rw [h3] at h2
  rw [h2, h1]
theorem apply_rev {l : List TCap} {ch : List TChg} (h : applyErr l ch = 0) : applyErr l ch.reverse = 0 := by
  rw [applyErr] at h ⊢
  rw [List.length_reverse]
  split at h
  · simp at h
  · rename_i h1
    rw [if_neg h1]
    split at h
    · rename_i h2; exact absurd h h2
    · rename_i h2
      rw [if_neg h2]
      exact firstI_zero.2 fun x hx => firstI_zero.1 h x (List.mem_reverse.1 hx)

theorem chD_app {ch : List TChg} {m : TChg} {i : Nat} (hi : i < ch.length) : chD (ch ++ [m]) i = chD ch i := by
  rw [chD, chD, List.getD_eq_getElem?_getD, List.getD_eq_getElem?_getD, List.getElem?_append_left hi]
theorem chD_new (ch : List TChg) (m : TChg) : chD (ch ++ [m]) ch.length = m := by
  rw [chD, List.getD_eq_getElem?_getD]; simp
theorem ord_more {ch : List TChg} {m : TChg} (h : ∀ x ∈ ch, x.time < m.time) : ordI (ch ++ [m]) = ordI ch ++ [ch.length] := by
  refine pw_uniq (ord_pw _) ?_ fun i => ?_
  · refine List.pairwise_append.2 ⟨?_, List.pairwise_singleton _ _, fun a ha b hb => ?_⟩
    · refine List.Pairwise.imp_of_mem ?_ (ord_pw ch)
      intro a b ha hb hab
      rw [chD_app (ord_mem.1 ha), chD_app (ord_mem.1 hb)]; exact hab
    · have hal := ord_mem.1 ha
      obtain rfl : b = ch.length := by simpa using hb
      rw [chD_app hal, chD_new, firstB_iff]
      refine .inl ?_
      have hx : ch[a]? = some ch[a] := List.getElem?_eq_getElem hal
      have := h _ (List.mem_of_getElem? hx)
      rw [chD_get hx, chgCmp]
      have hc : cmpI ch[a].time m.time = -1 := by unfold cmpI; rw [if_pos this]
      rw [if_neg (by rw [hc]; omega), hc]; omega
  · rw [ord_mem, List.mem_append, ord_mem, List.length_append, List.mem_singleton, List.length_singleton]
    omega
theorem app_more (l : List TCap) {ch : List TChg} {m : TChg} (h : ∀ x ∈ ch, x.time < m.time) : (appApply l (ch ++ [m])).take ch.length = appApply l ch := by
  refine List.ext_getElem? fun i => ?_
  have hl := (app_get l ch).2.1
  rcases Nat.lt_or_ge i ch.length with hi | hi
  · rw [List.getElem?_take_of_lt hi]
    obtain ⟨j, hj⟩ := List.getElem?_of_mem (ord_mem.2 hi)
    have hjl := (List.getElem?_eq_some_iff.1 hj).1
    have h1 := (app_get l ch).2.2 j i hj
    have h2 := (app_get l (ch ++ [m])).2.2 j i (by rw [ord_more h, List.getElem?_append_left hjl]; exact hj)
    have h3 : (ordI (ch ++ [m])).map (chD (ch ++ [m])) = (ordI ch).map (chD ch) ++ [m] := by
      rw [ord_more h, List.map_append, List.map_singleton, chD_new]
      congr 1
      exact List.map_congr_left fun a ha => chD_app (ord_mem.1 ha)
    rw [h3, paySeq_append] at h2
    obtain ⟨t, ht⟩ := paySeq_pre l [m] (paySeq l [] ((ordI ch).map (chD ch)))
    rw [ht, List.getElem?_append_left (by rw [paySeq_len]; simp; exact hjl)] at h2
    rw [h2, h1]
  · rw [List.getElem?_eq_none (by rw [List.length_take]; omega), List.getElem?_eq_none (by omega)]
end Go.Toll
