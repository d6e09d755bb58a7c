/-
  Searches with a queue: the points that can be reached.
-/
import Derived.Test.YtonpmbppmmaheaaTollRoad
import Derived.Test.YtonpmbppmmaheaaTollPaths
set_option linter.unusedVariables false
set_option linter.unusedSimpArgs false
namespace Go.Toll
open Go Go.Abs

def seenT (v : Net) (sn : List Bool) (t : Bytes) : Bool := sn.getD (posN v t) false
structure Bfs (v : Net) (a : Bytes) (sn : List Bool) (Q : List Bytes) : Prop where
  len : sn.length = (ptsN v).length
  root : seenT v sn a = true
  qs : ∀ t ∈ Q, hasPt v.pts t = true ∧ seenT v sn t = true
  reach : ∀ t, hasPt v.pts t = true → seenT v sn t = true → Rch v a t
  closed : ∀ t, hasPt v.pts t = true → seenT v sn t = true → t ∈ Q ∨ ∀ x ∈ v.lks, x.src = t → seenT v sn x.dst = true
structure BfsM (v : Net) (a : Bytes) (sn : List Bool) (Q : List Bytes) (u : Bytes) (k : Nat) : Prop where
  len : sn.length = (ptsN v).length
  root : seenT v sn a = true
  qs : ∀ t ∈ Q, hasPt v.pts t = true ∧ seenT v sn t = true
  reach : ∀ t, hasPt v.pts t = true → seenT v sn t = true → Rch v a t
  at' : hasPt v.pts u = true ∧ seenT v sn u = true
  done : ∀ j t, j < k → (nextL v u)[j]? = some t → seenT v sn t = true
  closed : ∀ t, hasPt v.pts t = true → seenT v sn t = true → t = u ∨ t ∈ Q ∨ ∀ x ∈ v.lks, x.src = t → seenT v sn x.dst = true
section
variable {v : Net} {a : Bytes} {sn : List Bool} {Q : List Bytes}
theorem seenT_set {s t : Bytes} (ok : NetOk v) (hl : sn.length = (ptsN v).length) (hs : hasPt v.pts s = true) (ht : hasPt v.pts t = true) : seenT v (sn.set (posN v s) true) t = (decide (t = s) || seenT v sn t) := by
  unfold seenT
  rw [List.getD_eq_getElem?_getD, List.getD_eq_getElem?_getD]
  by_cases e : t = s
  · subst e
    rw [List.getElem?_set_self (by rw [hl]; exact posN_lt ht)]; simp
  · rw [List.getElem?_set_ne (fun h => e (posN_inj ok hs ht h).symm)]; simp [e]
theorem Bfs.start (ok : NetOk v) (ha : hasPt v.pts a = true) : Bfs v a ((List.replicate (ptsN v).length false).set (posN v a) true) [a] := by
  have hl : (List.replicate (ptsN v).length false).length = (ptsN v).length := by simp
  have h0 : ∀ t, seenT v (List.replicate (ptsN v).length false) t = false := fun t => by
    unfold seenT
    rw [List.getD_eq_getElem?_getD, List.getElem?_replicate]
    split <;> rfl
  have hr : seenT v ((List.replicate (ptsN v).length false).set (posN v a) true) a = true := by rw [seenT_set ok hl ha ha]; simp
  refine ⟨by simp, hr, fun t ht => ?_, fun t ht hs => ?_, fun t ht hs => ?_⟩
  · rw [List.mem_singleton.1 ht]; exact ⟨ha, hr⟩
  · rw [seenT_set ok hl ha ht, h0] at hs
    rw [show t = a by simpa using hs]; exact Rch.refl a
  · rw [seenT_set ok hl ha ht, h0] at hs
    exact .inl (by simpa using hs)
theorem Bfs.pop {u : Bytes} (b : Bfs v a sn (u :: Q)) : BfsM v a sn Q u 0 := by
  refine ⟨b.len, b.root, fun t ht => b.qs t (List.mem_cons_of_mem _ ht), b.reach, b.qs u List.mem_cons_self, fun j t hj => by omega, fun t ht hs => ?_⟩
  rcases b.closed t ht hs with h | h
  · rcases List.mem_cons.1 h with rfl | h
    · exact .inl rfl
    · exact .inr (.inl h)
  · exact .inr (.inr h)
theorem BfsM.old {u d : Bytes} {k : Nat} (b : BfsM v a sn Q u k) (hd : (nextL v u)[k]? = some d) (hs : seenT v sn d = true) : BfsM v a sn Q u (k + 1) := by
  refine ⟨b.len, b.root, b.qs, b.reach, b.at', fun j t hj h => ?_, b.closed⟩
  rcases Nat.lt_or_ge j k with h1 | h1
  · exact b.done j t h1 h
  · obtain rfl : j = k := by omega
    rw [hd] at h
    obtain rfl := Option.some.inj h
    exact hs
theorem next_pt (ok : NetOk v) {u d : Bytes} (h : d ∈ nextL v u) : hasPt v.pts d = true := by
  obtain ⟨x, hx, _, rfl⟩ := (nextL_mem v u d).1 h
  exact (ok.ends x hx).2.1
theorem BfsM.new (ok : NetOk v) {u d : Bytes} {k : Nat} (b : BfsM v a sn Q u k) (hd : (nextL v u)[k]? = some d) : BfsM v a (sn.set (posN v d) true) (Q ++ [d]) u (k + 1) := by
  have hdm := List.mem_of_getElem? hd
  have hdp := next_pt ok hdm
  have mono : ∀ t, hasPt v.pts t = true → seenT v sn t = true → seenT v (sn.set (posN v d) true) t = true := fun t ht h => by rw [seenT_set ok b.len hdp ht, h]; simp
  have hdd : seenT v (sn.set (posN v d) true) d = true := by rw [seenT_set ok b.len hdp hdp]; simp
  have hroot : seenT v (sn.set (posN v d) true) a = true := by
    rw [seenT, List.getD_eq_getElem?_getD]
    by_cases e : posN v d = posN v a
    · have := posN_lt hdp
      rw [← e, List.getElem?_set_self (by rw [b.len]; exact this)]; rfl
    · rw [List.getElem?_set_ne e]
      have := b.root
      rw [seenT, List.getD_eq_getElem?_getD] at this
      exact this
  refine ⟨by rw [List.length_set]; exact b.len, hroot, fun t ht => ?_, fun t ht hs => ?_, ⟨b.at'.1, mono _ b.at'.1 b.at'.2⟩, fun j t hj h => ?_, fun t ht hs => ?_⟩
  · rcases List.mem_append.1 ht with ht | ht
    · exact ⟨(b.qs t ht).1, mono t (b.qs t ht).1 (b.qs t ht).2⟩
    · rw [List.mem_singleton.1 ht]; exact ⟨hdp, hdd⟩
  · rw [seenT_set ok b.len hdp ht] at hs
    by_cases e : t = d
    · subst e
      obtain ⟨x, hx, e1, e2⟩ := (nextL_mem v u t).1 hdm
      rw [← e2]
      exact (b.reach x.src (by rw [e1]; exact b.at'.1) (by rw [e1]; exact b.at'.2)).step ok hx
    · exact b.reach t ht (by simpa [e] using hs)
  · rcases Nat.lt_or_ge j k with h1 | h1
    · exact mono t (next_pt ok (List.mem_of_getElem? h)) (b.done j t h1 h)
    · obtain rfl : j = k := by omega
      rw [hd] at h
      obtain rfl := Option.some.inj h
      exact hdd
  · rw [seenT_set ok b.len hdp ht] at hs
    by_cases e : t = d
    · subst e; exact .inr (.inl (by simp))
    · rcases b.closed t ht (by simpa [e] using hs) with h | h | h
      · exact .inl h
      · exact .inr (.inl (by simp [h]))
      · exact .inr (.inr fun x hx hxs => mono _ (ok.ends x hx).2.1 (h x hx hxs))
theorem BfsM.finish (ok : NetOk v) {u : Bytes} (b : BfsM v a sn Q u (nextL v u).length) : Bfs v a sn Q := by
  refine ⟨b.len, b.root, b.qs, b.reach, fun t ht hs => ?_⟩
  rcases b.closed t ht hs with rfl | h | h
  · right
    intro x hx hxs
    have hm : x.dst ∈ nextL v t := (nextL_mem v t x.dst).2 ⟨x, hx, hxs, rfl⟩
    obtain ⟨j, hj⟩ := List.getElem?_of_mem hm
    exact b.done j _ (List.getElem?_eq_some_iff.1 hj).1 hj
  · exact .inl h
  · exact .inr h
theorem Bfs.result (ok : NetOk v) (ha : hasPt v.pts a = true) (b : Bfs v a sn []) : (ptsN v).filter (seenT v sn) = reachL v a := by
  have key : (ptsN v).filter (seenT v sn) = (ptsN v).filter (fun t => hasPt v.pts t && seenT v sn t) := by
    refine List.filter_congr fun t ht => ?_
    rw [(ptsN_mem v t).1 ht]; rfl
  rw [key]
  refine reachL_filter ok a ha _ (by simp [ha, b.root]) (fun x hx h => ?_) (fun t h => ?_)
  · rw [Bool.and_eq_true] at h ⊢
    rcases b.closed x.src h.1 h.2 with hc | hc
    · cases hc
    · exact ⟨(ok.ends x hx).2.1, hc x hx rfl⟩
  · rw [Bool.and_eq_true] at h
    exact b.reach t h.1 h.2
def seenTo (v : Net) (sn : List Bool) (i : Nat) : List Bytes := ((ptsN v).take i).filter (seenT v sn)
theorem seenTo_zero (v : Net) (sn : List Bool) : seenTo v sn 0 = [] := rfl
theorem seenTo_succ {i : Nat} {t : Bytes} (h : (ptsN v)[i]? = some t) : seenTo v sn (i + 1) = if seenT v sn t = true then seenTo v sn i ++ [t] else seenTo v sn i := by
  rw [seenTo, List.take_add_one, h, Option.toList_some, List.filter_append]
  by_cases e : seenT v sn t = true <;> simp [e, seenTo]
theorem seenTo_all (v : Net) (sn : List Bool) : seenTo v sn (ptsN v).length = (ptsN v).filter (seenT v sn) := by rw [seenTo, List.take_length]
theorem seenTo_len (v : Net) (sn : List Bool) (i : Nat) : (seenTo v sn i).length ≤ i := Nat.le_trans (List.length_filter_le _ _) (by simp; omega)
theorem seenT_get {t : Bytes} (hl : sn.length = (ptsN v).length) (ht : hasPt v.pts t = true) : sn[posN v t]? = some (seenT v sn t) := by
  have h : posN v t < sn.length := by rw [hl]; exact posN_lt ht
  rw [seenT, List.getD_eq_getElem?_getD, List.getElem?_eq_getElem h]; rfl
/-- What is left to be seen. -/
theorem unseen_set {sn : List Bool} {i : Nat} (h : sn[i]? = some false) : (sn.set i true).count false + 1 = sn.count false := by
  induction sn generalizing i with
  | nil => simp at h
  | cons b sn ih =>
    cases i with
    | zero => simp at h; subst h; simp
    | succ i =>
      have := ih (i := i) (by simpa using h)
      rw [List.set_cons_succ, List.count_cons, List.count_cons]
      omega
end
end Go.Toll
