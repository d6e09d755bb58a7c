/-
  Contracts: the library's insertion sort, and its stable sort of short lists (Dev).
-/
import Derived.Test.YtiidghfioofpkaaGreatTab
import Derived.Test.YtiidghfioofpkaaGreatAbsList
import Derived.Test.YtiidghfioofpkaaGreatAbsSort
import Derived.Test.YtiidghfioofpkaaGreatTollBase
set_option linter.unusedVariables false
set_option linter.unusedSimpArgs false
set_option maxRecDepth 100000
namespace Go.Proofs.YtiidghfioofpkaaGreat
open Go Go.Abs Go.Toll
variable {gl : Globs} {h : AHeap}

theorem insertionSort_Dev (b : Nat) (pre seg post : List (List AV)) (hb : b < h.length) (hn : ∀ e ∈ pre ++ seg ++ post, e.length = 6) (hl : (pre ++ seg ++ post).length ≤ 1000000) (f : FuncId) (caps : List AV) (c : List AV → List AV → Int)
    (hc : ∀ x ∈ seg, ∀ y ∈ seg, ∀ o, ACalls Tryz.prog gl f (.agg x :: .agg y :: caps) (h.set b o) fun v h' => v = .int .i64 (c x y) ∧ h' = h.set b o) :
    ACalls Tryz.prog gl 132 [.own b 0 (pre ++ seg ++ post).length, .int .i64 pre.length, .int .i64 (pre.length + seg.length : Nat), .fn (.func f) [] caps] (h.set b (.cells 6 (pre ++ seg ++ post)))
      fun v h' => v = .tup [] ∧ h' = h.set b (.cells 6 (pre ++ sortR (fun x y => decide (c x y < 0)) seg ++ post)) := by
  refine ACalls.body Tryz.f132 _ mixed Tryz.func132 rfl rfl (by simp [Tryz.ntmps132]) ?_
  have hl' : pre.length + seg.length + post.length ≤ 1000000 := by simpa [Nat.add_assoc] using hl
  have ew := wrap_succ' (i := pre.length) (by omega)
  simp [ew]
  refine AWP.up mixed (seg.length + 1) (fun i fr h' => fr 0 = .own b 0 (pre ++ seg ++ post).length ∧ fr 1 = .int .i64 pre.length ∧ fr 2 = .int .i64 (pre.length + seg.length : Nat) ∧ fr 3 = .fn (.func f) [] caps ∧ fr 8 = .int .i64 (pre.length + i : Nat) ∧ 1 ≤ i ∧
    h' = h.set b (.cells 6 (pre ++ (sortR (fun x y => decide (c x y < 0)) (seg.take i) ++ seg.drop i) ++ post))) 1 (by omega) ⟨by simp, by simp, by simp, by simp, by simp, by omega, ?_⟩ ?_
  · cases seg with
    | nil => simp [sortR]
    | cons x seg => simp [sortR, insR, insK]
  rintro i fr h' hi ⟨e0, e1, e2, e3, e8, h1i, rfl⟩
  rcases Nat.lt_or_ge i seg.length with hlt | hge
  · obtain ⟨x, hg, hg'⟩ := get_lt hlt
    have hlt2 : ((pre.length : Int) + i) < pre.length + seg.length := by omega
    simp [e0, e1, e2, e3, e8, hlt, hlt2]
    have hil : (sortR (fun x y => decide (c x y < 0)) (seg.take i)).length = i := by rw [sortR_length]; simp; omega
    generalize hL : sortR (fun x y => decide (c x y < 0)) (seg.take i) = L at hil
    refine AWP.down mixed (fun j fr h' => fr 0 = .own b 0 (pre ++ seg ++ post).length ∧ fr 1 = .int .i64 pre.length ∧ fr 2 = .int .i64 (pre.length + seg.length : Nat) ∧ fr 3 = .fn (.func f) [] caps ∧ fr 8 = .int .i64 (pre.length + i : Nat) ∧ fr 9 = .int .i64 (pre.length + j : Nat) ∧ j ≤ i ∧
      insK (fun x y => decide (c x y < 0)) x L i = insK (fun x y => decide (c x y < 0)) x L j ∧
      ∃ all, h' = h.set b (.cells 6 all) ∧ all = sinkB pre L (seg.drop (i + 1) ++ post) x j) i ⟨by simp [e0], by simp [e1], by simp [e2], by simp [e3], by simp [e8], by simp, by omega, rfl, _, rfl, ?_⟩ ?_
    · rw [drop_get hg]; simp [sinkB, ← hil]
    rintro j fr h' ⟨e0, e1, e2, e3, e8, e9, hj, hK, all, rfl, hall⟩
    have hal : all.length = pre.length + seg.length + post.length := by rw [hall, sinkB_length]; simp; omega
    rcases Nat.eq_zero_or_pos j with rfl | hpos
    · simp [e0, e1, e2, e3, e8, e9, hb]
      refine ⟨by decide, callS.pure (.int .i64 0) (fun hg => by cases hg) ?_⟩
      have ewi := wrap_succ' (i := pre.length + i) (by omega)
      simp at ewi
      simp [e0, e1, e2, e3, e8, e9, ewi]
      refine ⟨i + 1, by omega, by omega, by simp; omega, ?_⟩
      rw [sortR_take_succ _ hg, hL, hall, insR, hil, hK]
      simp [sinkB, insK]
    obtain ⟨k, rfl⟩ : ∃ k, j = k + 1 := ⟨j - 1, by omega⟩
    have hgx := sinkB_x (pre := pre) (l := L) (post := seg.drop (i + 1) ++ post) (x := x) (j := k + 1) (by omega)
    have hgy := sinkB_y (pre := pre) (l := L) (post := seg.drop (i + 1) ++ post) (x := x) (j := k) (by omega)
    obtain ⟨y, hy, hy'⟩ := get_lt (l := L) (i := k) (by omega)
    rw [← hall] at hgx hgy
    rw [hy] at hgy
    have e9' : fr 9 = .int .i64 (pre.length + k + 1 : Nat) := e9
    have hgx' : all[pre.length + k + 1]? = some x := hgx
    have hsw := sinkB_swap (pre := pre) (post := seg.drop (i + 1) ++ post) (x := x) hy
    rw [← hall] at hsw
    have hsw' : (all.set (pre.length + k + 1) y).set (pre.length + k) x = sinkB pre L (seg.drop (i + 1) ++ post) x k := hsw
    generalize hp : pre.length + k = p at e9' hgx' hgy hsw'
    clear hgx e9 hsw
    have p1 : ((pre.length : Int)) < p + 1 := by omega
    have p2 : p + 1 < all.length := by omega
    have wp : IntKind.i64.wrap (p : Int) = p := wrap64_of (by omega) (by omega)
    have hxO := hn x (by simp [List.mem_of_getElem? hg])
    have hx5 : x.length = 6 := hxO
    have hys : y ∈ seg := List.mem_of_mem_take ((mem_sortR _).1 (hL ▸ List.mem_of_getElem? hy))
    have hxs : x ∈ seg := List.mem_of_getElem? hg
    have hyO := hn y (by simp [hys])
    have hy5 : y.length = 6 := hyO
    simp [e0, e1, e2, e3, e8, e9', hgx', hgy, p1, hb, wp]
    refine ⟨by decide, ⟨by omega, by omega, by omega⟩, ⟨by omega, by omega⟩, ⟨by omega, by omega⟩, ⟨by omega, by omega⟩, ?_⟩
    rw [List.take_of_length_le (by omega), List.take_of_length_le (by omega)]
    refine callS.pure _ (fun _ => hc x hxs y hys _) ?_
    have tx : x.take 6 = x := List.take_of_length_le (by omega)
    have ty : y.take 6 = y := List.take_of_length_le (by omega)
    have dx : x.drop 6 = [] := List.drop_eq_nil_of_le (by omega)
    have dy : y.drop 6 = [] := List.drop_eq_nil_of_le (by omega)
    have ewi := wrap_succ' (i := pre.length + i) (by omega)
    simp at ewi
    simp [e0, e1, e2, e3, e8, e9', hgx', hgy, p1, hb, wp, hx5, hy5, tx, ty, dx, dy, hsw', ewi]
    refine ⟨fun hlt0 => ⟨by decide, ?_⟩, fun hge0 => ⟨i + 1, by omega, by omega, by simp; omega, by omega, ?_⟩⟩
    · repeat refine And.intro (by omega) ?_
      refine ⟨k, by omega, by omega, by omega, ?_, rfl⟩
      rw [hK, insK, hy]; simp [hlt0]
    · have hk2 : insK (fun x y => decide (c x y < 0)) x L i = k + 1 := by
        rw [hK, insK, hy]; simp [show ¬ c x y < 0 by omega]
      rw [sortR_take_succ _ hg, hL, hall, insR, hil, hk2]
      simp [sinkB]
  · have hge2 : ¬ ((pre.length : Int) + i) < pre.length + seg.length := by omega
    simp [e0, e1, e2, e3, e8, hge2]
    rw [List.take_of_length_le (by omega), List.drop_eq_nil_of_le (by omega)]; rfl
theorem stable20_Dev (b : Nat) (seg : List (List AV)) (hb : b < h.length) (hn : ∀ e ∈ seg, e.length = 6) (hl : seg.length < 20) (f : FuncId) (caps : List AV) (c : List AV → List AV → Int)
    (hc : ∀ x ∈ seg, ∀ y ∈ seg, ∀ o, ACalls Tryz.prog gl f (.agg x :: .agg y :: caps) (h.set b o) fun v h' => v = .int .i64 (c x y) ∧ h' = h.set b o) :
    ACalls Tryz.prog gl 108 [.own b 0 seg.length, .int .i64 seg.length, .fn (.func f) [] caps] (h.set b (.cells 6 seg))
      fun v h' => v = .tup [] ∧ h' = h.set b (.cells 6 (sortR (fun x y => decide (c x y < 0)) seg)) := by
  refine ACalls.body Tryz.f108 _ mixed Tryz.func108 rfl rfl (by simp [Tryz.ntmps108]) ?_
  have h1 : ¬ (20 : Int) ≤ seg.length := by omega
  have h2 : ¬ (20 : Int) < seg.length := by omega
  simp
  refine AWP.up mixed 0 (fun i fr h' => fr 0 = .own b 0 seg.length ∧ fr 1 = .int .i64 seg.length ∧ fr 2 = .fn (.func f) [] caps ∧ fr 6 = .int .i64 20 ∧ fr 7 = .int .i64 0 ∧ fr 8 = .int .i64 20 ∧ h' = h.set b (.cells 6 seg)) 0 (by omega) ⟨by simp, by simp, by simp, by simp, by simp, by simp, rfl⟩ ?_
  rintro i fr h' hi ⟨e0, e1, e2, e6, e7, e8, rfl⟩
  simp [e0, e1, e2, e6, e7, e8, h1]
  have := insertionSort_Dev (gl := gl) b [] seg [] hb (by simpa using hn) (by simp; omega) f caps c hc
  simp at this
  refine callS.any this ?_
  rintro v h' ⟨rfl, rfl⟩
  simp [e0, e1, e2, e6, e7, e8]
  refine AWP.up mixed 0 (fun i fr h' => fr 1 = .int .i64 seg.length ∧ fr 6 = .int .i64 20 ∧ h' = h.set b (.cells 6 (sortR (fun x y => decide (c x y < 0)) seg))) 0 (by omega) ⟨by simp [e1], by simp [e6], rfl⟩ ?_
  rintro i fr h' hi ⟨e1, e6, rfl⟩
  simp [e1, e6, h2]
theorem SortStable20_Dev (b : Nat) (seg : List (List AV)) (hb : b < h.length) (hn : ∀ e ∈ seg, e.length = 6) (hl : seg.length < 20) (f : FuncId) (caps : List AV) (c : List AV → List AV → Int)
    (hc : ∀ x ∈ seg, ∀ y ∈ seg, ∀ o, ACalls Tryz.prog gl f (.agg x :: .agg y :: caps) (h.set b o) fun v h' => v = .int .i64 (c x y) ∧ h' = h.set b o) :
    ACalls Tryz.prog gl 94 [.own b 0 seg.length, .fn (.func f) [] caps] (h.set b (.cells 6 seg))
      fun v h' => v = .tup [] ∧ h' = h.set b (.cells 6 (sortR (fun x y => decide (c x y < 0)) seg)) := by
  refine ACalls.body Tryz.f94 _ mixed Tryz.func94 rfl rfl (by simp [Tryz.ntmps94]) ?_
  simp
  refine callS.any (stable20_Dev b seg hb hn hl f caps c hc) ?_
  rintro v h' ⟨rfl, rfl⟩
  simp
theorem insertionSort_nil_Dev (f : FuncId) (caps : List AV) :
    ACalls Tryz.prog gl 132 [.nil, .int .i64 0, .int .i64 0, .fn (.func f) [] caps] h fun v h' => v = .tup [] ∧ h' = h := by
  refine ACalls.body Tryz.f132 _ mixed Tryz.func132 rfl rfl (by simp [Tryz.ntmps132]) ?_
  simp
  refine AWP.up mixed 0 (fun i fr h' => fr 2 = .int .i64 0 ∧ fr 8 = .int .i64 (IntKind.i64.wrap 1) ∧ h' = h) 0 (by omega) ⟨by simp, by simp, rfl⟩ ?_
  rintro i fr h' hi ⟨e2, e8, rfl⟩
  simp [e2, e8, wrap64_of]
theorem stable_nil_Dev (f : FuncId) (caps : List AV) :
    ACalls Tryz.prog gl 108 [.nil, .int .i64 0, .fn (.func f) [] caps] h fun v h' => v = .tup [] ∧ h' = h := by
  refine ACalls.body Tryz.f108 _ mixed Tryz.func108 rfl rfl (by simp [Tryz.ntmps108]) ?_
  simp
  refine AWP.up mixed 0 (fun i fr h' => fr 0 = .nil ∧ fr 1 = .int .i64 0 ∧ fr 2 = .fn (.func f) [] caps ∧ fr 6 = .int .i64 20 ∧ fr 7 = .int .i64 0 ∧ fr 8 = .int .i64 20 ∧ h' = h) 0 (by omega) ⟨by simp, by simp, by simp, by simp, by simp, by simp, rfl⟩ ?_
  rintro i fr h' hi ⟨e0, e1, e2, e6, e7, e8, rfl⟩
  simp [e0, e1, e2, e6, e7, e8]
  refine callS.pure _ (fun _ => insertionSort_nil_Dev f caps) ?_
  simp [e0, e1, e2, e6, e7, e8]
  refine AWP.up mixed 0 (fun i fr h'' => fr 1 = .int .i64 0 ∧ fr 6 = .int .i64 20 ∧ h'' = h') 0 (by omega) ⟨by simp [e1], by simp [e6], rfl⟩ ?_
  rintro i fr h' hi ⟨e1, e6, rfl⟩
  simp [e1, e6]
theorem SortStable_nil_Dev (f : FuncId) (caps : List AV) :
    ACalls Tryz.prog gl 94 [.nil, .fn (.func f) [] caps] h fun v h' => v = .tup [] ∧ h' = h := by
  refine ACalls.body Tryz.f94 _ mixed Tryz.func94 rfl rfl (by simp [Tryz.ntmps94]) ?_
  simp
  refine callS.pure _ (fun _ => stable_nil_Dev f caps) ?_
  simp
end Go.Proofs.YtiidghfioofpkaaGreat
