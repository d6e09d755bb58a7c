/-
  Contracts: detectors.
  Contracts: numbers put in their order.
  Contracts: the detectors at a point.
  Contracts: copies of detectors.
  Contracts: the detectors at a point, in their order; when they are out of order.
  Contracts: when no detector works, cell by cell.
-/
import Derived.Test.YtiidghfioofpkaaGreatSpan
import Derived.Test.YtiidghfioofpkaaGreatTollInfer
import Derived.Test.YtiidghfioofpkaaGreatTollSpan
import Derived.Test.YtiidghfioofpkaaGreatSortDev
import Derived.Test.YtiidghfioofpkaaGreatTollRate
import Derived.WalkKit
import Derived.Lib.Bytealg
import Derived.Lib.Walk
set_option linter.unusedVariables false
set_option linter.unusedSimpArgs false
set_option maxRecDepth 100000

namespace Go.Proofs.YtiidghfioofpkaaGreat
open Go Go.Abs Go.Toll
variable {gl : Globs} {h : AHeap}

theorem ref09_IsTime (t : Int) : ACalls Tryz.prog gl 98 [.int .i64 t] h fun x h' => x = .bool (isTimeB t) ∧ h' = h := by
  refine ACalls.body Tryz.f98 _ mixed Tryz.func98 rfl rfl (by simp [Tryz.ntmps98]) ?_
  simp [isTimeB]
theorem ref09_IsSpan (i : Iv) : ACalls Tryz.prog gl 74 [.agg (encIv i)] h fun x h' => x = .bool (validIB i) ∧ h' = h := by
  refine ACalls.data (.bool _) (ACalls.body Tryz.f74 _ mixed Tryz.func74 rfl rfl (by simp [Tryz.ntmps74]) ?_)
  simp [encIv, validIB]
set_option maxHeartbeats 2000000 in
theorem ref09_Works (d : TDev) (t : Int) (hn : d.down.length ≤ 100000) : ACalls Tryz.prog gl 76 [.agg (encDev d), .int .i64 t] h fun x h' => x = .bool (worksB d t) ∧ h' = h := by
  refine ACalls.data (.bool _) (ACalls.body Tryz.f76 _ mixed Tryz.func76 rfl rfl (by simp [Tryz.ntmps76]) ?_)
  unfold worksB
  simp [encDev]
  refine callS.pure _ (fun _ => ref09_IsTime t) ?_
  cases hti : isTimeB t with
  | false => simp
  | true =>
    simp
    refine AWP.up mixed d.down.length (fun i fr H => fr 1 = .int .i64 t ∧ fr 2 = .ptr h.length 0 0 ∧ fr 5 = .int .i64 i ∧ hasL t d.down = hasL t (d.down.drop i) ∧ ∃ g, H = h ++ .cells 6 [encDev d] :: g) 0 (by omega)
      ⟨by simp, by simp, by simp, by simp, [], by simp [encDev]⟩ ?_
    rintro i fr H hi ⟨e1, e2, e5, hf, g, rfl⟩
    rcases Nat.lt_or_ge i d.down.length with hlt | hge
    · obtain ⟨v, hv, hv'⟩ := get_lt hlt
      have ew := wrap_succ' (i := i) (by omega)
      rw [drop_get hv, hasL] at hf
      have hvb : hasB v t = (validIB v && decide (v.lo ≤ t) && decide (t < v.hi)) := rfl
      simp [encDev, encIv, e1, e2, e5, hlt, hv, hv', ew]
      refine callS.pure _ (fun _ => ref09_IsSpan v) ?_
      cases hval : validIB v with
      | false =>
        rw [hval] at hvb
        simp at hvb
        rw [hvb, Bool.false_or] at hf
        simp [encDev, encIv, e1, e2, e5, hlt, hv, hv', ew]
        exact ⟨i + 1, by omega, by omega, by omega, hf⟩
      | true =>
        rw [hval] at hvb
        simp [encDev, encIv, e1, e2, e5, hlt, hv, hv', ew]
        refine ⟨fun a b => ?_, fun a => ⟨i + 1, by omega, by omega, by omega, ?_⟩⟩
        · rw [hf, hvb, decide_eq_true a, decide_eq_true b]; rfl
        · have : hasB v t = false := by
            rw [hvb, ← Bool.not_eq_true]
            simp
            exact a
          rw [hf, this, Bool.false_or]
    · obtain rfl : i = d.down.length := by omega
      rw [List.drop_length, hasL] at hf
      simp [encDev, e1, e2, e5, hf]

end Go.Proofs.YtiidghfioofpkaaGreat

namespace Go.Proofs.YtiidghfioofpkaaGreat
open Go Go.Abs Go.Toll
variable {gl : Globs} {h : AHeap}

structure InsP (l : List Int) (n : Int) (l' : List Int) : Prop where
  asc : l.Pairwise (· < ·) → l'.Pairwise (· < ·)
  mem : ∀ a, a ∈ l' ↔ a ∈ l ∨ a = n
  len : l'.length ≤ l.length + 1
theorem insP_same {l : List Int} {n : Int} (h : n ∈ l) : InsP l n l := ⟨id, fun a => ⟨.inl, fun c => by rcases c with c | rfl; exact c; exact h⟩, by omega⟩
theorem insP_new {l : List Int} {n : Int} {k : Nat} (hk : k ≤ l.length) (h1 : ∀ a ∈ l.take k, a < n) (h2 : ∀ b, l[k]? = some b → n < b) : InsP l n (l.take k ++ [n] ++ l.drop k) := by
  refine ⟨fun hp => ?_, fun a => ?_, by simp; omega⟩
  · have hp' := hp
    rw [← List.take_append_drop k l, List.pairwise_append] at hp'
    obtain ⟨p1, p2, p3⟩ := hp'
    have h3 : ∀ b ∈ l.drop k, n < b := by
      intro b hb
      rcases Nat.lt_or_ge k l.length with hlt | hge
      · have e : l.drop k = l[k] :: l.drop (k + 1) := drop_get (List.getElem?_eq_getElem hlt)
        have hq := h2 _ (List.getElem?_eq_getElem hlt)
        rw [e] at hb p2
        rcases List.mem_cons.1 hb with rfl | hb
        · exact hq
        · have := (List.pairwise_cons.1 p2).1 b hb; omega
      · rw [List.drop_eq_nil_of_le hge] at hb; cases hb
    rw [List.append_assoc, List.pairwise_append]
    refine ⟨p1, ?_, fun a ha b hb => ?_⟩
    · rw [List.singleton_append, List.pairwise_cons]; exact ⟨h3, p2⟩
    · rcases List.mem_cons.1 hb with rfl | hb
      · exact h1 a ha
      · exact p3 a ha b hb
  · have : a ∈ l ↔ a ∈ l.take k ∨ a ∈ l.drop k := by rw [← List.mem_append, List.take_append_drop]
    rw [this]
    simp
    constructor
    · rintro (c | rfl | c)
      · exact .inl (.inl c)
      · exact .inr rfl
      · exact .inl (.inr c)
    · rintro ((c | c) | rfl)
      · exact .inl c
      · exact .inr (.inr c)
      · exact .inr (.inl rfl)
set_option maxHeartbeats 4000000 in
theorem ref09_insert (l : List Int) (n : Int) (x : AV) (hx : Rs 1 h x (l.map encNs)) (hn : l.length ≤ 100000) : ACalls Tryz.prog gl 75 [x, .int .i64 n] h fun v h' => (∃ l', InsP l n l' ∧ (v = x ∧ l' = l ∨ Ls 1 h.length h' v (l'.map encNs))) ∧ ∃ g, h' = h ++ g := by
  refine ACalls.body Tryz.f75 _ mixed Tryz.func75 rfl rfl (by simp [Tryz.ntmps75]) ?_
  have fx := hx.fix
  have lx := hx.len2
  simp [fx, lx]
  refine AWP.up mixed l.length (fun i fr H => fr 0 = x ∧ fr 1 = .int .i64 n ∧ fr 5 = .int .i64 i ∧ (∀ a ∈ l.take i, a < n) ∧ H = h) 0 (by omega) ⟨by simp, by simp, by simp, by simp, rfl⟩ ?_
  rintro i fr H hi ⟨e0, e1, e5, hf, rfl⟩
  have ew := wrap_succ' (i := i) (by omega)
  rcases Nat.lt_or_ge i l.length with hlt | hge
  · obtain ⟨a, ha, ha'⟩ := get_lt hlt
    have ra := Rs.ix Tryz.prog hx i (by omega) (y := encNs a) (by simp [ha])
    have hiq : (i : Int) < l.length := by omega
    simp only [encNs] at ra
    have hsl : sliceOk (l.map encNs).length none (some (i : Int)) := by simp [sliceOk, loOk, hiOf] <;> omega
    have hsr : sliceOk (l.map encNs).length (some (i : Int)) none := by simp [sliceOk, loOk, hiOf] <;> omega
    have q1 := hx.cut Tryz.prog (by omega) none (some (i : Int)) hsl
    have q1f := q1.1.fix
    have q1o := q1.2 3 (by decide) (by decide)
    simp [-appendOk, -appendK, -acells, -AV.solid, -aslice, -sliceTOk, e0, e1, e5, hlt, hiq, fx, lx, ra, ew, q1f, q1o]
    refine ⟨fun c => ⟨i + 1, by omega, by omega, by omega, fun b hb => ?_⟩, fun c => ⟨fun c2 => ⟨l, insP_same (c2 ▸ List.mem_of_getElem? ha), .inl rfl⟩, fun c2 => ?_⟩⟩
    · rw [List.take_add_one, ha] at hb
      rcases List.mem_append.1 hb with hb | hb
      · exact hf b hb
      · simp at hb; omega
    · skip
      have sl1 : Rs 1 H (aslice x none (some (i : Int))) ((l.take i).map encNs) := by rw [List.map_take]; simpa [hiOf, -aslice, -List.map_take] using q1.1
      refine append_new (lo := H.length) (n := 1) (es := []) (ys := (l.take i).map encNs) Ls.nil (by omega) (appOk_rs sl1 (by simp) (by simp) (by simp)) (by simp <;> omega) ?_
      intro s1 H1 hs1 hg1 hn1
      have hs1f := hs1.rs.fix
      have hB1 := hg1.base H (by omega) ⟨[], by simp⟩
      simp [-appendOk, -appendK, -acells, -AV.solid, -aslice, -sliceTOk, -List.map_append, e0, e1, e5, hs1f]
      refine append_new (lo := H.length) (n := 1) (es := (l.take i).map encNs) (ys := [encNs n]) (by simpa using hs1.more _) (by have := base_len hB1; simp <;> omega) (by simp [appOk, encNs]) (by simp <;> omega) ?_
      intro s2 H2 hs2 hg2 hn2
      have hs2f := hs2.rs.fix
      have hB2 := hg2.base H (by omega) (base_more hB1 _)
      have hx2 : Rs 1 H2 x (l.map encNs) := by obtain ⟨g, rfl⟩ := hB2; exact hx.append g
      have q2 := hx2.cut Tryz.prog (by omega) (some (i : Int)) none hsr
      have q2o := q2.2 3 (by decide) (by decide)
      have sl2 : Rs 1 H2 (aslice x (some (i : Int)) none) ((l.drop i).map encNs) := by
        have e : (l.map encNs).take l.length = l.map encNs := List.take_of_length_le (by simp)
        rw [List.map_drop]
        simpa [hiOf, -aslice, e, -List.map_drop] using q2.1
      have sl2f := sl2.fix
      have lx2 := hx2.len2
      simp [-appendOk, -appendK, -acells, -AV.solid, -aslice, -sliceTOk, -List.map_append, e0, e1, e5, fx, hs2f, sl2f, q2o, lx2]
      refine append_new (lo := H.length) (n := 1) (es := (l.take i).map encNs ++ [encNs n]) (ys := (l.drop i).map encNs) hs2 (by have := base_len hB2; omega) (appOk_rs sl2 (by simp) (by simp) (by simp)) (by simp <;> omega) ?_
      intro s3 H3 hs3 hg3 hn3
      have hB3 := hg3.base H (by omega) hB2
      have hs3f := hs3.rs.fix
      simp [-appendOk, -appendK, -acells, -AV.solid, -aslice, -sliceTOk, -List.map_append, hs3f]
      exact ⟨⟨_, insP_new (k := i) (by omega) (hf) (fun b hb => by rw [ha] at hb; cases hb; omega), .inr (by simpa using hs3)⟩, hB3⟩
  · obtain rfl : i = l.length := by omega
    have hsl : sliceOk (l.map encNs).length none (some (l.length : Int)) := by simp [sliceOk, loOk, hiOf] <;> omega
    have hsr : sliceOk (l.map encNs).length (some (l.length : Int)) none := by simp [sliceOk, loOk, hiOf] <;> omega
    have q1 := hx.cut Tryz.prog (by omega) none (some (l.length : Int)) hsl
    have q1f := q1.1.fix
    have q1o := q1.2 3 (by decide) (by decide)
    simp [-appendOk, -appendK, -acells, -AV.solid, -aslice, -sliceTOk, e0, e1, e5, fx, lx, ew, q1f, q1o]
    have sl1 : Rs 1 H (aslice x none (some (l.length : Int))) ((l.take l.length).map encNs) := by rw [List.map_take]; simpa [hiOf, -aslice, -List.map_take] using q1.1
    refine append_new (lo := H.length) (n := 1) (es := []) (ys := (l.take l.length).map encNs) Ls.nil (by omega) (appOk_rs sl1 (by simp) (by simp) (by simp)) (by simp <;> omega) ?_
    intro s1 H1 hs1 hg1 hn1
    have hs1f := hs1.rs.fix
    have hB1 := hg1.base H (by omega) ⟨[], by simp⟩
    simp [-appendOk, -appendK, -acells, -AV.solid, -aslice, -sliceTOk, -List.map_append, e0, e1, e5, hs1f]
    refine append_new (lo := H.length) (n := 1) (es := (l.take l.length).map encNs) (ys := [encNs n]) (by simpa using hs1.more _) (by have := base_len hB1; simp <;> omega) (by simp [appOk, encNs]) (by simp <;> omega) ?_
    intro s2 H2 hs2 hg2 hn2
    have hs2f := hs2.rs.fix
    have hB2 := hg2.base H (by omega) (base_more hB1 _)
    have hx2 : Rs 1 H2 x (l.map encNs) := by obtain ⟨g, rfl⟩ := hB2; exact hx.append g
    have q2 := hx2.cut Tryz.prog (by omega) (some (l.length : Int)) none hsr
    have q2o := q2.2 3 (by decide) (by decide)
    have sl2 : Rs 1 H2 (aslice x (some (l.length : Int)) none) ((l.drop l.length).map encNs) := by
      have e : (l.map encNs).take l.length = l.map encNs := List.take_of_length_le (by simp)
      rw [List.map_drop]
      simpa [hiOf, -aslice, e, -List.map_drop] using q2.1
    have sl2f := sl2.fix
    have lx2 := hx2.len2
    simp [-appendOk, -appendK, -acells, -AV.solid, -aslice, -sliceTOk, -List.map_append, e0, e1, e5, fx, hs2f, sl2f, q2o, lx2]
    refine append_new (lo := H.length) (n := 1) (es := (l.take l.length).map encNs ++ [encNs n]) (ys := (l.drop l.length).map encNs) hs2 (by have := base_len hB2; omega) (appOk_rs sl2 (by simp) (by simp) (by simp)) (by simp <;> omega) ?_
    intro s3 H3 hs3 hg3 hn3
    have hB3 := hg3.base H (by omega) hB2
    have hs3f := hs3.rs.fix
    simp [-appendOk, -appendK, -acells, -AV.solid, -aslice, -sliceTOk, -List.map_append, hs3f]
    exact ⟨⟨_, insP_new (k := l.length) (by omega) (hf) (fun b hb => by simp at hb), .inr (by simpa using hs3)⟩, hB3⟩
end Go.Proofs.YtiidghfioofpkaaGreat

namespace Go.Proofs.YtiidghfioofpkaaGreat
open Go Go.Abs Go.Toll
variable {gl : Globs} {h : AHeap}

def pickB (s : Bytes) (k : Int) (d : TDev) : Bool := decide (d.point = s) && (decide (k = 0) || decide (d.kind = k))
theorem pick_take {l : List TDev} {i : Nat} {v : TDev} {s : Bytes} {k : Int} (h : l[i]? = some v) : (l.take (i + 1)).filter (pickB s k) = if pickB s k v = true then (l.take i).filter (pickB s k) ++ [v] else (l.take i).filter (pickB s k) := by
  rw [List.take_add_one, h]
  by_cases c : pickB s k v = true <;> simp [c]
theorem ins_perm {out m : List TDev} {d : TDev} (h : out.Perm m) (j : Nat) : (out.take j ++ [d] ++ out.drop j).Perm (m ++ [d]) := by
  have h1 : (out.take j ++ [d] ++ out.drop j).Perm (out.take j ++ out.drop j ++ [d]) := by
    rw [List.append_assoc, List.append_assoc]
    exact List.Perm.append_left _ List.perm_append_comm
  rw [List.take_append_drop] at h1
  exact h1.trans (h.append_right _)
set_option maxHeartbeats 8000000 in
theorem ref09_At (l : List TDev) (s : Bytes) (k : Int) (hn : l.length ≤ 1000) (hk : k ≠ 0) : ACalls Tryz.prog gl 73 [.ro (l.map encDev), .str s, .int .i64 k] h fun v h' => (∃ out : List TDev, out.Perm (l.filter (pickB s k)) ∧ Ls 6 h.length h' v (out.map encDev)) ∧ ∃ g, h' = h ++ g := by
  refine ACalls.body Tryz.f73 _ mixed Tryz.func73 rfl rfl (by simp [Tryz.ntmps73]) ?_
  simp
  refine AWP.up mixed l.length (fun i fr H => fr 0 = .ro (l.map encDev) ∧ fr 1 = .str s ∧ fr 2 = .int .i64 k ∧ fr 8 = .int .i64 i ∧ (∃ g, H = h ++ g) ∧ ∃ z out, fr 7 = z ∧ List.Perm out ((l.take i).filter (pickB s k)) ∧ Ls 6 h.length H z (out.map encDev)) 0 (by omega)
    ⟨by simp, by simp, by simp, by simp, ⟨[], by simp⟩, .nil, [], by simp, by simp, Ls.nil⟩ ?_
  rintro i fr H hi ⟨e0, e1, e2, e8, hB, z, out, e7, hp, hzl⟩
  have hz := hzl.rs
  have hlB := base_len hB
  have fz := hz.fix
  have lz := hz.len2
  have hol : out.length ≤ i := by
    have := hp.length_eq
    have h2 := List.length_filter_le (pickB s k) (l.take i)
    have h3 := List.length_take_le i l
    omega
  rcases Nat.lt_or_ge i l.length with hlt | hge
  · obtain ⟨d, hd, hd'⟩ := get_lt hlt
    have ew := wrap_succ' (i := i) (by omega)
    have hsuc := pick_take (s := s) (k := k) hd
    simp [encDev, e0, e1, e2, e7, e8, hlt, hd, hd', fz, hk, ew]
    refine ⟨fun c => ⟨i + 1, by omega, by omega, by omega, hB, out, ?_, hzl⟩, fun c1 c2 => ?_⟩
    · rw [hsuc, if_neg (by rintro h; simp [pickB, hk] at h; rcases c with c | c; exact c h.1; exact c h.2)]; exact hp
    rw [if_pos (by simp [pickB, c1, c2])] at hsuc
    refine AWP.up mixed out.length (fun j fr H' => fr 0 = .ro (l.map encDev) ∧ fr 1 = .str s ∧ fr 2 = .int .i64 k ∧ fr 8 = .int .i64 i ∧ fr 7 = z ∧ fr 9 = .int .i64 j ∧ H' = H) 0 (by omega) ⟨by simp [e0], by simp [e1], by simp [e2], by simp [e8], by simp [e7], by simp, rfl⟩ ?_
    clear e0 e1 e2 e7 e8
    rintro j fr H' hj ⟨e0, e1, e2, e8, e7, e9, rfl⟩
    have ewj := wrap_succ' (i := j) (by omega)
    have hsl : sliceOk (out.map encDev).length none (some (j : Int)) := by simp [sliceOk, loOk, hiOf] <;> omega
    have hsr : sliceOk (out.map encDev).length (some (j : Int)) none := by simp [sliceOk, loOk, hiOf] <;> omega
    have q1 := hz.cut Tryz.prog (by omega) none (some (j : Int)) hsl
    have q1f := q1.1.fix
    have q1o := q1.2 66 (by decide) (by decide)
    rcases Nat.lt_or_ge j out.length with hltj | hgej
    · obtain ⟨o, ho, ho'⟩ := get_lt hltj
      have ro := Rs.ix Tryz.prog hz j (by omega) (y := encDev o) (by simp [ho])
      have hjq : (j : Int) < out.length := by omega
      simp only [encDev] at ro
      simp [-appendOk, -appendK, -acells, -AV.solid, -aslice, -sliceTOk, -List.map_append, encDev, e0, e1, e2, e7, e8, e9, hlt, hd, hd', fz, lz, ro, hltj, hjq, ewj, q1f, q1o]
      refine ⟨by decide, fun c => ⟨j + 1, by omega, by omega, by omega⟩, fun c c3 => ?_⟩
      have sl1 : Rs 6 H' (aslice z none (some (j : Int))) ((out.take j).map encDev) := by rw [List.map_take]; simpa [hiOf, -aslice, -List.map_take] using q1.1
      refine append_new (lo := H'.length) (n := 6) (es := []) (ys := (out.take j).map encDev) Ls.nil (by omega) (appOk_rs sl1 (by simp) (by simp) (by simp)) (by simp <;> omega) ?_
      intro s1 H1 hs1 hg1 hn1
      have hs1f := hs1.rs.fix
      have hB1 := hg1.base H' (by omega) ⟨[], by simp⟩
      simp [-appendOk, -appendK, -acells, -AV.solid, -aslice, -sliceTOk, -List.map_append, encDev, e0, e1, e2, e7, e8, e9, hlt, hd, hd', fz, hs1f]
      refine append_new (lo := H'.length) (n := 6) (es := (out.take j).map encDev) (ys := [encDev d]) (by simpa using hs1.more _) (by have := base_len hB1; simp <;> omega) (by simp [appOk, encDev]) (by simp <;> omega) ?_
      intro s2 H2 hs2 hg2 hn2
      have hs2f := hs2.rs.fix
      have hB2 := hg2.base H' (by omega) (base_more hB1 _)
      have hz2 : Rs 6 H2 z (out.map encDev) := by obtain ⟨g, rfl⟩ := hB2; exact hz.append g
      have q2 := hz2.cut Tryz.prog (by omega) (some (j : Int)) none hsr
      have q2o := q2.2 66 (by decide) (by decide)
      have sl2 : Rs 6 H2 (aslice z (some (j : Int)) none) ((out.drop j).map encDev) := by
        have e : (out.map encDev).take out.length = out.map encDev := List.take_of_length_le (by simp)
        rw [List.map_drop]
        simpa [hiOf, -aslice, e, -List.map_drop] using q2.1
      have sl2f := sl2.fix
      have lz2 := hz2.len2
      simp [-appendOk, -appendK, -acells, -AV.solid, -aslice, -sliceTOk, -List.map_append, e0, e1, e2, e7, e8, e9, fz, hs2f, sl2f, q2o, lz2]
      refine append_new (lo := H'.length) (n := 6) (es := (out.take j).map encDev ++ [encDev d]) (ys := (out.drop j).map encDev) hs2 (by have := base_len hB2; omega) (appOk_rs sl2 (by simp) (by simp) (by simp)) (by simp <;> omega) ?_
      intro s3 H3 hs3 hg3 hn3
      have hB3 := hg3.base H' (by omega) hB2
      have hs3f := hs3.rs.fix
      have hBh : ∃ g, H3 = h ++ g := by obtain ⟨g1, e1⟩ := hB; obtain ⟨g2, e2⟩ := hB3; exact ⟨g1 ++ g2, by rw [e2, e1, List.append_assoc]⟩
      simp [-appendOk, -appendK, -acells, -AV.solid, -aslice, -sliceTOk, -List.map_append, e0, e1, e2, e7, e8, e9, hs3f, ew]
      exact ⟨i + 1, by omega, by omega, by omega, hBh, out.take j ++ [d] ++ out.drop j, by rw [hsuc]; exact ins_perm hp _, by simpa using ls_mono hs3 hlB⟩
    · obtain rfl : j = out.length := by omega
      simp [-appendOk, -appendK, -acells, -AV.solid, -aslice, -sliceTOk, -List.map_append, encDev, e0, e1, e2, e7, e8, e9, hlt, hd, hd', fz, lz, ewj, q1f, q1o]
      refine ⟨by decide, ?_⟩
      have sl1 : Rs 6 H' (aslice z none (some (out.length : Int))) ((out.take out.length).map encDev) := by rw [List.map_take]; simpa [hiOf, -aslice, -List.map_take] using q1.1
      refine append_new (lo := H'.length) (n := 6) (es := []) (ys := (out.take out.length).map encDev) Ls.nil (by omega) (appOk_rs sl1 (by simp) (by simp) (by simp)) (by simp <;> omega) ?_
      intro s1 H1 hs1 hg1 hn1
      have hs1f := hs1.rs.fix
      have hB1 := hg1.base H' (by omega) ⟨[], by simp⟩
      simp [-appendOk, -appendK, -acells, -AV.solid, -aslice, -sliceTOk, -List.map_append, encDev, e0, e1, e2, e7, e8, e9, hlt, hd, hd', fz, hs1f]
      refine append_new (lo := H'.length) (n := 6) (es := (out.take out.length).map encDev) (ys := [encDev d]) (by simpa using hs1.more _) (by have := base_len hB1; simp <;> omega) (by simp [appOk, encDev]) (by simp <;> omega) ?_
      intro s2 H2 hs2 hg2 hn2
      have hs2f := hs2.rs.fix
      have hB2 := hg2.base H' (by omega) (base_more hB1 _)
      have hz2 : Rs 6 H2 z (out.map encDev) := by obtain ⟨g, rfl⟩ := hB2; exact hz.append g
      have q2 := hz2.cut Tryz.prog (by omega) (some (out.length : Int)) none hsr
      have q2o := q2.2 66 (by decide) (by decide)
      have sl2 : Rs 6 H2 (aslice z (some (out.length : Int)) none) ((out.drop out.length).map encDev) := by
        have e : (out.map encDev).take out.length = out.map encDev := List.take_of_length_le (by simp)
        rw [List.map_drop]
        simpa [hiOf, -aslice, e, -List.map_drop] using q2.1
      have sl2f := sl2.fix
      have lz2 := hz2.len2
      simp [-appendOk, -appendK, -acells, -AV.solid, -aslice, -sliceTOk, -List.map_append, e0, e1, e2, e7, e8, e9, fz, hs2f, sl2f, q2o, lz2]
      refine append_new (lo := H'.length) (n := 6) (es := (out.take out.length).map encDev ++ [encDev d]) (ys := (out.drop out.length).map encDev) hs2 (by have := base_len hB2; omega) (appOk_rs sl2 (by simp) (by simp) (by simp)) (by simp <;> omega) ?_
      intro s3 H3 hs3 hg3 hn3
      have hB3 := hg3.base H' (by omega) hB2
      have hs3f := hs3.rs.fix
      have hBh : ∃ g, H3 = h ++ g := by obtain ⟨g1, e1⟩ := hB; obtain ⟨g2, e2⟩ := hB3; exact ⟨g1 ++ g2, by rw [e2, e1, List.append_assoc]⟩
      simp [-appendOk, -appendK, -acells, -AV.solid, -aslice, -sliceTOk, -List.map_append, e0, e1, e2, e7, e8, e9, hs3f, ew]
      exact ⟨i + 1, by omega, by omega, by omega, hBh, out.take out.length ++ [d] ++ out.drop out.length, by rw [hsuc]; exact ins_perm hp _, by simpa using ls_mono hs3 hlB⟩
  · obtain rfl : i = l.length := by omega
    rw [List.take_length] at hp
    simp [e0, e1, e2, e7, e8, fz]
    exact ⟨⟨out, hp, hzl⟩, hB⟩
end Go.Proofs.YtiidghfioofpkaaGreat

namespace Go.Proofs.YtiidghfioofpkaaGreat
open Go Go.Abs Go.Toll
variable {gl : Globs} {h : AHeap}

structure DevOk (d : TDev) : Prop where
  cells : ∀ e ∈ d.offs, e.length = 2
  dat : ∀ e ∈ d.offs, ∀ y ∈ e, y.Data
  offs : d.offs.length ≤ 1048576
  down : d.down.length ≤ 100000
theorem iv_data (l : List Iv) : ∀ e ∈ l.map encIv, ∀ y ∈ e, y.Data := fun e he y hy => by
  obtain ⟨p, _, rfl⟩ := List.mem_map.1 he
  simp [encIv] at hy
  rcases hy with rfl | rfl <;> simp
theorem slices_CloneIv (l : List Iv) (hl : l.length ≤ 1000000) : ACalls Tryz.prog gl 107 [.ro (l.map encIv)] h fun v h' => v = .ro (l.map encIv) ∧ h' = h := by
  refine ACalls.fresh (ACalls.body Tryz.f107 _ mixed Tryz.func107 rfl rfl (by simp [Tryz.ntmps107]) ?_)
  have hn := iv_n l
  simp [encIv]
  refine ⟨⟨by omega, Frz.ownD (m := 2) (es := l.map encIv) (by simp) (by omega) (by simp) (by rw [List.drop_zero, List.take_of_length_le (by simp)]) (iv_data l)⟩, ?_⟩
  rintro rfl
  exact .nil
theorem slices_CloneOff (l : List (List AV)) (hl : l.length ≤ 1048576) (hc : ∀ e ∈ l, e.length = 2) (hd : ∀ e ∈ l, ∀ y ∈ e, y.Data) : ACalls Tryz.prog gl 106 [.ro l] h fun v h' => v = .ro l ∧ h' = h := by
  refine ACalls.fresh (ACalls.body Tryz.f106 _ mixed Tryz.func106 rfl rfl (by simp [Tryz.ntmps106]) ?_)
  simp
  refine ⟨⟨⟨hc, by omega⟩, Frz.ownD (m := 2) (es := l) (by simp) (by omega) (by simp) (by rw [List.drop_zero, List.take_of_length_le (by simp)]) hd⟩, ?_⟩
  rintro rfl
  exact .nil
set_option maxHeartbeats 2000000 in
theorem device_copied (d : TDev) (hd : DevOk d) : ACalls Tryz.prog gl 93 [.agg (encDev d)] h fun v h' => v = .agg (encDev d) ∧ h' = h := by
  refine ACalls.fresh (ACalls.body Tryz.f93 _ mixed Tryz.func93 rfl rfl (by simp [Tryz.ntmps93]) ?_)
  simp [encDev]
  refine ⟨by decide, ?_⟩
  refine callS.pure _ (fun _ => slices_CloneOff d.offs hd.offs hd.cells hd.dat) ?_
  simp
  refine callS.pure _ (fun _ => slices_CloneIv d.down (by have := hd.down; omega)) ?_
  simp
  exact .agg' (.cons (.data _ (by simp)) (.cons (.data _ (by simp)) (.cons (.data _ (by simp)) (.cons (.data _ (by simp)) (.cons (.data _ (.ro _ hd.dat)) (.cons (.data _ (.ro _ (iv_data _))) .nil))))))
end Go.Proofs.YtiidghfioofpkaaGreat

namespace Go.Proofs.YtiidghfioofpkaaGreat
open Go Go.Abs Go.Toll Go.RowKit
variable {gl : Globs} {h : AHeap}

theorem run_CompareString (a b : ByteArray) (w : World) :
    Calls Tryz.prog 109 #[.string a, .string b] w fun e w' => e = .returned (.int .i64 (Lib.compareBytes a.data.toList b.data.toList)) ∧ w' = w := by
  go_enter Tryz.func109, Tryz.ntmps109
  go_wp2
  rw [run_callFunc_extern Tryz.func134 (by kernel_rfl) (by kernel_rfl) (by kernel_rfl) (e := Extern.BytealgCompare.compare) (by kernel_rfl), Lib.run_compareString]
  simp only [Result.andThen]
  rw [Oper.upon_value]
  go_wp2
  go_ret
  exact ⟨rfl, rfl⟩
theorem bytealg_CompareString (a b : Bytes) : ACalls Tryz.prog gl 109 [.str a, .str b] h fun x h' => x = .int .i64 (Lib.compareBytes a b) ∧ h' = h := by
  refine ⟨⟨Tryz.f109, Tryz.func109, rfl, rfl⟩, fun J w vs hh hv => ?_⟩
  match vs, hv with
  | [v1, v2], hv =>
    have h1 := hv.2 0 _ v1 rfl rfl
    have h2 := hv.2 1 _ v2 rfl rfl
    cases h1; cases h2
    refine Calls.mono' (run_CompareString _ _ w) ?_
    rintro e w' ⟨rfl, rfl⟩
    exact ⟨_, _, J, h, rfl, hh, .int _ _, Evo.refl _ _ _, by simp, rfl⟩
  | [], hv => exact absurd hv.1 (by simp)
  | [_], hv => exact absurd hv.1 (by simp)
  | _ :: _ :: _ :: _, hv => exact absurd hv.1 (by simp)
theorem strings_Compare (a b : Bytes) : ACalls Tryz.prog gl 96 [.str a, .str b] h fun x h' => x = .int .i64 (Lib.compareBytes a b) ∧ h' = h := by
  refine ACalls.body Tryz.f96 _ mixed Tryz.func96 rfl rfl (by simp [Tryz.ntmps96]) ?_
  simp
  refine callS.pure _ (fun _ => bytealg_CompareString a b) ?_
  simp
def devC (x y : List AV) : Int := match x[0]?, y[0]? with
  | some (AV.str s), some (AV.str t) => Lib.compareBytes s t
  | _, _ => 0
theorem devC_enc (a b : TDev) : devC (encDev a) (encDev b) = Lib.compareBytes a.name b.name := rfl
theorem device_At1 (a b : TDev) : ACalls Tryz.prog gl 95 [.agg (encDev a), .agg (encDev b)] h fun v h' => v = .int .i64 (devC (encDev a) (encDev b)) ∧ h' = h := by
  rw [devC_enc]
  refine ACalls.data (by simp) (ACalls.body Tryz.f95 _ mixed Tryz.func95 rfl rfl (by simp [Tryz.ntmps95]) ?_)
  simp [encDev]
  refine callS.pure _ (fun _ => strings_Compare _ _) ?_
  simp
def devsAt (l : List TDev) (s : Bytes) (k : Int) : List TDev := sortR (fun a b => decide (Lib.compareBytes a.name b.name < 0)) (l.filter (pickB s k))
theorem devsAt_mem {l : List TDev} {s : Bytes} {k : Int} {d : TDev} : d ∈ devsAt l s k ↔ d ∈ l ∧ pickB s k d = true := by rw [devsAt, mem_sortR, List.mem_filter]
theorem devsAt_len (l : List TDev) (s : Bytes) (k : Int) : (devsAt l s k).length ≤ l.length := by rw [devsAt, sortR_length]; exact List.length_filter_le _ _
theorem dev_n (l : List TDev) : ∀ e ∈ l.map encDev, e.length = 6 := fun e he => by
  obtain ⟨d, _, rfl⟩ := List.mem_map.1 he
  rfl
theorem dev_data {l : List TDev} (hd : ∀ d ∈ l, DevOk d) : ∀ e ∈ l.map encDev, ∀ y ∈ e, y.Data := fun e he y hy => by
  obtain ⟨d, hm, rfl⟩ := List.mem_map.1 he
  simp only [encDev, List.mem_cons, List.not_mem_nil, or_false] at hy
  rcases hy with rfl | rfl | rfl | rfl | rfl | rfl
  · simp
  · simp
  · simp
  · simp
  · exact .ro _ (hd d hm).dat
  · exact .ro _ (iv_data _)
set_option maxHeartbeats 4000000 in
theorem device_At (l : List TDev) (s : Bytes) (k : Int) (hn : l.length < 20) (hk : k ≠ 0) (hd : ∀ d ∈ l, DevOk d) : ACalls Tryz.prog gl 70 [.ro (l.map encDev), .str s, .int .i64 k] h fun v h' => v = .ro ((devsAt l s k).map encDev) ∧ h' = h := by
  refine ACalls.fresh' (ACalls.body Tryz.f70 _ mixed Tryz.func70 rfl rfl (by simp [Tryz.ntmps70]) ?_)
  simp
  refine AWP.up mixed l.length (fun i fr H => fr 10 = .ro (l.map encDev) ∧ fr 11 = .int .i64 l.length ∧ fr 12 = .int .i64 i ∧ fr 1 = .str s ∧ fr 2 = .int .i64 k ∧ (∃ g, H = h ++ g) ∧ ∃ z, fr 7 = z ∧ Ls 6 h.length H z (((l.take i).filter (pickB s k)).map encDev)) 0 (by omega)
    ⟨by simp, by simp, by simp, by simp, by simp, ⟨[], by simp⟩, .nil, by simp, by simpa using Ls.nil⟩ ?_
  rintro i fr H hi ⟨e10, e11, e12, e1, e2, hB, z, e7, hz⟩
  have hzf := hz.rs.fix
  have hol : ((l.take i).filter (pickB s k)).length ≤ i := by
    have h2 := List.length_filter_le (pickB s k) (l.take i)
    have h3 := List.length_take_le i l
    omega
  rcases Nat.lt_or_ge i l.length with hlt | hge
  · obtain ⟨d, hg, hg'⟩ := get_lt hlt
    have ew := wrap_succ' (i := i) (by omega)
    have hsuc := pick_take (s := s) (k := k) hg
    have hlh := base_len hB
    by_cases c : pickB s k d = true
    · have c' := c
      simp [pickB, hk] at c'
      obtain ⟨c1, c2⟩ := c'
      rw [if_pos c] at hsuc
      have hdm := hd d (List.mem_of_getElem? hg)
      subst c1 c2
      simp [-appendOk, -appendK, -acells, -AV.solid, encDev, e10, e11, e12, e1, e2, e7, hlt, hg, hg', hk, hzf]
      refine callS.pure _ (fun _ => device_copied d hdm) ?_
      simp [-appendOk, -appendK, -acells, -AV.solid, encDev, e10, e11, e12, e1, e2, e7, hzf]
      refine append_new (lo := h.length) (n := 6) (es := ((l.take i).filter (pickB d.point d.kind)).map encDev) (ys := [encDev d]) (by simpa using hz.more _) (by simp; omega) (by simp [appOk, encDev]) (by simp; omega) ?_
      intro s1 H1 hs1 hg1 hn1
      have hs1f := hs1.rs.fix
      have hB1 := hg1.base h (by omega) (base_more hB _)
      simp [-appendOk, -appendK, -acells, -AV.solid, e10, e11, e12, e1, e2, hs1f, ew]
      exact ⟨i + 1, by omega, by omega, by omega, hB1, by rw [hsuc]; simpa using hs1⟩
    · have c' : ¬ (d.point = s ∧ d.kind = k) := by simpa [pickB, hk] using c
      rw [if_neg c] at hsuc
      have fin : ∃ j, i < j ∧ j ≤ l.length ∧ IntKind.i64.wrap ((i : Int) + 1) = (j : Int) ∧ (∃ g, H ++ [.cells 6 [encDev d]] = h ++ g) ∧ Ls 6 h.length (H ++ [.cells 6 [encDev d]]) z (((l.take j).filter (pickB s k)).map encDev) :=
        ⟨i + 1, by omega, by omega, ew, base_more hB _, by rw [hsuc]; exact hz.more _⟩
      by_cases c1 : d.point = s
      · have c2 : ¬ d.kind = k := fun c2 => c' ⟨c1, c2⟩
        simp [-appendOk, -appendK, -acells, -AV.solid, encDev, e10, e11, e12, e1, e2, e7, hlt, hg, hg', hk, c1, c2, hzf]
        simpa [encDev, c1] using fin
      · simp [-appendOk, -appendK, -acells, -AV.solid, encDev, e10, e11, e12, e1, e2, e7, hlt, hg, hg', hk, c1, hzf]
        simpa [encDev] using fin
  · obtain rfl : i = l.length := by omega
    rw [List.take_length] at hz hol
    obtain ⟨hz1, hz2⟩ := hz
    rcases hz1 with ⟨rfl, hnil⟩ | ⟨b, rfl, hlb, hb⟩
    · simp [e10, e11, e12, e7]
      refine callS.pure _ (fun _ => SortStable_nil_Dev _ []) ?_
      have hnil' : l.filter (pickB s k) = [] := by simpa using hnil
      simp [e7, devsAt, hnil', sortR, hB]
      exact .nil
    · simp [e10, e11, e12, e7]
      obtain ⟨hHl, hHg⟩ := List.getElem?_eq_some_iff.1 hb
      have hset : H.set b (.cells 6 ((l.filter (pickB s k)).map encDev)) = H := by rw [← hHg]; exact List.set_getElem_self ..
      have hs := SortStable20_Dev (gl := gl) (h := H) b ((l.filter (pickB s k)).map encDev) hHl (dev_n _) (by simp; omega) 95 [] devC (by
        intro a ha b hb o
        obtain ⟨a, _, rfl⟩ := List.mem_map.1 ha
        obtain ⟨b, _, rfl⟩ := List.mem_map.1 hb
        exact device_At1 a b)
      rw [hset, sortR_map (lt := fun a b => decide (Lib.compareBytes a.name b.name < 0)) (fun _ _ => rfl), List.length_map] at hs
      refine callS.any hs ?_
      rintro v h' ⟨rfl, rfl⟩
      have hdat : ∀ e ∈ (devsAt l s k).map encDev, ∀ y ∈ e, y.Data := dev_data fun d hm => hd d (devsAt_mem.1 hm).1
      simp [e7]
      refine ⟨base_set hB hlb _, ?_⟩
      have hl1 : Ls 6 h.length (H.set b (.cells 6 ((devsAt l s k).map encDev))) (.own b 0 (l.filter (pickB s k)).length) ((devsAt l s k).map encDev) := Ls.own (List.getElem?_set_self hHl) hlb (by simp [devsAt, sortR_length]) (dev_n _)
      exact hl1.frz (Nat.le_refl _) hdat
end Go.Proofs.YtiidghfioofpkaaGreat

namespace Go.Proofs.YtiidghfioofpkaaGreat
open Go Go.Abs Go.Toll
variable {gl : Globs} {h : AHeap}

theorem ref09_AtR (l : List TDev) (s : Bytes) (k : Int) (hn : l.length ≤ 1000) (hk : k ≠ 0) (hd : ∀ d ∈ l, DevOk d) : ACalls Tryz.prog gl 73 [.ro (l.map encDev), .str s, .int .i64 k] h fun v h' => (∃ out : List TDev, v = .ro (out.map encDev) ∧ out.Perm (l.filter (pickB s k))) ∧ h' = h := by
  refine ACalls.freshR (R := fun v => ∃ out : List TDev, v = .ro (out.map encDev) ∧ out.Perm (l.filter (pickB s k))) (ACalls.mono (ref09_At l s k hn hk) ?_)
  rintro v h' ⟨⟨out, hp, hl⟩, hB⟩
  exact ⟨hB, _, hl.frz (Nat.le_refl _) (dev_data fun d hm => hd d (List.mem_filter.1 (hp.mem_iff.1 hm)).1), out, rfl, hp⟩

/-! ### A number put into its place -/
def insZ (l : List Int) (n : Int) : List Int := l.filter (fun a => decide (a < n)) ++ [n] ++ l.filter (fun a => decide (n < a))
theorem insZ_mem (l : List Int) (n a : Int) : a ∈ insZ l n ↔ a ∈ l ∨ a = n := by
  simp only [insZ, List.mem_append, List.mem_filter, List.mem_singleton, decide_eq_true_eq]
  constructor
  · rintro ((⟨h, _⟩ | h) | ⟨h, _⟩)
    · exact .inl h
    · exact .inr h
    · exact .inl h
  · rintro (h | h)
    · rcases Int.lt_trichotomy a n with q | q | q
      · exact .inl (.inl ⟨h, q⟩)
      · exact .inl (.inr q)
      · exact .inr ⟨h, q⟩
    · exact .inl (.inr h)
theorem insZ_asc {l : List Int} (h : l.Pairwise (· < ·)) (n : Int) : (insZ l n).Pairwise (· < ·) := by
  rw [insZ, List.append_assoc, List.pairwise_append]
  refine ⟨h.filter _, ?_, fun a ha b hb => ?_⟩
  · rw [List.singleton_append, List.pairwise_cons]
    exact ⟨fun b hb => by simpa using (List.mem_filter.1 hb).2, h.filter _⟩
  · have h1 := (List.mem_filter.1 ha).2
    simp only [decide_eq_true_eq] at h1
    rcases List.mem_append.1 hb with hb | hb
    · obtain rfl := List.mem_singleton.1 hb; exact h1
    · have h2 := (List.mem_filter.1 hb).2
      simp only [decide_eq_true_eq] at h2
      omega
theorem insZ_len (l : List Int) (n : Int) : (insZ l n).length ≤ l.length + 1 := by
  have key : ∀ l : List Int, (l.filter (fun a => decide (a < n))).length + (l.filter (fun a => decide (n < a))).length ≤ l.length := by
    intro l
    induction l with
    | nil => simp
    | cons a l ih =>
      by_cases c1 : a < n
      · have c2 : ¬ n < a := by omega
        simp [c1, c2]; omega
      · by_cases c2 : n < a
        · simp [c1, c2]; omega
        · simp [c1, c2]; omega
  have := key l
  simp [insZ]
  omega
theorem asc_eq : ∀ {l m : List Int}, l.Pairwise (· < ·) → m.Pairwise (· < ·) → (∀ a, a ∈ l ↔ a ∈ m) → l = m
  | [], [], _, _, _ => rfl
  | [], b :: m, _, _, h => by have := (h b).2 (by simp); simp at this
  | a :: l, [], _, _, h => by have := (h a).1 (by simp); simp at this
  | a :: l, b :: m, h1, h2, h => by
    obtain ⟨p1, p2⟩ := List.pairwise_cons.1 h1
    obtain ⟨q1, q2⟩ := List.pairwise_cons.1 h2
    have e : a = b := by
      rcases List.mem_cons.1 ((h a).1 (by simp)) with e | e
      · exact e
      · rcases List.mem_cons.1 ((h b).2 (by simp)) with e2 | e2
        · exact e2.symm
        · have := q1 a e; have := p1 b e2; omega
    subst e
    rw [asc_eq p2 q2 fun x => ⟨fun hx => ?_, fun hx => ?_⟩]
    · rcases List.mem_cons.1 ((h x).1 (by simp [hx])) with e | e
      · have := p1 x hx; omega
      · exact e
    · rcases List.mem_cons.1 ((h x).2 (by simp [hx])) with e | e
      · have := q1 x hx; omega
      · exact e
theorem dvn_n (l : List Int) : ∀ e ∈ l.map encNs, e.length = 1 := fun e he => by
  obtain ⟨d, _, rfl⟩ := List.mem_map.1 he
  rfl
theorem dvn_data (l : List Int) : ∀ e ∈ l.map encNs, ∀ y ∈ e, y.Data := fun e he y hy => by
  obtain ⟨d, _, rfl⟩ := List.mem_map.1 he
  simp [encNs] at hy
  rw [hy]; simp
theorem ref09_insertR (l : List Int) (n : Int) (hn : l.length ≤ 100000) (ha : l.Pairwise (· < ·)) : ACalls Tryz.prog gl 75 [.ro (l.map encNs), .int .i64 n] h fun v h' => v = .ro ((insZ l n).map encNs) ∧ h' = h := by
  refine ACalls.fresh' (ACalls.mono (ref09_insert l n (.ro (l.map encNs)) (Rs.ro (dvn_n l)) hn) ?_)
  rintro v h' ⟨⟨l', hp, hl⟩, hB⟩
  have e : l' = insZ l n := asc_eq (hp.asc ha) (insZ_asc ha n) fun a => by rw [hp.mem, insZ_mem]
  subst e
  rcases hl with ⟨rfl, e⟩ | hl
  · rw [e]; exact ⟨hB, .data _ (.ro _ (dvn_data l))⟩
  · exact ⟨hB, hl.frz (Nat.le_refl _) (dvn_data _)⟩
theorem cuts_ins {c : List Int} (h : CutsOk c) {n : Int} (h0 : 0 ≤ n) (h1 : n ≤ 68719476736) : CutsOk (insZ c n) :=
  ⟨insZ_asc h.asc n, fun x hx => by
    rcases (insZ_mem c n x).1 hx with hx | rfl
    · exact h.rng x hx
    · exact ⟨h0, h1⟩, (insZ_mem _ _ _).2 (.inl h.lo), (insZ_mem _ _ _).2 (.inl h.hi)⟩
theorem ends_ins {c : List Int} {l : List Iv} (h : EndsIn c l) (n : Int) : EndsIn (insZ c n) l := fun v hv hb => ⟨(insZ_mem _ _ _).2 (.inl (h v hv hb).1), (insZ_mem _ _ _).2 (.inl (h v hv hb).2)⟩
theorem ends_take {c : List Int} {l : List Iv} {j : Nat} {v : Iv} (hv : l[j]? = some v) (h : EndsIn c (l.take j)) (h2 : validIB v = true → v.lo ∈ c ∧ v.hi ∈ c) : EndsIn c (l.take (j + 1)) := fun w hw hb => by
  rw [List.take_add_one, hv] at hw
  rcases List.mem_append.1 hw with hw | hw
  · exact h w hw hb
  · simp at hw; subst hw; exact h2 hb
set_option maxHeartbeats 8000000 in
theorem ref09_Outage (l : List TDev) (s : Bytes) (k : Int) (hn : l.length ≤ 10) (hk : k ≠ 0) (hd : ∀ d ∈ l, DevOk d) (h10 : ∀ d ∈ l, d.down.length ≤ 10) : ACalls Tryz.prog gl 45 [.ro (l.map encDev), .str s, .int .i64 k] h fun v h' => (∃ out : List Iv, v = .ro (out.map encIv) ∧ out.length ≤ 1000 ∧ ∀ t, hasL t out = outB (l.filter (pickB s k)) t) ∧ h' = h := by
  refine ACalls.freshR (R := fun v => ∃ out : List Iv, v = .ro (out.map encIv) ∧ out.length ≤ 1000 ∧ ∀ t, hasL t out = outB (l.filter (pickB s k)) t) (ACalls.body Tryz.f45 _ mixed Tryz.func45 rfl rfl (by simp [Tryz.ntmps45]) ?_)
  simp
  refine callS.any (ref09_AtR l s k (by omega) hk hd) ?_
  rintro v h' ⟨⟨A, rfl, hp⟩, rfl⟩
  have hAl : A.length ≤ 10 := by have := hp.length_eq; have := List.length_filter_le (pickB s k) l; omega
  have hA10 : ∀ d ∈ A, d.down.length ≤ 10 := fun d hm => h10 d (List.mem_filter.1 (hp.mem_iff.1 hm)).1
  simp
  generalize hfr : (setd _ _ _ : AFrame) = fr0
  have k7 : fr0 7 = .ro (A.map encDev) := by rw [← hfr]; simp
  have k8 : fr0 8 = .own h'.length 0 2 := by rw [← hfr]; simp
  have k9 : fr0 9 = .int .i64 0 := by rw [← hfr]; simp
  clear hfr
  refine AWP.freeze1 8 h'.length 1 ([0, 68719476736].map encNs) (by simp [encNs]) (by simp [k8]) ?_
  intro fr1 g8 g
  have g7 : fr1 7 = .ro (A.map encDev) := by rw [g 7 (by decide), k7]
  have g9 : fr1 9 = .int .i64 0 := by rw [g 9 (by decide), k9]
  clear g k7 k8 k9 fr0
  refine AWP.up mixed A.length (fun i fr H => fr 7 = .ro (A.map encDev) ∧ fr 9 = .int .i64 i ∧ (∃ g, H = h' ++ g) ∧ ∃ c : List Int, fr 8 = .ro (c.map encNs) ∧ CutsOk c ∧ c.length ≤ 2 + 20 * i ∧ ∀ d ∈ A.take i, EndsIn c d.down) 0 (by omega)
    ⟨g7, g9, ⟨_, List.set_append_right _ _ (Nat.le_refl _)⟩, [0, 68719476736], g8, cuts_start, by simp, by simp⟩ ?_
  clear g7 g8 g9 fr1
  rintro i fr H hi ⟨e7, e9, hB, c, e8, hc, hcl, he⟩
  rcases Nat.lt_or_ge i A.length with hlt | hge
  · obtain ⟨d, hdd, hdd'⟩ := get_lt hlt
    have ew := wrap_succ' (i := i) (by omega)
    have hdm : d ∈ A := List.mem_of_getElem? hdd
    have hd10 := hA10 d hdm
    simp [e7, e8, e9, hlt]
    refine AWP.up mixed d.down.length (fun j fr H' => fr 7 = .ro (A.map encDev) ∧ fr 9 = .int .i64 i ∧ fr 10 = .int .i64 j ∧ (∃ g, H' = h' ++ g) ∧ ∃ c : List Int, fr 8 = .ro (c.map encNs) ∧ CutsOk c ∧ c.length ≤ 2 + 20 * i + 2 * j ∧ (∀ d ∈ A.take i, EndsIn c d.down) ∧ EndsIn c (d.down.take j)) 0 (by omega)
      ⟨by simp [e7], by simp [e9], by simp, hB, c, by simp [e8], hc, by omega, he, by intro v hv; simp at hv⟩ ?_
    clear e7 e8 e9 hB hc hcl he c
    rintro j fr H' hj ⟨e7, e9, e10, hB, c, e8, hc, hcl, he, hE⟩
    rcases Nat.lt_or_ge j d.down.length with hltj | hgej
    · obtain ⟨v, hv, hv'⟩ := get_lt hltj
      have ewj := wrap_succ' (i := j) (by omega)
      simp [encDev, encIv, e7, e8, e9, e10, hlt, hdd, hdd', hltj, hv, hv']
      refine callS.pure _ (fun _ => ref09_IsSpan v) ?_
      cases hvb : validIB v with
      | false =>
        simp [encDev, encIv, e7, e8, e9, e10, ewj]
        exact ⟨j + 1, by omega, by omega, by omega, hB, c, rfl, hc, by omega, he, ends_take hv hE fun q => by rw [hvb] at q; cases q⟩
      | true =>
        have hvq := (validIB_iff v).1 hvb
        have hc1 := cuts_ins hc (n := v.lo) (by omega) (by omega)
        have hc2 := cuts_ins hc1 (n := v.hi) (by omega) (by omega)
        have hl1 := insZ_len c v.lo
        have hl2 := insZ_len (insZ c v.lo) v.hi
        have i1 := fun H : AHeap => ref09_insertR (gl := gl) (h := H) c v.lo (by omega) hc.asc
        have i2 := fun H : AHeap => ref09_insertR (gl := gl) (h := H) (insZ c v.lo) v.hi (by omega) hc1.asc
        simp [encDev, encIv, e7, e8, e9, e10, hlt, hdd, hdd', hltj, hv, hv']
        refine ⟨by decide, ?_⟩
        refine callS.pure _ (fun _ => i1 _) ?_
        simp [encDev, encIv, e7, e8, e9, e10, hlt, hdd, hdd', hltj, hv, hv']
        refine callS.pure _ (fun _ => i2 _) ?_
        simp [encDev, encIv, e7, e8, e9, e10, ewj]
        refine ⟨j + 1, by omega, by omega, by omega, hB, insZ (insZ c v.lo) v.hi, rfl, hc2, by omega, fun d hd => ends_ins (ends_ins (he d hd) _) _, ends_take hv (ends_ins (ends_ins hE _) _) fun _ => ⟨?_, ?_⟩⟩
        · exact (insZ_mem _ _ _).2 (.inl ((insZ_mem _ _ _).2 (.inr rfl)))
        · exact (insZ_mem _ _ _).2 (.inr rfl)
    · obtain rfl : j = d.down.length := by omega
      rw [List.take_length] at hE
      simp [encDev, e7, e8, e9, e10, hlt, hdd, hdd', ew]
      refine ⟨i + 1, by omega, by omega, by omega, hB, c, rfl, hc, by omega, fun d' hd' => ?_⟩
      rw [List.take_add_one, hdd] at hd'
      rcases List.mem_append.1 hd' with hd' | hd'
      · exact he d' hd'
      · simp at hd'; subst hd'; exact hE
  · obtain rfl : i = A.length := by omega
    rw [List.take_length] at he
    simp [e7, e8, e9]
    have hc0 := cuts_first hc
    have hc2 : 2 ≤ c.length := by
      rcases Nat.lt_or_ge c.length 2 with q | q
      · have := cuts_last hc (i := 0) hc0 (by have := lt_of_get hc0; omega)
        omega
      · exact q
    refine AWP.up mixed (c.length - 1) (fun i fr H => fr 7 = .ro (A.map encDev) ∧ fr 8 = .ro (c.map encNs) ∧ fr 12 = .int .i64 i ∧ (∃ g, H = h' ++ g) ∧ ∃ z out a, fr 11 = z ∧ Ls 2 h'.length H z (out.map encIv) ∧ out.length ≤ i ∧ c[i]? = some a ∧ OutP A a out) 0 (by omega)
      ⟨by simp [e7], by simp [e8], by simp, hB, .nil, [], 0, by simp, Ls.nil, by simp, hc0, outP_start A⟩ ?_
    clear e7 e8 e9 hB
    rintro i fr H hi ⟨e7, e8, e12, hB, z, out, a, e11, hz, hol, ha, hO⟩
    have hzf := hz.rs.fix
    have hzl := hz.rs.len2
    have hlH := base_len hB
    have hic := lt_of_get ha
    have ew := wrap_succ' (i := i) (by omega)
    have ha' : c[i] = a := (List.getElem?_eq_some_iff.1 ha).2
    have har := hc.rng a (List.mem_of_getElem? ha)
    rcases Nat.lt_or_ge (i + 1) c.length with hlt | hge2
    · obtain ⟨b, hb, hb'⟩ := get_lt hlt
      obtain ⟨hab, hgap⟩ := cuts_gap hc.asc ha hb
      have hbr := hc.rng b (List.mem_of_getElem? hb)
      have hltq : (i : Int) + 1 < c.length := by omega
      simp [-Int.natCast_add, e7, e8, e11, e12, ew, hlt, hltq]
      refine AWP.up mixed A.length (fun m fr H' => fr 7 = .ro (A.map encDev) ∧ fr 8 = .ro (c.map encNs) ∧ fr 12 = .int .i64 i ∧ fr 11 = z ∧ fr 13 = .bool ((A.take m).any fun d => worksB d a) ∧ fr 14 = .int .i64 m ∧ H' = H) 0 (by omega)
        ⟨by simp [e7], by simp [e8], by simp [e12], by simp [e11], by simp, by simp, rfl⟩ ?_
      clear e7 e8 e11 e12
      rintro m fr H' hm ⟨e7, e8, e12, e11, e13, e14, rfl⟩
      rcases Nat.lt_or_ge m A.length with hltm | hgem
      · obtain ⟨d, hdd, hdd'⟩ := get_lt hltm
        have ewm := wrap_succ' (i := m) (by omega)
        have hd10 := hA10 d (List.mem_of_getElem? hdd)
        have hsuc : (A.take (m + 1)).any (fun d => worksB d a) = ((A.take m).any (fun d => worksB d a) || worksB d a) := by rw [List.take_add_one, hdd, List.any_append]; simp
        generalize (A.take m).any (fun d => worksB d a) = w at *
        cases w with
        | true =>
          simp [e7, e8, e11, e12, e13, e14, hltm]
          refine ⟨by decide, ?_⟩
          refine callS.pure (.int .i64 0) (fun c => by cases c) ?_
          simp [e7, e8, e11, e12, e13, e14, ewm]
          exact ⟨m + 1, by omega, by omega, by simpa using hsuc, by omega⟩
        | false =>
          simp [encDev, encNs, e7, e8, e11, e12, e13, e14, hltm, hdd, hdd', ha, ha', hic]
          refine ⟨by decide, ?_⟩
          refine callS.pure _ (fun _ => ref09_Works d a (by omega)) ?_
          simp [e7, e8, e11, e12, e13, e14, ewm]
          exact ⟨m + 1, by omega, by omega, by simpa using hsuc.symm, by omega⟩
      · obtain rfl : m = A.length := by omega
        rw [List.take_length, works_any (L := A) (c := a) (by simp [isTimeB]; omega)] at e13
        cases hall : (A.all fun d => hasL a d.down) with
        | false =>
          rw [hall] at e13
          simp [-Int.natCast_add, e7, e8, e11, e12, e13, e14, hzf, ew]
          exact ⟨i + 1, by omega, by omega, rfl, hB, out, hz, by omega, b, hb, outP_skip hO he hab hgap hall⟩
        | true =>
          rw [hall] at e13
          rcases List.eq_nil_or_concat out with rfl | ⟨m, o, rfl⟩
          · simp at hzl
            simp [-Int.natCast_add, -appendOk, -appendK, encNs, e7, e8, e11, e12, e13, e14, hzf, hzl, ha, ha', hb, hb', hic, hlt, hltq, ew]
            refine ⟨by decide, by decide, ?_⟩
            refine append_new (lo := h'.length) (n := 2) (es := (([] : List Iv).map encIv)) (ys := [encIv ⟨a, b⟩]) (by simpa [encIv] using hz.more _) (by simp <;> omega) (by simp [appOk, encIv]) (by simp) ?_
            intro s1 H1 hs1 hg1 hn1
            have hs1f := hs1.rs.fix
            have hB1 := hg1.base h' (by omega) (base_more hB _)
            simp [-Int.natCast_add, -appendOk, -appendK, -List.map_append, e7, e8, e12, hs1f, ew]
            exact ⟨i + 1, by omega, by omega, rfl, hB1, [⟨a, b⟩], by simpa using hs1, by simp, b, hb, by simpa using outP_new hO he (by omega) hab (by omega) hgap hall⟩
          · simp only [List.concat_eq_append] at *
            rcases hz.1 with ⟨_, hnil⟩ | ⟨bz, rfl, hlo, hbz⟩
            · simp at hnil
            have hbz3 := at3 hbz
            have w1 : IntKind.i64.wrap (((m.length + 1 : Nat) : Int) - 1) = (m.length : Int) := by rw [wrap64_of (by omega) (by simp at hol; omega)]; omega
            have w2 : IntKind.i64.wrap (m.length : Int) = (m.length : Int) := wrap64_of (by omega) (by simp at hol; omega)
            have hmp : (0 : Int) < ((m.length + 1 : Nat) : Int) := by omega
            have hml : (m.length : Int) < ((m.length + 1 : Nat) : Int) := by omega
            simp [-Int.natCast_add, -appendOk, -appendK, encNs, e7, e8, e11, e12, e13, e14, hbz3, w1, w2, hmp, hml, ha, ha', hb, hb', hic, hlt, hltq, ew]
            refine ⟨by decide, fun q => ?_, fun q => ?_⟩
            · refine ⟨i + 1, by omega, by omega, rfl, base_set hB hlo _, m ++ [⟨o.lo, b⟩], ?_, by simp at hol ⊢; omega, b, hb, outP_more hO q he (by omega) hab (by omega) hgap hall⟩
              exact Ls.own (by rw [List.getElem?_set_self hbz3.2.1]; simp [encIv]) hlo (by simp) (iv_n _)
            · refine ⟨by decide, ?_⟩
              refine append_new (lo := h'.length) (n := 2) (es := ((m ++ [o]).map encIv)) (ys := [encIv ⟨a, b⟩]) (by simpa [encIv] using hz.more _) (by simp <;> omega) (by simp [appOk, encIv]) (by simp at hol <;> simp <;> omega) ?_
              intro s1 H1 hs1 hg1 hn1
              have hs1f := hs1.rs.fix
              have hB1 := hg1.base h' (by omega) (base_more hB _)
              simp [-Int.natCast_add, -appendOk, -appendK, -List.map_append, e7, e8, e12, hs1f, ew]
              exact ⟨i + 1, by omega, by omega, rfl, hB1, m ++ [o] ++ [⟨a, b⟩], by simpa using hs1, by simp at hol ⊢; omega, b, hb, outP_new hO he (by omega) hab (by omega) hgap hall⟩
    · have hcl2 : c.length = i + 1 := by omega
      have hlast := cuts_last hc ha hcl2
      subst hlast
      have hnq : ¬ ((i + 1 : Nat) : Int) < c.length := by omega
      simp [-Int.natCast_add, e7, e8, e11, e12, ew, hnq, hzf]
      refine ⟨hB, .ro (out.map encIv), hz.frz (Nat.le_refl _) (iv_data _), out, rfl, by omega, fun t => ?_⟩
      rw [outP_end hO t]
      exact outB_mem (fun d => hp.mem_iff) t
end Go.Proofs.YtiidghfioofpkaaGreat
