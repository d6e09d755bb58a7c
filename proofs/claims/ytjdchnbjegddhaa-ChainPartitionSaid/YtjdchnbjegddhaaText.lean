/-
  Contracts: texts: their order, lists of texts that are compared, searched, grown.
-/
import Derived.Test.YtjdchnbjegddhaaTab
import Derived.Test.YtjdchnbjegddhaaAbsMore
import Derived.Test.YtjdchnbjegddhaaTollSeen
import Derived.Test.YtjdchnbjegddhaaTollText
import Derived.Test.YtjdchnbjegddhaaTollGraph
set_option linter.unusedVariables false
set_option linter.unusedSimpArgs false
set_option maxRecDepth 100000
namespace Go.Proofs.Ytjdchnbjegddhaa
open Go Go.Abs Go.Toll
variable {gl : Globs} {h : AHeap}

theorem texts_data (l : List Bytes) : ∀ e ∈ l.map encT, ∀ y ∈ e, y.Data := by
  intro e he y hy
  obtain ⟨s, _, rfl⟩ := List.mem_map.1 he
  simp [encT] at hy
  subst hy
  simp
theorem texts_n (l : List Bytes) : ∀ e ∈ l.map encT, e.length = 1 := by
  intro e he
  obtain ⟨s, _, rfl⟩ := List.mem_map.1 he
  rfl
theorem ref01_Before (a b : Bytes) (ha : shortS a) : ACalls Try.prog gl 71 [.str a, .str b] h fun v h' => v = .bool (Op.bytesLess a b) ∧ h' = h := by
  refine ACalls.data (.bool _) (ACalls.body Try.f71 _ mixed Try.func71 rfl rfl (by simp [Try.ntmps71]) ?_)
  unfold shortS at ha
  simp
  refine AWP.up mixed a.length (fun i fr h' => fr 0 = .str a ∧ fr 1 = .str b ∧ fr 5 = .int .i64 i ∧ i ≤ b.length ∧ Op.bytesLess a b = Op.bytesLess (a.drop i) (b.drop i) ∧ ∃ g, h' = h ++ g) 0 (by omega) ⟨by simp, by simp, by simp, by omega, by simp, [], by simp⟩ ?_
  rintro i fr h' hi ⟨e0, e1, e5, hib, hf, g, rfl⟩
  by_cases hlt : i < a.length ∧ i < b.length
  · obtain ⟨x, hx, hx'⟩ := get_lt hlt.1
    obtain ⟨y, hy, hy'⟩ := get_lt hlt.2
    rw [less_step hx hy] at hf
    have ew : IntKind.i64.wrap ((i : Int) + 1) = ((i + 1 : Nat) : Int) := by rw [wrap64_of (by omega) (by omega)]; omega
    have hl1 := hlt.1
    have hl2 := hlt.2
    simp [e0, e1, e5, hl1, hl2, hx, hx', hy, hy', ew, u8eq]
    refine ⟨by decide, fun q => ⟨by decide, ?_⟩, fun q => ⟨i + 1, by omega, by omega, by omega, by omega, ?_⟩⟩
    · rw [hf, beq_eq_false_iff_ne.2 q, Bool.false_and, Bool.or_false]; exact decide_eq_decide.2 UInt8.lt_iff_toNat_lt.symm
    · subst q
      rw [hf]; simp
  · have he : a.length ≤ i ∨ b.length ≤ i := by omega
    rw [less_end he hi hib] at hf
    have hn : i < a.length → b.length ≤ i := by omega
    simp [e0, e1, e5, hf]
    exact fun c1 c2 => absurd ⟨c1, c2⟩ hlt
theorem ref07_PathBefore (a b : List Bytes) (hl : a.length ≤ 1000000) (hsa : ∀ s ∈ a, shortS s) (x y : AV) (hx : Rs 1 h x (a.map encT)) (hy : Rs 1 h y (b.map encT)) (hlb : b.length ≤ 1000000) : ACalls Try.prog gl 73 [x, y] h fun v h' => v = .int .i64 (pcmp a b) ∧ h' = h := by
  refine ACalls.data (.int _ _) (ACalls.body Try.f73 _ mixed Try.func73 rfl rfl (by simp [Try.ntmps73]) ?_)
  have fx := hx.fix
  have fy := hy.fix
  simp [fx, fy, hx.len2, hy.len2]
  refine AWP.up mixed a.length (fun i fr h' => fr 0 = x ∧ fr 1 = y ∧ fr 5 = .int .i64 i ∧ i ≤ b.length ∧ pcmp a b = pcmp (a.drop i) (b.drop i) ∧ h' = h) 0 (by omega) ⟨by simp, by simp, by simp, by omega, by simp, by simp⟩ ?_
  rintro i fr h' hi ⟨e0, e1, e5, hib, hf, rfl⟩
  by_cases hlt : i < a.length ∧ i < b.length
  · obtain ⟨s, hs, hs'⟩ := get_lt hlt.1
    obtain ⟨t, ht, ht'⟩ := get_lt hlt.2
    rw [drop_get hs, drop_get ht, pcmp] at hf
    have ew := wrap_succ' (i := i) (by omega)
    have rx := Rs.ix Try.prog hx i (by omega) (y := [.str s]) (by simp [hs, encT])
    have ry := Rs.ix Try.prog hy i (by omega) (y := [.str t]) (by simp [ht, encT])
    have h1 := hlt.1
    have h2 := hlt.2
    simp [e0, e1, e5, h1, h2, fx, fy, hx.len2, hy.len2, rx, ry, ew]
    refine ⟨by decide, fun hne => ⟨by decide, ?_⟩, fun he => ⟨i + 1, by omega, by omega, by omega, by omega, ?_⟩⟩
    · refine callS.pure _ (fun _ => ref01_Before s t (hsa s (List.mem_of_getElem? hs))) ?_
      have hz : cmpS s t ≠ 0 := fun e => hne (cmpS_zero.1 e)
      rw [if_neg hz] at hf
      simp [e0, e1, e5, h1, h2, fx, fy, hx.len2, hy.len2, rx, ry]
      refine ⟨fun c => ?_, fun c => ?_⟩
      · rw [hf, cmpS, if_pos c]
      · rw [hf, cmpS, if_neg (by simp [c]), if_neg hne]
    · rw [hf, if_pos (cmpS_zero.2 he)]
  · have hg : ¬ (i < a.length ∧ i < b.length) := hlt
    rcases Nat.lt_or_ge i a.length with h1 | h1
    · have h2 : i = b.length := by omega
      subst h2
      rw [List.drop_length] at hf
      obtain ⟨z, l, hzl⟩ := List.exists_cons_of_ne_nil (l := a.drop b.length) (by intro e; have := congrArg List.length e; simp at this; omega)
      rw [hzl, pcmp] at hf
      have h3 : ¬ (a.length : Int) < b.length := by omega
      have h4 : b.length < a.length := h1
      simp [e0, e1, e5, h1, fx, fy, hx.len2, hy.len2, h3, h4, hf]
    · obtain rfl : i = a.length := by omega
      rw [List.drop_length] at hf
      rcases Nat.lt_or_ge a.length b.length with h2 | h2
      · obtain ⟨z, l, hzl⟩ := List.exists_cons_of_ne_nil (l := b.drop a.length) (by intro e; have := congrArg List.length e; simp at this; omega)
        rw [hzl, pcmp] at hf
        simp [e0, e1, e5, fx, fy, hx.len2, hy.len2, h2, hf]
      · have : b.length = a.length := by omega
        rw [List.drop_eq_nil_of_le (by omega), pcmp] at hf
        simp [e0, e1, e5, fx, fy, hx.len2, hy.len2, this, hf]
theorem ref07_better (d e : Int) (p q : List Bytes) (hl : p.length ≤ 1000000) (hsa : ∀ s ∈ p, shortS s) (x y : AV) (hx : Rs 1 h x (p.map encT)) (hy : Rs 1 h y (q.map encT)) (hlb : q.length ≤ 1000000) : ACalls Try.prog gl 63 [.int .i64 d, x, .int .i64 e, y] h fun v h' => v = .bool (betB d p e q) ∧ h' = h := by
  refine ACalls.data (.bool _) (ACalls.body Try.f63 _ mixed Try.func63 rfl rfl (by simp [Try.ntmps63]) ?_)
  have fx := hx.fix
  have fy := hy.fix
  have hq0 : ((q.length : Int) = 0) ↔ q = [] := by rw [← List.length_eq_zero_iff]; omega
  have hb0 : ((q.length : Int) == 0) = decide (q = []) := by rw [Bool.eq_iff_iff]; simp [hq0]
  simp [fx, fy, hx.len2, hy.len2, hq0]
  refine ⟨fun c => ?_, fun c1 c2 => ⟨fun c3 => ?_, fun c3 => ?_⟩⟩
  · rw [betB, if_pos c, hb0]
  · rw [betB, if_neg (by rintro (c | c); exact c1 c; exact c c2), if_pos (by omega)]
  · refine callS.pure _ (fun _ => ref07_PathBefore p q hl hsa x y hx hy hlb) ?_
    simp
    rw [betB, if_neg (by rintro (c | c); exact c1 c; exact c c2), if_neg (by omega)]
end Go.Proofs.Ytjdchnbjegddhaa
