/-
  Contracts: the order of readings, in both tellings.
-/
import Derived.Test.YtmnmbkcdjpidgaaCompare
import Derived.Test.YtmnmbkcdjpidgaaCmp
import Derived.Test.YtmnmbkcdjpidgaaAbsList
import Derived.Test.YtmnmbkcdjpidgaaTollSeen
set_option linter.unusedVariables false
set_option linter.unusedSimpArgs false
set_option maxRecDepth 100000
namespace Go.Proofs.Ytmnmbkcdjpidgaa
open Go Go.Abs Go.Toll
variable {gl : Globs} {h : AHeap}

theorem ref01_Before (a b : Bytes) (ha : shortS a) : ACalls Try.prog gl 63 [.str a, .str b] h fun v h' => v = .bool (Op.bytesLess a b) ∧ h' = h := by
  refine ACalls.data (.bool _) (ACalls.body Try.f63 _ mixed Try.func63 rfl rfl (by simp [Try.ntmps63]) ?_)
  unfold shortS at ha
  simp
  refine AWP.up mixed a.length (fun i fr h' => fr 0 = .str a ∧ fr 1 = .str b ∧ fr 5 = .int .i64 i ∧ i ≤ b.length ∧ Op.bytesLess a b = Op.bytesLess (a.drop i) (b.drop i) ∧ ∃ g, h' = h ++ g) 0 (by omega) ⟨by simp, by simp, by simp, by omega, by simp, [], by simp⟩ ?_
  rintro i fr h' hi ⟨e0, e1, e5, hib, hf, g, rfl⟩
  by_cases hlt : i < a.length ∧ i < b.length
  · obtain ⟨x, hx, hx'⟩ := get_lt hlt.1
    obtain ⟨y, hy, hy'⟩ := get_lt hlt.2
    rw [less_step hx hy] at hf
    have ew : IntKind.i64.wrap ((i : Int) + 1) = ((i + 1 : Nat) : Int) := by rw [wrap64_of (by omega) (by omega)]; omega
    have hl1 := hlt.1
    have hl2 := hlt.2
    simp [e0, e1, e5, hl1, hl2, hx, hx', hy, hy', ew, u8eq]
    refine ⟨by decide, fun q => ⟨by decide, ?_⟩, fun q => ⟨i + 1, by omega, by omega, by omega, by omega, ?_⟩⟩
    · rw [hf, beq_eq_false_iff_ne.2 q, Bool.false_and, Bool.or_false]; exact decide_eq_decide.2 UInt8.lt_iff_toNat_lt.symm
    · subst q
      rw [hf]; simp
  · have he : a.length ≤ i ∨ b.length ≤ i := by omega
    rw [less_end he hi hib] at hf
    have hn : i < a.length → b.length ≤ i := by omega
    simp [e0, e1, e5, hf]
    exact fun c1 c2 => absurd ⟨c1, c2⟩ hlt
theorem ref13_numbers (a b : Int) : ACalls Try.prog gl 53 [.int .i64 a, .int .i64 b] h fun v h' => v = .int .i64 (cmpI a b) ∧ h' = h := by
  refine ACalls.data (.int _ _) (ACalls.body Try.f53 _ mixed Try.func53 rfl rfl (by simp [Try.ntmps53]) ?_)
  simp [cmpI]
  refine ⟨fun h1 h2 => by omega, fun h1 => ⟨fun h2 => by rw [if_neg (by omega), if_pos h2], fun h2 => by rw [if_neg (by omega), if_neg (by omega)]⟩⟩
theorem ref13_texts (a b : Bytes) (ha : shortS a) : ACalls Try.prog gl 54 [.str a, .str b] h fun v h' => v = .int .i64 (cmpS a b) ∧ h' = h := by
  refine ACalls.data (.int _ _) (ACalls.body Try.f54 _ mixed Try.func54 rfl rfl (by simp [Try.ntmps54]) ?_)
  simp
  refine ⟨fun e => (cmpS_zero.2 e).symm, fun e => ?_⟩
  refine callS.pure _ (fun _ => ref01_Before a b ha) ?_
  simp
  exact ⟨fun q => by rw [cmpS, if_pos q], fun q => by rw [cmpS, if_neg (by rw [q]; simp), if_neg e]⟩
theorem ref13_first (x : AV) (l : List Int) (hx : Rs 1 h x (l.map fun n => [.int .i64 n])) (hl : l.length ≤ 1000) : ACalls Try.prog gl 52 [x] h fun v h' => v = .int .i64 (orI l) ∧ h' = h := by
  refine ACalls.data (.int _ _) (ACalls.body Try.f52 _ mixed Try.func52 rfl rfl (by simp [Try.ntmps52]) ?_)
  have c := hx.fix
  simp [c]
  refine AWP.up mixed l.length (fun i fr h' => fr 0 = x ∧ fr 3 = .int .i64 i ∧ orI l = orI (l.drop i) ∧ ∃ g, h' = h ++ g) 0 (by omega) ⟨by simp, by simp, by simp, [], by simp⟩ ?_
  rintro i fr h' hi ⟨e0, e3, hf, g, rfl⟩
  have hx := hx.append g
  have c2 := hx.len2
  rcases Nat.lt_or_ge i l.length with hlt | hge
  · obtain ⟨y, hg, hg'⟩ := get_lt hlt
    rw [drop_get hg, orI_cons] at hf
    have ew := wrap_succ' (i := i) (by omega)
    have rx := Rs.ix Try.prog hx i (by omega) (y := [.int .i64 y]) (by simp [hg])
    simp [e0, e3, hlt, c, c2, rx, ew]
    refine ⟨fun hy => by rw [hf, if_neg hy], fun hy => ⟨i + 1, by omega, by omega, by simp, by rw [hf, if_pos hy]⟩⟩
  · rw [List.drop_eq_nil_of_le hge] at hf
    simp [e0, e3, hf, orI_nil, c, c2, Nat.not_lt.2 hge]
theorem detect_raw (x y : TSeen) : ACalls Try.prog gl 50 [.agg (encRaw x), .agg (encRaw y)] h fun v h' => v = .int .i64 (rawCmp x y) ∧ h' = h := by
  refine ACalls.data (.int _ _) (ACalls.body Try.f50 _ mixed Try.func50 rfl rfl (by simp [Try.ntmps50]) ?_)
  simp [encRaw]
  refine ⟨by decide, ?_⟩
  refine callS.pure _ (fun _ => cmp_Compare_string _ _) ?_
  simp
  refine callS.pure _ (fun _ => cmp_Compare_int _ _) ?_
  simp
  refine callS.pure _ (fun _ => cmp_Compare_int _ _) ?_
  simp
  refine callS.pure _ (fun _ => cmp_Compare_string _ _) ?_
  simp
  refine callS.pure _ (fun _ => cmp_Compare_string _ _) ?_
  simp
  refine callS.pure _ (fun _ => cmp_Compare_int _ _) ?_
  simp
  refine callS.pure _ (fun _ => cmp_Compare_int _ _) ?_
  simp
  refine callS.pure _ (fun _ => cmp_Or _ [cmpS x.dev y.dev, cmpI x.seq y.seq, cmpI x.dtime y.dtime, cmpS x.tag y.tag, cmpS x.plate y.plate, cmpI x.axles y.axles, cmpI x.score y.score] (Rd.own (b := h.length + 2) (es := [cmpS x.dev y.dev, cmpI x.seq y.seq, cmpI x.dtime y.dtime, cmpS x.tag y.tag, cmpS x.plate y.plate, cmpI x.axles y.axles, cmpI x.score y.score].map fun n => [.int .i64 n]) (by simp [cmpI, cmpS]) (by simp)) (by simp)) ?_
  simp [rawCmp]
theorem ref13_raw (x y : TSeen) (hx : x.short) : ACalls Try.prog gl 55 [.agg (encRaw x), .agg (encRaw y)] h fun v h' => v = .int .i64 (rawCmp x y) ∧ h' = h := by
  refine ACalls.data (.int _ _) (ACalls.body Try.f55 _ mixed Try.func55 rfl rfl (by simp [Try.ntmps55]) ?_)
  simp [encRaw]
  refine ⟨by decide, ?_⟩
  refine callS.pure _ (fun _ => ref13_texts _ _ hx.1) ?_
  simp
  refine callS.pure _ (fun _ => ref13_numbers _ _) ?_
  simp
  refine callS.pure _ (fun _ => ref13_numbers _ _) ?_
  simp
  refine callS.pure _ (fun _ => ref13_texts _ _ hx.2.1) ?_
  simp
  refine callS.pure _ (fun _ => ref13_texts _ _ hx.2.2.1) ?_
  simp
  refine callS.pure _ (fun _ => ref13_numbers _ _) ?_
  simp
  refine callS.pure _ (fun _ => ref13_numbers _ _) ?_
  simp
  refine callS.pure _ (fun _ => ref13_first _ [cmpS x.dev y.dev, cmpI x.seq y.seq, cmpI x.dtime y.dtime, cmpS x.tag y.tag, cmpS x.plate y.plate, cmpI x.axles y.axles, cmpI x.score y.score] (Rs.own (b := h.length + 2) (es := [cmpS x.dev y.dev, cmpI x.seq y.seq, cmpI x.dtime y.dtime, cmpS x.tag y.tag, cmpS x.plate y.plate, cmpI x.axles y.axles, cmpI x.score y.score].map fun n => [.int .i64 n]) (by simp) (by simp)) (by simp)) ?_
  simp [rawCmp]
theorem detect_Compare (x y : TSeen) : ACalls Try.prog gl 33 [.agg (encSeen x), .agg (encSeen y)] h fun v h' => v = .int .i64 (seenCmp x y) ∧ h' = h := by
  refine ACalls.data (.int _ _) (ACalls.body Try.f33 _ mixed Try.func33 rfl rfl (by simp [Try.ntmps33]) ?_)
  simp
  refine ⟨by decide, ?_⟩
  refine callS.pure _ (fun _ => cmp_Compare_int _ _) ?_
  simp
  refine callS.pure _ (fun _ => cmp_Compare_string _ _) ?_
  simp
  refine callS.pure _ (fun _ => cmp_Compare_int _ _) ?_
  simp
  refine callS.pure _ (fun _ => cmp_Compare_int _ _) ?_
  simp
  refine callS.pure _ (fun _ => detect_raw x y) ?_
  simp
  refine callS.pure _ (fun _ => cmp_Or _ [cmpI x.time y.time, cmpS x.point y.point, cmpI x.kind y.kind, cmpI x.lane y.lane, rawCmp x y] (Rd.own (b := h.length + 2) (es := [cmpI x.time y.time, cmpS x.point y.point, cmpI x.kind y.kind, cmpI x.lane y.lane, rawCmp x y].map fun n => [.int .i64 n]) (by simp [cmpI, cmpS]) (by simp)) (by simp)) ?_
  simp [seenCmp]
theorem ref13_Compare (x y : TSeen) (hx : x.short) : ACalls Try.prog gl 37 [.agg (encSeen x), .agg (encSeen y)] h fun v h' => v = .int .i64 (seenCmp x y) ∧ h' = h := by
  refine ACalls.data (.int _ _) (ACalls.body Try.f37 _ mixed Try.func37 rfl rfl (by simp [Try.ntmps37]) ?_)
  simp
  refine ⟨by decide, ?_⟩
  refine callS.pure _ (fun _ => ref13_numbers _ _) ?_
  simp
  refine callS.pure _ (fun _ => ref13_texts _ _ hx.2.2.2) ?_
  simp
  refine callS.pure _ (fun _ => ref13_numbers _ _) ?_
  simp
  refine callS.pure _ (fun _ => ref13_numbers _ _) ?_
  simp
  refine callS.pure _ (fun _ => ref13_raw x y hx) ?_
  simp
  refine callS.pure _ (fun _ => ref13_first _ [cmpI x.time y.time, cmpS x.point y.point, cmpI x.kind y.kind, cmpI x.lane y.lane, rawCmp x y] (Rs.own (b := h.length + 2) (es := [cmpI x.time y.time, cmpS x.point y.point, cmpI x.kind y.kind, cmpI x.lane y.lane, rawCmp x y].map fun n => [.int .i64 n]) (by simp) (by simp)) (by simp)) ?_
  simp [seenCmp]
end Go.Proofs.Ytmnmbkcdjpidgaa
