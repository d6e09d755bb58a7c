/-
  Contracts: the order of passages, and lists of passages that are compared.
-/
import Derived.Test.YtjdchnbjegddhaaText
import Derived.Test.YtjdchnbjegddhaaTollPass
import Derived.Test.YtjdchnbjegddhaaAbsLax
set_option linter.unusedVariables false
set_option linter.unusedSimpArgs false
set_option maxRecDepth 100000
namespace Go.Proofs.Ytjdchnbjegddhaa
open Go Go.Abs Go.Toll
variable {gl : Globs} {h : AHeap}

theorem ref17_numbers (a b : Int) : ACalls Try.prog gl 58 [.int .i64 a, .int .i64 b] h fun x h' => x = .int .i64 (cmpN a b) ∧ h' = h := by
  refine ACalls.data (.int _ _) (ACalls.body Try.f58 _ mixed Try.func58 rfl rfl (by simp [Try.ntmps58]) ?_)
  unfold cmpN
  by_cases h1 : a < b
  · simp [h1]
  · by_cases h2 : b < a <;> simp [h1, h2]
theorem ref17_texts (a b : Bytes) (ha : shortS a) : ACalls Try.prog gl 59 [.str a, .str b] h fun x h' => x = .int .i64 (cmpT a b) ∧ h' = h := by
  refine ACalls.data (.int _ _) (ACalls.body Try.f59 _ mixed Try.func59 rfl rfl (by simp [Try.ntmps59]) ?_)
  unfold cmpT
  by_cases h1 : a = b
  · simp [h1]
  · simp [h1]
    refine callS.pure _ (fun _ => ref01_Before a b ha) ?_
    cases hb : Op.bytesLess a b <;> simp
theorem ref17_Sources (a b : TSrc) (ha : shortS a.dev) : ACalls Try.prog gl 72 [.agg (encSrc a), .agg (encSrc b)] h fun x h' => x = .int .i64 (cmpSrc a b) ∧ h' = h := by
  refine ACalls.data (.int _ _) (ACalls.body Try.f72 _ mixed Try.func72 rfl rfl (by simp [Try.ntmps72]) ?_)
  unfold cmpSrc
  by_cases h1 : a.dev = b.dev
  · simp [encSrc, h1]
    refine callS.pure _ (fun _ => ref17_numbers a.seq b.seq) ?_
    simp
  · simp [encSrc, h1]
    refine callS.pure _ (fun _ => ref17_texts a.dev b.dev ha) ?_
    simp
theorem cmpSrcs_step {a b : List TSrc} {i : Nat} {x y : TSrc} (hx : a[i]? = some x) (hy : b[i]? = some y) : cmpSrcs (a.drop i) (b.drop i) = if cmpSrc x y ≠ 0 then cmpSrc x y else cmpSrcs (a.drop (i + 1)) (b.drop (i + 1)) := by
  rw [drop_get hx, drop_get hy, cmpSrcs]
theorem cmpSrcs_end {a b : List TSrc} {i : Nat} (h : a.length ≤ i ∨ b.length ≤ i) (h1 : i ≤ a.length) (h2 : i ≤ b.length) : cmpSrcs (a.drop i) (b.drop i) = cmpN a.length b.length := by
  have e1 : cmpN a.length b.length = cmpN (a.drop i).length (b.drop i).length := by
    have := cmpN_len (a.drop i).length (b.drop i).length i
    rw [← this, List.length_drop, List.length_drop, show i + (a.length - i) = a.length by omega, show i + (b.length - i) = b.length by omega]
  rw [e1]
  rcases h with h | h
  · rw [List.drop_eq_nil_of_le h]; cases b.drop i <;> rfl
  · rw [List.drop_eq_nil_of_le h]; cases a.drop i <;> rfl
set_option maxHeartbeats 2000000 in
theorem ref17_lists (a b : List TSrc) (ha : ∀ s ∈ a, shortS s.dev) (hla : a.length ≤ maxLen) : ACalls Try.prog gl 60 [.ro (a.map encSrc), .ro (b.map encSrc)] h fun x h' => x = .int .i64 (cmpSrcs a b) ∧ h' = h := by
  refine ACalls.data (.int _ _) (ACalls.body Try.f60 _ mixed Try.func60 rfl rfl (by simp [Try.ntmps60]) ?_)
  have hla : a.length ≤ 9223372036854775807 := hla
  simp
  refine AWP.up mixed a.length (fun i fr H => fr 0 = .ro (a.map encSrc) ∧ fr 1 = .ro (b.map encSrc) ∧ fr 5 = .int .i64 i ∧ i ≤ b.length ∧ cmpSrcs a b = cmpSrcs (a.drop i) (b.drop i) ∧ ∃ g, H = h ++ g) 0 (by omega) ⟨by simp, by simp, by simp, by omega, by simp, [], by simp⟩ ?_
  rintro i fr H hi ⟨e0, e1, e5, hib, hf, g, rfl⟩
  by_cases hlt : i < a.length ∧ i < b.length
  · obtain ⟨x, hx, hx'⟩ := get_lt hlt.1
    obtain ⟨y, hy, hy'⟩ := get_lt hlt.2
    rw [cmpSrcs_step hx hy] at hf
    have ew : IntKind.i64.wrap ((i : Int) + 1) = ((i + 1 : Nat) : Int) := by rw [wrap64_of (by omega) (by omega)]; omega
    have hl1 := hlt.1
    have hl2 := hlt.2
    simp [e0, e1, e5, hl1, hl2, hx, hx', hy, hy', ew, encSrc]
    refine ⟨by decide, ?_⟩
    refine callS.pure _ (fun _ => ref17_Sources x y (ha x (List.mem_of_getElem? hx))) ?_
    simp [e0, e1, e5, hl1, hl2, hx, hx', hy, hy', ew]
    refine ⟨fun q => by rw [hf, if_pos q], fun q => ⟨i + 1, by omega, by omega, by omega, by omega, by rw [hf, if_neg (by simpa using q)]⟩⟩
  · have he : a.length ≤ i ∨ b.length ≤ i := by omega
    rw [cmpSrcs_end he hi hib] at hf
    have hn : i < a.length → b.length ≤ i := by omega
    have hn' : ¬ (i < a.length ∧ i < b.length) := hlt
    by_cases c : i < a.length
    · have c2 : ¬ i < b.length := fun q => hlt ⟨c, q⟩
      simp [e0, e1, e5, c, c2]
      refine callS.pure _ (fun _ => ref17_numbers a.length b.length) ?_
      simp [hf]
    · simp [e0, e1, e5, c]
      refine callS.pure _ (fun _ => ref17_numbers a.length b.length) ?_
      simp [hf]
theorem firstNZ_step {l : List Int} {i : Nat} {x : Int} (hx : l[i]? = some x) : firstNZ (l.drop i) = if x ≠ 0 then x else firstNZ (l.drop (i + 1)) := by
  rw [drop_get hx, firstNZ]
set_option maxHeartbeats 4000000 in
theorem ref17_Compare (a b : TPass) (ha : a.Ok) (hb : b.Ok) : ACalls Try.prog gl 46 [.agg (encPass a), .agg (encPass b)] h fun x h' => x = .int .i64 (cmpP a b) ∧ h' = h := by
  refine ACalls.data (.int _ _) (ACalls.body Try.f46 _ mixed Try.func46 rfl rfl (by simp [Try.ntmps46]) ?_)
  have e1 := ha.src
  have e2 := hb.src
  have hn : a.srcs.length ≤ maxLen := by have := ha.n; rw [e1] at this; simpa using this
  obtain ⟨c1, h1⟩ : ∃ c, c = cmpN a.time b.time := ⟨_, rfl⟩
  obtain ⟨c2, h2⟩ : ∃ c, c = cmpT a.point b.point := ⟨_, rfl⟩
  obtain ⟨c3, h3⟩ : ∃ c, c = cmpT a.id b.id := ⟨_, rfl⟩
  obtain ⟨c4, h4⟩ : ∃ c, c = cmpT a.tag b.tag := ⟨_, rfl⟩
  obtain ⟨c5, h5⟩ : ∃ c, c = cmpT a.plate b.plate := ⟨_, rfl⟩
  obtain ⟨c6, h6⟩ : ∃ c, c = cmpN a.cls b.cls := ⟨_, rfl⟩
  obtain ⟨c7, h7⟩ : ∃ c, c = cmpN a.score b.score := ⟨_, rfl⟩
  obtain ⟨c8, h8⟩ : ∃ c, c = cmpSrcs a.srcs b.srcs := ⟨_, rfl⟩
  have hcl : cmpP a b = firstNZ [c1, c2, c3, c4, c5, c6, c7, c8] := by rw [cmpP, cmpL, h1, h2, h3, h4, h5, h6, h7, h8]
  rw [hcl]
  simp
  refine ⟨by decide, ?_⟩
  refine callS.pure (.int .i64 c1) (fun _ => by rw [h1]; exact ref17_numbers a.time b.time) ?_
  simp
  refine callS.pure (.int .i64 c2) (fun _ => by rw [h2]; exact ref17_texts a.point b.point ha.point) ?_
  simp
  refine callS.pure (.int .i64 c3) (fun _ => by rw [h3]; exact ref17_texts a.id b.id ha.id) ?_
  simp
  refine callS.pure (.int .i64 c4) (fun _ => by rw [h4]; exact ref17_texts a.tag b.tag ha.tag) ?_
  simp
  refine callS.pure (.int .i64 c5) (fun _ => by rw [h5]; exact ref17_texts a.plate b.plate ha.plate) ?_
  simp
  refine callS.pure (.int .i64 c6) (fun _ => by rw [h6]; exact ref17_numbers a.cls b.cls) ?_
  simp
  refine callS.pure (.int .i64 c7) (fun _ => by rw [h7]; exact ref17_numbers a.score b.score) ?_
  simp
  refine callS.pure (.int .i64 c8) (fun _ => by rw [h8, e1, e2]; exact ref17_lists a.srcs b.srcs ha.dev hn) ?_
  clear hcl h1 h2 h3 h4 h5 h6 h7 h8
  simp
  obtain ⟨L, hL⟩ : ∃ L, L = [c1, c2, c3, c4, c5, c6, c7, c8] := ⟨_, rfl⟩
  have hLl : L.length = 8 := by rw [hL]; rfl
  have hLm : [[AV.int .i64 c1], [.int .i64 c2], [.int .i64 c3], [.int .i64 c4], [.int .i64 c5], [.int .i64 c6], [.int .i64 c7], [.int .i64 c8]] = L.map fun c => [AV.int .i64 c] := by rw [hL]; rfl
  rw [← hL]
  obtain ⟨b0, hb0⟩ : ∃ b0, b0 = h.length + 2 := ⟨_, rfl⟩
  refine AWP.up mixed 8 (fun i fr H => fr 5 = .own b0 0 8 ∧ fr 6 = .int .i64 i ∧ firstNZ L = firstNZ (L.drop i) ∧ H[b0]? = some (.cells 1 (L.map fun c => [AV.int .i64 c])) ∧ ∃ g, H = h ++ g) 0 (by omega) ⟨by simp [hb0], by simp, by simp, by rw [← hLm]; simp [hb0], by simp⟩ ?_
  rintro i fr H hi ⟨e5, e6, hf, hH, hB⟩
  rcases Nat.lt_or_ge i 8 with hlt | hge
  · obtain ⟨x, hx, hx'⟩ := get_lt (l := L) (i := i) (by omega)
    rw [firstNZ_step hx] at hf
    have hH1 := (List.getElem?_eq_some_iff.1 hH).1
    have hH2 := (List.getElem?_eq_some_iff.1 hH).2
    have ew := wrap_succ' (i := i) (by omega)
    have hlt' : (i : Int) < 8 := by omega
    simp [e5, e6, hlt', hlt, hH, hH1, hH2, hx, hx', hLl, ew]
    refine ⟨fun q => ⟨by rw [hf, if_pos q], hB⟩, fun q => ⟨i + 1, by omega, by omega, by omega, by rw [hf, if_neg (by simpa using q)], hB⟩⟩
  · obtain rfl : i = 8 := by omega
    rw [List.drop_eq_nil_of_le (by omega), firstNZ] at hf
    simp [e5, e6, hf]
    exact hB
theorem ref17_One (a b : TPass) (ha : a.Ok) (hb : b.Ok) : ACalls Try.prog gl 30 [.agg (encPass a), .agg (encPass b)] h fun x h' => x = .bool (decide (cmpP a b = 0)) ∧ h' = h := by
  refine ACalls.data (.bool _) (ACalls.body Try.f30 _ mixed Try.func30 rfl rfl (by simp [Try.ntmps30]) ?_)
  simp
  refine callS.pure _ (fun _ => ref17_Compare a b ha hb) ?_
  simp
  rw [Bool.eq_iff_iff]; simp
theorem pass_n (l : List TPass) : ∀ e ∈ l.map encPass, e.length = 8 := by
  intro e he
  obtain ⟨s, _, rfl⟩ := List.mem_map.1 he
  rfl
set_option maxHeartbeats 2000000 in
/-- Lists that are the same. -/
theorem ref17_Same (l : List TPass) (hl : ∀ p ∈ l, p.Ok) (hn : l.length ≤ 1000000) (x y : AV) (hx : Rs 8 h x (l.map encPass)) (hy : Rs 8 h y (l.map encPass)) : ACalls Try.prog gl 20 [x, y] h fun v h' => v = .bool true ∧ h' = h := by
  refine ACalls.data (.bool _) (ACalls.body Try.f20 _ mixed Try.func20 rfl rfl (by simp [Try.ntmps20]) ?_)
  have fx := hx.fix
  have fy := hy.fix
  simp [fx, fy, hx.len2, hy.len2]
  refine AWP.up mixed l.length (fun i fr h' => fr 0 = x ∧ fr 1 = y ∧ fr 5 = .int .i64 i ∧ h' = h) 0 (by omega) ⟨by simp, by simp, by simp, by simp⟩ ?_
  rintro i fr h' hi ⟨e0, e1, e5, rfl⟩
  rcases Nat.lt_or_ge i l.length with hlt | hge
  · obtain ⟨p, hp, hp'⟩ := get_lt hlt
    have ew := wrap_succ' (i := i) (by omega)
    have rx := Rs.ix Try.prog hx i (by omega) (y := encPass p) (by simp [hp])
    have ry := Rs.ix Try.prog hy i (by omega) (y := encPass p) (by simp [hp])
    have hpo := hl p (List.mem_of_getElem? hp)
    simp [e0, e1, e5, hlt, fx, fy, hx.len2, hy.len2, rx, ry, ew]
    refine ⟨by decide, ?_⟩
    refine callS.pure _ (fun _ => ref17_One p p hpo hpo) ?_
    simp [e0, e1, e5, cmpP_self, ew]
    exact ⟨i + 1, by omega, by omega, by omega⟩
  · have hge' : ¬ (i : Int) < l.length := by omega
    simp [e0, e1, e5, hge', fx, fy, hx.len2, Nat.not_lt.2 hge]
end Go.Proofs.Ytjdchnbjegddhaa
