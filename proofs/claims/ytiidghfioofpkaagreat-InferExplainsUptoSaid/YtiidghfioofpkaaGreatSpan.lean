/-
  Contracts: spans.
-/
import Derived.Test.YtiidghfioofpkaaGreatClock
set_option linter.unusedVariables false
set_option linter.unusedSimpArgs false
set_option maxRecDepth 100000
namespace Go.Proofs.YtiidghfioofpkaaGreat
open Go Go.Abs Go.Toll
variable {gl : Globs} {h : AHeap}

theorem span_Has1 (b : Nat) (i : Iv) (t : Int) (hb : h[b]? = some (.cells 1 [[.int .i64 t]])) : ACalls Tryz.prog gl 68 [.agg (encIv i), .ptr b 0 0] h fun v h' => v = .bool (hasB i t) ∧ h' = h := by
  refine ACalls.data (by simp) (ACalls.body Tryz.f68 _ mixed Tryz.func68 rfl rfl (by simp [Tryz.ntmps68]) ?_)
  obtain ⟨hlt, hb'⟩ := List.getElem?_eq_some_iff.1 hb
  simp [hb', hlt]
  refine callS.pure _ (fun _ => span_Valid i) ?_
  simp [hb', hlt, hasB]
theorem IndexFunc_Interval (x : AV) (es : List (List AV)) (hx : Rd 2 h x es) (hl : es.length ≤ 1152921504606846976) (f : FuncId) (caps : List AV) (p : List AV → Bool)
    (hp : ∀ e ∈ es, ∀ g, ACalls Tryz.prog gl f (.agg e :: caps) (h ++ g) fun v h' => v = .bool (p e) ∧ h' = h ++ g) :
    ACalls Tryz.prog gl 92 [x, .fn (.func f) [] caps] h fun v h' => v = .int .i64 (idxI p es) ∧ h' = h := by
  refine ACalls.data (by simp) (ACalls.body Tryz.f92 _ mixed Tryz.func92 rfl rfl (by simp [Tryz.ntmps92]) ?_)
  simp [hx.core, hx.gd, hx.lenOk, hx.alen]
  refine AWP.up mixed es.length (fun i fr h' => fr 0 = x ∧ fr 1 = .fn (.func f) [] caps ∧ fr 7 = .int .i64 es.length ∧ fr 8 = .int .i64 i ∧ idxI p es = idxFrom p i (es.drop i) ∧ ∃ g, h' = h ++ g) 0 (by omega) ⟨by simp, by simp, by simp, by simp, by simp [idxI], [], by simp⟩ ?_
  rintro i fr h' hi ⟨e0, e1, e7, e8, hf, g, rfl⟩
  have hx := hx.append g
  rcases Nat.lt_or_ge i es.length with hlt | hge
  · obtain ⟨y, hg, hg'⟩ := get_lt hlt
    have hy : y.length = 2 := hx.2 y (hg' ▸ List.getElem_mem hlt)
    rw [drop_get hg, idxFrom] at hf
    have ew := wrap_succ' (i := i) (by omega)
    have h0 : (0 : Int) ≤ i := by omega
    have h1 : (i : Int) < es.length := by omega
    simp [e0, e1, e7, e8, hlt, hx.core, hx.gd, hx.iaddrOk, h0, h1, hx.icore, hx.igd, hx.loadV h0 h1 hg, hx.loadOk h0 h1 hg, hy]
    rw [List.take_of_length_le (by omega)]
    refine callS.pure _ (fun _ => hp y (hg' ▸ List.getElem_mem hlt) g) ?_
    simp [e0, e1, e7, e8, ew]
    refine ⟨fun hpy => by simp [hf, hpy], fun hpy => ⟨i + 1, by omega, by omega, by simp, by simp [hf, hpy]⟩⟩
  · rw [List.drop_eq_nil_of_le hge] at hf
    simp [e0, e1, e7, e8, hf, Nat.not_lt.2 hge, idxFrom]
theorem ContainsFunc_Interval (x : AV) (es : List (List AV)) (hx : Rd 2 h x es) (hl : es.length ≤ 1152921504606846976) (f : FuncId) (caps : List AV) (p : List AV → Bool)
    (hp : ∀ e ∈ es, ∀ g, ACalls Tryz.prog gl f (.agg e :: caps) (h ++ g) fun v h' => v = .bool (p e) ∧ h' = h ++ g) :
    ACalls Tryz.prog gl 67 [x, .fn (.func f) [] caps] h fun v h' => v = .bool (es.any p) ∧ h' = h := by
  refine ACalls.data (by simp) (ACalls.body Tryz.f67 _ mixed Tryz.func67 rfl rfl (by simp [Tryz.ntmps67]) ?_)
  simp [hx.core, hx.gd]
  refine callS.pure _ (fun _ => IndexFunc_Interval x es hx hl f caps p hp) ?_
  simp [idxI_nonneg]
theorem span_Has (x : AV) (es : List Iv) (hx : Rd 2 h x (es.map encIv)) (hl : es.length ≤ 1000) (t : Int) :
    ACalls Tryz.prog gl 42 [x, .int .i64 t] h fun v h' => v = .bool (hasL t es) ∧ h' = h := by
  refine ACalls.data (by simp) (ACalls.body Tryz.f42 _ mixed Tryz.func42 rfl rfl (by simp [Tryz.ntmps42]) ?_)
  simp [hx.core, hx.gd]
  refine callS.pure _ (fun _ => ContainsFunc_Interval x _ (hx.append _) (by simp; omega) 68 [.ptr h.length 0 0] (fun e => hasB ⟨aint (e.getD 0 .junk), aint (e.getD 1 .junk)⟩ t) ?_) ?_
  · intro e he g
    obtain ⟨i, _, rfl⟩ := List.mem_map.1 he
    exact span_Has1 (h := h ++ [.cells 1 [[.int .i64 t]]] ++ g) h.length i t (by simp)
  simp [List.any_map, Function.comp_def, hasL_eq]
theorem ref05_Has (x : AV) (es : List Iv) (hx : Rd 2 h x (es.map encIv)) (hl : es.length ≤ 1000) (t : Int) :
    ACalls Tryz.prog gl 44 [x, .int .i64 t] h fun v h' => v = .bool (hasL t es) ∧ h' = h := by
  refine ACalls.data (by simp) (ACalls.body Tryz.f44 _ mixed Tryz.func44 rfl rfl (by simp [Tryz.ntmps44]) ?_)
  simp [hx.core, hx.gd]
  refine AWP.up mixed es.length (fun i fr h' => fr 0 = x ∧ fr 1 = .int .i64 t ∧ fr 5 = .int .i64 i ∧ hasL t es = hasL t (es.drop i) ∧ ∃ g, h' = h ++ g) 0 (by omega) ⟨by simp, by simp, by simp, by simp, [], by simp⟩ ?_
  rintro i fr h' hi ⟨e0, e1, e5, hf, g, rfl⟩
  have hx := hx.append g
  rcases Nat.lt_or_ge i es.length with hlt | hge
  · obtain ⟨y, hg, hg'⟩ := get_lt hlt
    rw [drop_get hg, hasL] at hf
    have ew := wrap_succ' (i := i) (by omega)
    have h0 : (0 : Int) ≤ i := by omega
    have h1 : (i : Int) < (es.map encIv).length := by simp; omega
    have hm : (es.map encIv)[(i : Int).toNat]? = some (encIv y) := by simp [hg]
    simp [e0, e1, e5, hlt, hx.core, hx.gd, hx.lenOk, hx.alen, hx.iaddrOk, h0, h1, hx.icore, hx.igd, hx.loadV h0 h1 hm, hx.loadOk h0 h1 hm, hx.floadV h0 h1 hm, hx.floadOk h0 h1 hm, hx.faddrOk h0 h1, hx.fcore h0 h1, hx.fgd h0 h1]
    refine callS.pure _ (fun _ => ref05_Valid y) ?_
    simp [e0, e1, e5, hlt, hx.core, hx.gd, hx.lenOk, hx.alen, hx.iaddrOk, h0, h1, hx.icore, hx.igd, hx.loadV h0 h1 hm, hx.loadOk h0 h1 hm, hx.floadV h0 h1 hm, hx.floadOk h0 h1 hm, hx.faddrOk h0 h1, hx.fcore h0 h1, hx.fgd h0 h1, ew]
    refine ⟨fun p1 p2 p3 => by simp [hf, hasB, p1, p2, p3], fun hn => ⟨i + 1, by omega, by omega, by simp, ?_⟩⟩
    have : hasB y t = false := by simp [hasB]; exact hn
    simp [hf, this]
  · rw [List.drop_eq_nil_of_le hge] at hf
    simp [e0, e1, e5, hf, hasL, hx.core, hx.gd, hx.lenOk, hx.alen, Nat.not_lt.2 hge]
end Go.Proofs.YtiidghfioofpkaaGreat
