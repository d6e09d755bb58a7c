/-
  Contracts: the law of segments, without the reference.
-/
import Derived.Test.YtjdchnbjegddhaaLaw19A
set_option linter.unusedVariables false
set_option linter.unusedSimpArgs false
set_option maxRecDepth 100000
namespace Go.Proofs.Ytjdchnbjegddhaa
open Go Go.Abs Go.Toll
variable {gl : Globs} {h : AHeap}

def flatI (S : List (List TPass)) (i : Nat) : List TPass := (S.take i).flatten
set_option maxHeartbeats 8000000 in
theorem law_Joined (t : Topo) (l : List TPass) (g m : Int) (hok : ∀ p ∈ l, p.Ok) : ACalls Try.prog gl 8 [.agg (encTopo t), .ro (l.map encPass), .int .i64 g, .int .i64 m] h fun v h' => v = .bool true := by
  refine ACalls.mono (ACalls.data (.bool true) (ACalls.body Try.f8 _ mixed Try.func8 rfl rfl (by simp [Try.ntmps8]) ?_)) fun _ _ h => h.1
  simp
  refine callS.pure _ (fun _ => law_outside t l) ?_
  cases ho : outB t l with
  | true =>
    simp
    refine callS.pure _ (fun _ => law_awake) ?_
    simp
  | false =>
    by_cases hgm : m < g
    · simp [hgm]
      refine callS.pure _ (fun _ => law_awake) ?_
      simp
    obtain ⟨b1, b2, b3, b4, b5, b6⟩ := outB_no ho
    have hok2 : ∀ p ∈ l, p.Ok ∧ p.sources.length ≤ 1000 ∧ isTimeB p.time = true := fun p hp => ⟨hok p hp, by have := (b6 p hp).2; omega, (b6 p hp).1⟩
    have hv : validT t = t := by rw [validT, if_pos b5]
    have c1 := fun H : AHeap => chain_Segments (gl := gl) (h := H) t b5 l g hok2 (by omega) (by omega) (by omega)
    have c2 := fun H : AHeap => chain_Segments (gl := gl) (h := H) t b5 l m hok2 (by omega) (by omega) (by omega)
    have c3 := fun (H : AHeap) (r : List TPass) (hr : r.length ≤ 1000000) => chain_Feasible (gl := gl) (h := H) t r _ (Rs.ro (pass_n r)) hr (by omega) (by omega) (by omega)
    rw [hv] at c3
    unfold segV segsM at c1 c2
    have hSl := segsI_len (v := t.net) (l := l) (g := gapM g) l.length
    have hSo : ∀ r ∈ segsI t.net l (gapM g) l.length, (∀ p ∈ r, p.Ok) ∧ r.length ≤ l.length ∧ r ≠ [] ∧ (chnB t.net l = true → chnB t.net r = true) := fun r hr => ⟨segsI_ok hok (by omega) r hr, segsI_row (by omega) hr, segsI_ne _ r hr, fun q => seg_feas q hr⟩
    have hjoin := segsI_join (v := t.net) (l := l) (g := gapM g) l.length (by omega)
    rw [List.take_length] at hjoin
    have hmono := segs_mono (v := t.net) (l := l) (gapM_mono (show g ≤ m by omega)) l.length (by omega)
    generalize segsI t.net l (gapM g) l.length = S at *
    generalize segsI t.net l (gapM m) l.length = S2 at *
    have hflat : ∀ i, (S.take i).flatten.length ≤ l.length := fun i => by
      have : (S.take i).flatten.length + (S.drop i).flatten.length = S.flatten.length := by rw [← List.length_append, ← List.flatten_append, List.take_append_drop]
      rw [hjoin] at this
      omega
    simp [hgm]
    refine callS.pure _ (fun _ => c1 _) ?_
    simp
    refine AWP.up mixed S.length (fun i fr H => fr 1 = .ro (l.map encPass) ∧ fr 3 = .int .i64 m ∧ fr 4 = .ptr h.length 0 0 ∧ fr 10 = .ro (S.map fun r => [.ro (r.map encPass)]) ∧ fr 26 = .ro (S.map fun r => [.ro (r.map encPass)]) ∧ fr 27 = .int .i64 S.length ∧ fr 28 = .int .i64 i ∧ H[h.length]? = some (.cells 3 [encTopo t]) ∧ (∃ g, H = h ++ g) ∧ ∃ x, fr 9 = x ∧ Ls 8 (h.length + 1) H x ((flatI S i).map encPass)) 0 (by omega)
      ⟨by simp, by simp, by simp, by simp, by simp, by simp, by simp, by simp, by simp, .nil, by simp, by simpa [flatI] using Ls.nil⟩ ?_
    rintro i fr H hi ⟨e1, e3, e4, e10, e26, e27, e28, hT, hB, x, e9, hx⟩
    have hT3 := at3 hT
    simp only [encTopo] at hT3
    have hxf := hx.rs.fix
    have hlen := hT3.2.1
    have hfl : (flatI S i).length ≤ l.length := hflat i
    rcases Nat.lt_or_ge i S.length with hlt | hge
    · obtain ⟨r, hr, hr'⟩ := get_lt hlt
      have ew := wrap_succ' (i := i) (by omega)
      obtain ⟨o1, o2, o3, o4⟩ := hSo r (List.mem_of_getElem? hr)
      have hrl := List.length_pos_iff.2 o3
      have hrl' : ¬ (r.length : Int) = 0 := by omega
      have hrl2 : ¬ r.length = 0 := by omega
      have hrb : ((r.length : Int) == 0) = false := beq_eq_false_iff_ne.2 hrl'
      have hst : flatI S (i + 1) = flatI S i ++ r := by unfold flatI; rw [List.take_add_one, hr]; simp
      have fin : ∀ (fr' : AFrame), True := fun _ => trivial
      simp [-appendOk, -appendK, -acells, -AV.solid, e1, e3, e4, e9, e10, e26, e27, e28, hlt, hr, hr', hT3, hxf, hrl', hrl2, hrb, o3]
      refine callS.pure _ (fun _ => c3 _ l (by omega)) ?_
      cases hF : chnB t.net l with
      | false =>
        simp [-appendOk, -appendK, -acells, -AV.solid, e1, e3, e4, e9, e10, e26, e27, e28, hlt, hr, hr', hT3, hxf, hrl', hrl2, hrb, o3]
        refine callS.pure (.int .i64 0) (fun c => by cases c) ?_
        simp [-appendOk, -appendK, -acells, -AV.solid, e1, e3, e4, e9, e10, e26, e27, e28, hlt, hr, hr', hT3, hxf, hrl', hrl2, hrb, o3]
        refine append_new (lo := h.length + 1) (n := 8) (es := (flatI S i).map encPass) (ys := r.map encPass) hx (by omega) (by simp [appOk]) (by simp; omega) ?_
        intro s1 H1 hs1 hg1 hn1
        have hs1f := hs1.rs.fix
        have hB1 := hg1.base h (by omega) hB
        have hT1 := hg1.keep _ _ hT fun off len e => by have := hx.above _ _ _ e; omega
        simp [-appendOk, -appendK, -acells, -AV.solid, e1, e3, e4, e10, e26, e27, e28, hs1f, ew]
        exact ⟨i + 1, by omega, by omega, by omega, hT1, hB1, by rw [hst, List.map_append]; exact hs1⟩
      | true =>
        simp [-appendOk, -appendK, -acells, -AV.solid, e1, e3, e4, e9, e10, e26, e27, e28, hlt, hr, hr', hT3, hxf, hrl', hrl2, hrb, o3]
        refine callS.pure _ (fun _ => c3 _ r (by omega)) ?_
        rw [o4 hF]
        simp [-appendOk, -appendK, -acells, -AV.solid, e1, e3, e4, e9, e10, e26, e27, e28, hlt, hr, hr', hT3, hxf, hrl', hrl2, hrb, o3]
        refine append_new (lo := h.length + 1) (n := 8) (es := (flatI S i).map encPass) (ys := r.map encPass) hx (by omega) (by simp [appOk]) (by simp; omega) ?_
        intro s1 H1 hs1 hg1 hn1
        have hs1f := hs1.rs.fix
        have hB1 := hg1.base h (by omega) hB
        have hT1 := hg1.keep _ _ hT fun off len e => by have := hx.above _ _ _ e; omega
        simp [-appendOk, -appendK, -acells, -AV.solid, e1, e3, e4, e10, e26, e27, e28, hs1f, ew]
        exact ⟨i + 1, by omega, by omega, by omega, hT1, hB1, by rw [hst, List.map_append]; exact hs1⟩
    · obtain rfl : i = S.length := by omega
      have hfe : flatI S S.length = l := by unfold flatI; rw [List.take_length, hjoin]
      rw [hfe] at hx
      have hmono' : (S2.length : Int) ≤ S.length := by omega
      simp [-appendOk, -appendK, -acells, -AV.solid, e1, e3, e4, e9, e10, e26, e27, e28, hT3, hxf]
      refine callS.pure _ (fun _ => ref17_Same l hok (by omega) _ _ hx.rs (Rs.ro (pass_n l))) ?_
      simp [-appendOk, -appendK, -acells, -AV.solid, e1, e3, e4, e9, e10, e26, e27, e28, hT3, hxf]
      refine callS.pure _ (fun _ => c2 _) ?_
      simp [-appendOk, -appendK, -acells, -AV.solid, e1, e3, e4, e9, e10, e26, e27, e28, hT3, hxf, hmono, hmono']
      refine callS.pure _ (fun _ => law_awake) ?_
      simp
      exact hB
end Go.Proofs.Ytjdchnbjegddhaa
