/-
  Contracts: the law of whole stops.
-/
import Derived.Test.YtiidghfioofpkaaGreatLaw20C
import Derived.Test.YtiidghfioofpkaaGreatTollInfer
set_option linter.unusedVariables false
set_option linter.unusedSimpArgs false
set_option maxRecDepth 100000
namespace Go.Proofs.YtiidghfioofpkaaGreat
open Go Go.Abs Go.Toll
variable {gl : Globs} {h : AHeap}

theorem infN_filter (S : List TStop) : infN S + (S.filter nbS).length = S.length := by
  unfold infN nbS
  induction S with
  | nil => rfl
  | cons x S ih =>
    by_cases c : x.pass = []
    · simp [c]; simp at ih; omega
    · simp [c]; simp at ih; omega
set_option maxHeartbeats 8000000 in
theorem law_Whole (t : Topo) (l : List TPass) (hpl : l.length ≤ 9223372036854775807) : ACalls Tryz.prog gl 8 [.agg (encTopo t), .ro (l.map encPass)] h fun v h' => v = .bool true := by
  refine ACalls.mono (ACalls.data (.bool true) (ACalls.body Tryz.f8 _ mixed Tryz.func8 rfl rfl (by simp [Tryz.ntmps8]) ?_)) fun _ _ h => h.1
  simp
  refine callS.pure _ (fun _ => law_few t) ?_
  by_cases hf : fewT t = true
  case neg =>
    rw [Bool.not_eq_true] at hf
    rw [hf]; simp
    refine callS.pure (.int .i64 0) (fun c => by cases c) ?_
    simp
    refine callS.pure _ (fun _ => law_awake) ?_
    simp
  obtain ⟨l1, l2, l3⟩ := fewT_len hf
  rw [hf]; simp
  refine callS.pure _ (fun _ => law_some l _ (Rs.ro (pass_len _)) hpl) ?_
  by_cases hs : someB l = true
  case neg =>
    rw [Bool.not_eq_true] at hs
    rw [hs]; simp
    refine callS.pure _ (fun _ => law_awake) ?_
    simp
  have hp := someB_len hs
  have c1 := fun H : AHeap => infer_Stops (gl := gl) (h := H) t l (by omega) (by omega) (by omega) (by omega)
  unfold stopsV at c1
  rw [hs]; simp
  refine callS.pure _ (fun _ => c1 _) ?_
  by_cases hE : (stopsM (validT t).net l).2 = 0
  case neg =>
    rw [stops_no hE]
    simp [hE]
    refine callS.pure _ (fun _ => law_awake) ?_
    simp [hE]
  obtain ⟨o1, o2⟩ := stops_ok hE
  have ok := okT t
  have hlen := stopsI_len ok (l := l) l.length
  rw [o2]
  have hfil := fun hid => stops_filter (v := (validT t).net) (l := l) hid l.length (Nat.le_refl _)
  rw [List.take_length] at hfil
  have hends : ∀ p q, l[0]? = some p → l[l.length - 1]? = some q → (∃ r, stopsI (validT t).net l l.length = stopOf p :: r) ∧ ∃ r, stopsI (validT t).net l l.length = r ++ [stopOf q] := by
    intro p q h1 h2
    have h3 := lt_of_get h1
    have e : l.length - 1 + 1 = l.length := by omega
    have a1 := stops_head (v := (validT t).net) h1 (l.length - 1) (by omega)
    have a2 := stops_last (v := (validT t).net) h2
    rw [e] at a1 a2
    exact ⟨a1, a2⟩
  have htime : l ≠ [] → (stopsI (validT t).net l l.length).Pairwise (fun x y => x.time ≤ y.time) := by
    intro hne
    have h3 : 0 < l.length := List.length_pos_iff.2 hne
    obtain ⟨q, hq, _⟩ := get_lt (l := l) (i := l.length - 1) (by omega)
    have := (stops_time ok o1 (l.length - 1) q hq).1
    rwa [show l.length - 1 + 1 = l.length by omega] at this
  have hnil : l = [] → stopsI (validT t).net l l.length = [] := by rintro rfl; rfl
  generalize stopsI (validT t).net l l.length = S at *
  clear c1 o2 hE o1 ok
  simp
  refine AWP.up mixed l.length (fun i fr H => fr 1 = .ro (l.map encPass) ∧ fr 5 = .ro (S.map encStop) ∧ fr 7 = .int .i64 0 ∧ fr 8 = .int .i64 i ∧ (∀ p ∈ l.take i, p.id ≠ []) ∧ ∃ g, H = h ++ g) 0 (by omega) ⟨by simp, by simp, by simp, by simp, by simp, _, rfl⟩ ?_
  rintro i fr H hi ⟨e1, e5, e7, e8, hid, hB⟩
  rcases Nat.lt_or_ge i l.length with hlt | hge
  · obtain ⟨p, hpp, hpp'⟩ := get_lt hlt
    have ew := wrap_succ' (i := i) (by omega)
    by_cases c : p.id = []
    · simp [encPass, e1, e5, e7, e8, hlt, hpp, hpp', c]
      refine callS.pure _ (fun _ => law_awake) ?_
      simp
      exact hB
    · simp [encPass, e1, e5, e7, e8, hlt, hpp, hpp', c, ew]
      refine ⟨i + 1, by omega, by omega, by omega, fun q hq => ?_, hB⟩
      rw [List.take_add_one, hpp] at hq
      rcases List.mem_append.1 hq with hq | hq
      · exact hid q hq
      · simp at hq; subst hq; exact c
  obtain rfl : i = l.length := by omega
  rw [List.take_length] at hid
  have hS := hfil hid
  have hinf := infN_filter S
  rw [hS, List.length_map] at hinf
  simp [e1, e5, e7, e8]
  refine AWP.up mixed S.length (fun i fr H => fr 1 = .ro (l.map encPass) ∧ fr 5 = .ro (S.map encStop) ∧ fr 9 = .int .i64 i ∧ (∃ n : Nat, fr 7 = .int .i64 n ∧ n ≤ l.length ∧ (S.take i).filter nbS = (l.map stopOf).take n) ∧ ∃ g, H = h ++ g) 0 (by omega) ⟨by simp [e1], by simp [e5], by simp, ⟨0, by simp [e7], by omega, by simp⟩, hB⟩ ?_
  clear e1 e5 e7 e8 hB
  rintro i fr H hi ⟨e1, e5, e9, ⟨n, e7, hn, hF⟩, hB⟩
  rcases Nat.lt_or_ge i S.length with hlt | hge2
  · obtain ⟨x, hx, hx'⟩ := get_lt hlt
    have ew := wrap_succ' (i := i) (by omega)
    have hlne : l ≠ [] := by rintro rfl; rw [hnil rfl] at hlt; simp at hlt
    have hpw := List.pairwise_iff_getElem.1 (htime hlne)
    have cont : x.pass = [] → (S.take (i + 1)).filter nbS = (l.map stopOf).take n := fun hc => by
      rw [List.take_add_one, hx, List.filter_append, hF]
      simp [nbS, hc]
    have next : x.pass ≠ [] → ∃ p, l[n]? = some p ∧ x = stopOf p ∧ (S.take (i + 1)).filter nbS = (l.map stopOf).take (n + 1) := fun hc => by
      have := stops_next hid hS hx hc (by rw [hF, List.map_take]) hn
      rwa [List.map_take] at this
    cases i with
    | zero =>
      have hx0 : S[0]? = some x := hx
      have hx0' : S[0] = x := hx'
      by_cases c : x.pass = []
      · simp [encStop, e1, e5, e7, e9, hlt, hx0, hx0', c]
        exact ⟨by decide, 1, by omega, by omega, by decide, ⟨n, rfl, hn, cont c⟩, hB⟩
      · obtain ⟨p, hp1, hxp, hcc⟩ := next c
        have hp1' := (List.getElem?_eq_some_iff.1 hp1).2
        have hnl := lt_of_get hp1
        have hnq : ¬ (l.length : Int) ≤ n := by omega
        have ewn := wrap_succ' (i := n) (by omega)
        have hidp : ¬ p.id = [] := hid p (List.mem_of_getElem? hp1)
        subst hxp
        simp [encStop, encPass, stopOf, e1, e5, e7, e9, hlt, hx0, hx0', hidp, hp1, hp1', hnl, hnq, ewn]
        exact ⟨by decide, by decide, 1, by omega, by omega, by decide, ⟨n + 1, by omega, by omega, hcc⟩, hB⟩
    | succ j =>
      obtain ⟨y, hy, hy'⟩ := get_lt (l := S) (i := j) (by omega)
      have hle := hpw j (j + 1) (by omega) hlt (by omega)
      rw [hy', hx'] at hle
      have hnlt : ¬ x.time < y.time := by omega
      have w2 : IntKind.i64.wrap (((j + 1 : Nat) : Int) - 1) = (j : Int) := by rw [wrap64_of (by omega) (by omega)]; omega
      have hjl : j < S.length := by omega
      have hjp : (0 : Int) < ((j + 1 : Nat) : Int) := by omega
      by_cases c : x.pass = []
      · simp [-Int.natCast_add, encStop, e1, e5, e7, e9, hlt, hx, hx', hy, hy', hnlt, w2, hjl, hjp, c, ew]
        exact ⟨by decide, j + 1 + 1, by omega, by omega, rfl, ⟨n, rfl, hn, cont c⟩, hB⟩
      · obtain ⟨p, hp1, hxp, hcc⟩ := next c
        have hp1' := (List.getElem?_eq_some_iff.1 hp1).2
        have hnl := lt_of_get hp1
        have hnq : ¬ (l.length : Int) ≤ n := by omega
        have ewn := wrap_succ' (i := n) (by omega)
        have hidp : ¬ p.id = [] := hid p (List.mem_of_getElem? hp1)
        subst hxp
        simp [-Int.natCast_add, encStop, encPass, stopOf, e1, e5, e7, e9, hlt, hx, hx', hy, hy', w2, hjl, hjp, hidp, hp1, hp1', hnl, hnq, ew, ewn]
        exact ⟨by decide, hle, fun _ => ⟨by decide, j + 1 + 1, by omega, by omega, rfl, ⟨n + 1, rfl, by omega, hcc⟩, hB⟩⟩
  · obtain rfl : i = S.length := by omega
    rw [List.take_length, hS] at hF
    have hnl : n = l.length := by
      have := congrArg List.length hF
      simp at this
      omega
    subst hnl
    have wI : IntKind.i64.wrap ((S.length : Int) - (l.length : Int)) = ((infN S : Nat) : Int) := by rw [wrap64_of (by omega) (by omega)]; omega
    rcases List.eq_nil_or_concat l with hl0 | ⟨l', q, hlq⟩
    · have hS0 := hnil hl0
      have hSz : (S.length : Int) = 0 := by rw [hS0]; rfl
      simp [e1, e5, e7, e9]
      refine callS.pure _ (fun _ => infer_Inferred S (by omega)) ?_
      simp [e1, e5, e7, wI]
      simp [hS0]
      refine callS.pure _ (fun _ => law_awake) ?_
      simp
      exact hB
    · have hl1 : 0 < l.length := by rw [hlq]; simp
      obtain ⟨p0, hp0, _⟩ := get_lt hl1
      have hq1 : l[l.length - 1]? = some q := by rw [hlq]; simp
      obtain ⟨⟨r1, hr1⟩, ⟨r2, hr2⟩⟩ := hends p0 q hp0 hq1
      have hidp : ¬ p0.id = [] := hid p0 (List.mem_of_getElem? hp0)
      have hidq : ¬ q.id = [] := hid q (List.mem_of_getElem? hq1)
      have hS0 : S[0]? = some (stopOf p0) := by rw [hr1]; rfl
      have hS0' := (List.getElem?_eq_some_iff.1 hS0).2
      have hSl : 0 < S.length := by rw [hr1]; simp
      have hSz : ¬ (S.length : Int) = 0 := by omega
      have hSn : ¬ S = [] := by rintro rfl; simp at hSl
      have w2 : IntKind.i64.wrap ((S.length : Int) - 1) = ((S.length - 1 : Nat) : Int) := by rw [wrap64_of (by omega) (by omega)]; omega
      have hSe : S[S.length - 1]? = some (stopOf q) := by rw [hr2]; simp
      have hSe' := (List.getElem?_eq_some_iff.1 hSe).2
      have hSm : S.length - 1 < S.length := by omega
      simp [e1, e5, e7, e9]
      refine callS.pure _ (fun _ => infer_Inferred S (by omega)) ?_
      simp [encStop, stopOf, e1, e5, e7, wI, hSl, hSz, hSn, hS0, hS0', w2, hSe, hSe', hSm, hidp, hidq]
      refine callS.pure _ (fun _ => law_awake) ?_
      simp
      exact ⟨.inr ⟨hidp, hidq⟩, hB⟩
end Go.Proofs.YtiidghfioofpkaaGreat
