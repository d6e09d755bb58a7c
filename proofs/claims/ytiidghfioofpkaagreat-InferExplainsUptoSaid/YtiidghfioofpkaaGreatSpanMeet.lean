/-
  Contracts: intervals sorted by their begin; unions, intersections.
  Contracts: unions and intersections of intervals.
  Contracts: outages that explain a missing passage.
-/
import Derived.Test.YtiidghfioofpkaaGreatSortFLayIv
import Derived.Test.YtiidghfioofpkaaGreatSpan
import Derived.Test.YtiidghfioofpkaaGreatAbsSortF
import Derived.Test.YtiidghfioofpkaaGreatTollSpan
import Derived.Test.YtiidghfioofpkaaGreatInferA
import Derived.Test.YtiidghfioofpkaaGreatDevA
set_option linter.unusedVariables false
set_option linter.unusedSimpArgs false
set_option maxRecDepth 100000

namespace Go.Proofs
open Go.Shelf Go.RowKit Go.Lib Go.Sort Go.Toll Go.Abs

def YtiidghfioofpkaaGreat.encIvV (r : Iv) : List Value := [.int .i64 r.lo, .int .i64 r.hi]
theorem YtiidghfioofpkaaGreat.encV_iv : EncV 2 encIv YtiidghfioofpkaaGreat.encIvV := by
  refine ⟨by omega, fun _ => rfl, fun _ => rfl, fun x v hv => ?_, fun x c y hy => ?_⟩
  · simp [YtiidghfioofpkaaGreat.encIvV] at hv
    rcases hv with rfl | rfl <;> rfl
  · have key : ∀ n : Int, (∀ J O w, VRel J O w (.int .i64 n) (.int .i64 n)) ∧ ∀ J O w v, VRel J O w (.int .i64 n) v → v = .int .i64 n := fun n => ⟨fun J O w => .int _ _, fun J O w v h => by cases h; rfl⟩
    match c, hy with
    | 0, hy => simp [encIv] at hy; subst hy; exact ⟨_, rfl, key _⟩
    | 1, hy => simp [encIv] at hy; subst hy; exact ⟨_, rfl, key _⟩
    | (c + 2), hy => simp [encIv] at hy
def cfIv (x y : Iv) : Int := if x.lo < y.lo then -1 else if y.lo < x.lo then 1 else 0
theorem cfIv_lt (x y : Iv) : cfIv x y < 0 ↔ x.lo < y.lo := by
  unfold cfIv
  split
  · rename_i h; exact ⟨fun _ => h, fun _ => by decide⟩
  · rename_i h
    split
    · exact ⟨fun c => absurd c (by decide), fun c => absurd c h⟩
    · exact ⟨fun c => absurd c (by decide), fun c => absurd c h⟩
theorem YtiidghfioofpkaaGreat.nanW (x : Int) (W : World) : Calls Tryz.prog 136 #[.int .i64 x] W fun e w' => e = .returned (.bool false) ∧ w' = W := by
  go_enter Tryz.func136, Tryz.ntmps136
  go_wp2
  go_ret
  exact ⟨by simp, rfl⟩
set_option maxHeartbeats 1000000 in
theorem YtiidghfioofpkaaGreat.cmpW (x y : Int) (W : World) : Calls Tryz.prog 112 #[.int .i64 x, .int .i64 y] W fun e w' => e = .returned (.int .i64 (if x < y then -1 else if y < x then 1 else 0)) ∧ w' = W := by
  go_enter Tryz.func112, Tryz.ntmps112
  go_wp2_with (go_at_call 136; refine (YtiidghfioofpkaaGreat.nanW _ _).mono ?_; rintro e w' ⟨rfl, hw⟩; rw [hw])
  all_goals (go_ret; refine ⟨?_, rfl⟩; (repeat' split) <;> first | rfl | (exfalso; omega))
set_option maxHeartbeats 1000000 in
theorem YtiidghfioofpkaaGreat.cmp_iv (x y : Iv) (W : World) : Calls Tryz.prog 111 #[.agg (YtiidghfioofpkaaGreat.encIvV x).toArray, .agg (YtiidghfioofpkaaGreat.encIvV y).toArray] W fun e w' => e = .returned (.int .i64 (cfIv x y)) ∧ ∃ q os', w' = grow (W.drewN q) os' := by
  have hcon := fun W' => YtiidghfioofpkaaGreat.cmpW x.lo y.lo W'
  have hr : (if x.lo < y.lo then (-1 : Int) else if y.lo < x.lo then 1 else 0) = cfIv x y := rfl
  rw [hr] at hcon
  generalize cfIv x y = r at hcon ⊢
  unfold YtiidghfioofpkaaGreat.encIvV
  go_enter Tryz.func111, Tryz.ntmps111
  go_wp2_with (go_at_call 112; refine (hcon _).mono ?_; rintro e w' ⟨rfl, rfl⟩)
  go_ret
  exact ⟨rfl, 0, _, by rw [alloc_eq_grow, alloc_eq_grow, grow_grow]; rfl⟩
end Go.Proofs
namespace Go.Proofs.YtiidghfioofpkaaGreat
open Go Go.Abs Go.Toll
variable {gl : Globs} {h : AHeap}
theorem cmp_isNaN (x : Int) : ACalls Tryz.prog gl 136 [.int .i64 x] h fun v h' => v = .bool false ∧ h' = h := by
  refine ACalls.data (by simp) (ACalls.body Tryz.f136 _ mixed Tryz.func136 rfl rfl (by simp [Tryz.ntmps136]) ?_)
  simp
theorem cmp_CompareInt (x y : Int) : ACalls Tryz.prog gl 112 [.int .i64 x, .int .i64 y] h fun v h' => v = .int .i64 (if x < y then -1 else if y < x then 1 else 0) ∧ h' = h := by
  refine ACalls.data (by simp) (ACalls.body Tryz.f112 _ mixed Tryz.func112 rfl rfl (by simp [Tryz.ntmps112]) ?_)
  simp
  refine callS.pure _ (fun _ => cmp_isNaN x) ?_
  simp
  refine callS.pure _ (fun _ => cmp_isNaN y) ?_
  simp
  refine ⟨fun a b => by omega, fun a => ⟨fun b => ?_, fun b => ?_⟩⟩
  · rw [if_neg (by omega), if_pos b]
  · rw [if_neg (by omega), if_neg (by omega)]
theorem slices_SortIv (rows : List Iv) (hl : rows.length ≤ 1000000) {lo : Nat} {x : AV} (hx : Ls 2 lo h x (rows.map encIv)) :
    ACalls Tryz.prog gl 110 [x, .fn (.func 111) [] []] h fun v h' => v = .tup [] ∧ (∃ srt : List Iv, srt.Perm rows ∧ (srt.Pairwise fun a b => a.lo ≤ b.lo) ∧ Ls 2 lo h' x (srt.map encIv)) ∧ h'.length = h.length ∧ ∀ (b : Nat) (o : AObj), h[b]? = some o → (∀ off len, x ≠ .own b off len) → h'[b]? = some o :=
  sortf_any sortfIv_lays 2 sortfIv_agg sortfIv_size encIv encIvV encV_iv (·.lo) cfIv cfIv_lt 111 (enters_of Tryz.func111 (by kernel_rfl) rfl) rows (fun x hx y hy W => cmp_iv x y W) (by omega) hx
end Go.Proofs.YtiidghfioofpkaaGreat

namespace Go.Proofs.YtiidghfioofpkaaGreat
open Go Go.Abs Go.Toll
variable {gl : Globs} {h : AHeap}
theorem hasL_valid (t : Int) (l : List Iv) : hasL t (l.filter validIB) = hasL t l := by
  rw [Bool.eq_iff_iff, hasL_iff, hasL_iff]
  constructor
  · rintro ⟨i, hi, hb⟩; exact ⟨i, (List.mem_filter.1 hi).1, hb⟩
  · rintro ⟨i, hi, hb⟩; exact ⟨i, List.mem_filter.2 ⟨hi, ((hasB_iff i t).1 hb).1⟩, hb⟩
theorem take_filter {l : List Iv} {i : Nat} {v : Iv} (h : l[i]? = some v) : (l.take (i + 1)).filter validIB = if validIB v = true then (l.take i).filter validIB ++ [v] else (l.take i).filter validIB := by
  rw [List.take_add_one, h]
  by_cases c : validIB v = true <;> simp [c]
theorem joinJ_len : ∀ (l out : List Iv), (l.foldl stepJ out).length ≤ out.length + l.length
  | [], out => by simp
  | i :: l, out => by
    have := joinJ_len l (stepJ out i)
    have h2 : (stepJ out i).length ≤ out.length + 1 := by
      unfold stepJ
      split
      · split <;> simp <;> omega
      · simp
    rw [List.foldl_cons, List.length_cons]; omega
set_option maxHeartbeats 4000000 in
theorem span_join (es : List Iv) (y : AV) (hy : Rs 2 h y (es.map encIv)) (hn : es.length ≤ 100000) (b : Nat) (hb : h[b]? = some (.cells 1 [[y]])) : ACalls Tryz.prog gl 97 [.own b 0 1] h fun v h' => (∃ out : List Iv, Nf out ∧ (∀ t, hasL t out = hasL t es) ∧ out.length ≤ es.length ∧ Ls 2 h.length h' v (out.map encIv)) ∧ ∃ g, h' = h ++ g := by
  refine ACalls.body Tryz.f97 _ mixed Tryz.func97 rfl rfl (by simp [Tryz.ntmps97]) ?_
  have hlb := lt_of_get hb
  simp [hb, hlb]
  refine AWP.up mixed 1 (fun i fr H => fr 12 = .own b 0 1 ∧ fr 13 = .int .i64 1 ∧ fr 14 = .int .i64 i ∧ (∃ g, H = h ++ g) ∧ ∃ x, fr 3 = x ∧ Ls 2 h.length H x ((if i = 0 then [] else es.filter validIB).map encIv)) 0 (by omega)
    ⟨by simp, by simp, by simp, ⟨[], by simp⟩, .nil, by simp, by simpa using Ls.nil⟩ ?_
  rintro i fr H hi ⟨e12, e13, e14, hB, x, e3, hx⟩
  have hxf := hx.rs.fix
  rcases Nat.lt_or_ge i 1 with hlt | hge
  · obtain rfl : i = 0 := by omega
    simp only [if_true] at hx
    obtain ⟨g, rfl⟩ := hB
    have hy1 := hy.append g
    have fy := hy1.fix
    have ly := hy1.len2
    have hb1 := at3 (at_more hb g)
    simp [-appendOk, -appendK, e3, e12, e13, e14, hb1, fy, ly, hlb]
    refine AWP.up mixed es.length (fun j fr H => fr 12 = .own b 0 1 ∧ fr 13 = .int .i64 1 ∧ fr 14 = .int .i64 0 ∧ fr 18 = y ∧ fr 19 = .int .i64 es.length ∧ fr 20 = .int .i64 j ∧ (∃ g, H = h ++ g) ∧ ∃ x, fr 3 = x ∧ Ls 2 h.length H x (((es.take j).filter validIB).map encIv)) 0 (by omega)
      ⟨by simp [e12], by simp [e13], by simp [e14], by simp, by simp, by simp, ⟨g, rfl⟩, x, by simp [e3], by simpa using hx⟩ ?_
    clear e3 e12 e13 e14 hx hxf
    rintro j fr H hj ⟨e12, e13, e14, e18, e19, e20, hB, x, e3, hx⟩
    have hxf := hx.rs.fix
    have hlH := base_len hB
    rcases Nat.lt_or_ge j es.length with hltj | hgej
    · obtain ⟨v, hv, hv'⟩ := get_lt hltj
      have ew := wrap_succ' (i := j) (by omega)
      have hfl := List.length_filter_le validIB (es.take j)
      have htl := List.length_take_le j es
      have hsuc := take_filter hv
      have hyH : Rs 2 H y (es.map encIv) := by obtain ⟨g', rfl⟩ := hB; exact hy.append g'
      have ry := Rs.ix Tryz.prog hyH j (by omega) (y := encIv v) (by simp [hv])
      have fyH := hyH.fix
      have lyH := hyH.len2
      simp [-appendOk, -appendK, e3, e12, e13, e14, e18, e19, e20, hltj, fyH, lyH, ry, hxf]
      try simp [encIv]
      refine callS.pure _ (fun _ => span_Valid v) ?_
      cases hvb : validIB v with
      | true =>
        rw [if_pos hvb] at hsuc
        simp [-appendOk, -appendK, e3, e12, e13, e14, e18, e19, e20, hxf]
        refine append_new (lo := h.length) (n := 2) (es := ((es.take j).filter validIB).map encIv) (ys := [encIv v]) (by simpa [encIv] using hx.more _) (by simp <;> omega) (by simp [appOk, encIv]) (by simp <;> omega) ?_
        intro s1 H1 hs1 hg1 hn1
        have hs1f := hs1.rs.fix
        have hB1 := hg1.base h (by omega) (base_more hB _)
        simp [-appendOk, -appendK, -List.map_append, e12, e13, e14, e18, e19, e20, hs1f, ew]
        exact ⟨j + 1, by omega, by omega, by omega, hB1, by rw [hsuc]; simpa using hs1⟩
      | false =>
        rw [if_neg (by simp [hvb])] at hsuc
        simp [-appendOk, -appendK, e3, e12, e13, e14, e18, e19, e20, hxf, ew]
        exact ⟨j + 1, by omega, by omega, by omega, base_more hB _, by rw [hsuc]; exact hx.more _⟩
    · obtain rfl : j = es.length := by omega
      rw [List.take_length] at hx
      simp [-appendOk, -appendK, e3, e12, e13, e14, e18, e19, e20, hxf]
      exact ⟨1, by omega, by omega, by decide, hB, by simpa using hx⟩
  · obtain rfl : i = 1 := by omega
    simp [-appendOk, -appendK, e3, e12, e13, e14, hxf]
    simp only [if_neg (by omega : ¬ (1 : Nat) = 0)] at hx
    have hfl := List.length_filter_le validIB es
    refine callS.any (slices_SortIv (es.filter validIB) (by omega) hx) ?_
    rintro r Hs ⟨rfl, ⟨srt, hsp, hpw, hs⟩, hlen, hkeep⟩
    have hsl : srt.length ≤ es.length := by rw [hsp.length_eq]; exact hfl
    have hBs := base_of_keep hB (fun b' o hb' ho => hkeep b' o ho fun off len e => by have := hx.above _ _ _ e; omega) (by have := base_len hB; omega)
    have hsf := hs.rs.fix
    have hsv : ∀ i ∈ srt, validIB i = true := fun i hi => (List.mem_filter.1 (hsp.mem_iff.1 hi)).2
    simp [-appendOk, -appendK, e3, e12, e13, e14, hxf, hs.rs.len2]
    refine AWP.up mixed srt.length (fun j fr H => fr 34 = x ∧ fr 35 = .int .i64 srt.length ∧ fr 36 = .int .i64 j ∧ (∃ g, H = Hs ++ g) ∧ ∃ z, fr 8 = z ∧ Ls 2 Hs.length H z (((srt.take j).foldl stepJ []).map encIv)) 0 (by omega)
      ⟨by simp, by simp, by simp, ⟨[], by simp⟩, .nil, by simp, by simpa using Ls.nil⟩ ?_
    clear e3 e12 e13 e14
    rintro j fr H hj ⟨e34, e35, e36, hB2, z, e8, hz⟩
    have hzf := hz.rs.fix
    have hzl := hz.rs.len2
    have hlH := base_len hB2
    have hjl := joinJ_len (srt.take j) []
    have htl := List.length_take_le j srt
    rcases Nat.lt_or_ge j srt.length with hlt | hge2
    · obtain ⟨v, hv, hv'⟩ := get_lt hlt
      have ew := wrap_succ' (i := j) (by omega)
      have hxH : Rs 2 H x (srt.map encIv) := by obtain ⟨g', rfl⟩ := hB2; exact hs.rs.append g'
      have rx := Rs.ix Tryz.prog hxH j (by omega) (y := encIv v) (by simp [hv])
      have fxH := hxH.fix
      have lxH := hxH.len2
      have hsuc : (srt.take (j + 1)).foldl stepJ [] = stepJ ((srt.take j).foldl stepJ []) v := by rw [List.take_add_one, hv]; simp
      generalize (srt.take j).foldl stepJ [] = outs at *
      have hz' := hz.more [AObj.cells 2 [[.int .i64 v.lo, .int .i64 v.hi]]]
      have hzl' := hz'.rs.len2
      have hBm := base_more hB2 [AObj.cells 2 [[.int .i64 v.lo, .int .i64 v.hi]]]
      rcases List.eq_nil_or_concat outs with rfl | ⟨m, o, rfl⟩
      · have hst : stepJ [] v = [v] := rfl
        rw [hst] at hsuc
        simp at hzl'
        simp [-appendOk, -appendK, e8, e34, e35, e36, hlt, fxH, lxH, rx, hzf]
        simp [-appendOk, -appendK, encIv, hzl', e8, e34, e35, e36, hzf]
        refine ⟨by decide, ?_⟩
        refine append_new (lo := Hs.length) (n := 2) (es := (([] : List Iv).map encIv)) (ys := [encIv v]) (by simpa [encIv] using hz.more _) (by simp <;> omega) (by simp [appOk, encIv]) (by simp at hjl <;> simp <;> omega) ?_
        intro s1 H1 hs1 hg1 hn1
        have hs1f := hs1.rs.fix
        have hB1 := hg1.base Hs (by omega) (base_more hB2 _)
        simp [-appendOk, -appendK, -List.map_append, e34, e35, e36, hs1f, ew]
        exact ⟨j + 1, by omega, by omega, by omega, hB1, by rw [hsuc]; simpa using hs1⟩
      · simp only [List.concat_eq_append] at *
        have hst : stepJ (m ++ [o]) v = if v.lo ≤ o.hi then m ++ [⟨o.lo, max o.hi v.hi⟩] else m ++ [o] ++ [v] := by simp [stepJ]
        rw [hst] at hsuc
        rcases hz.1 with ⟨_, he⟩ | ⟨bz, rfl, hlo, hbz⟩
        · simp at he
        have hbz3 := at3 hbz
        have w1 : IntKind.i64.wrap (((m.length : Int) + 1) - 1) = (m.length : Int) := by rw [wrap64_of (by omega) (by simp at hjl; omega)]; omega
        have w2 : IntKind.i64.wrap (m.length : Int) = (m.length : Int) := wrap64_of (by omega) (by simp at hjl; omega)
        have hmp : (0 : Int) < (m.length : Int) + 1 := by omega
        simp [-appendOk, -appendK, e8, e34, e35, e36, hlt, fxH, lxH, rx, hbz3]
        simp [-appendOk, -appendK, encIv, e8, e34, e35, e36, hbz3, w1, w2, hmp]
        refine ⟨by decide, by omega, fun c => ?_, fun c => ?_⟩
        · rw [if_pos c] at hsuc
          refine ⟨by decide, by omega, j + 1, by omega, by omega, by omega, base_more (base_set hB2 hlo _) _, ?_⟩
          rw [hsuc]
          refine Ls.more ?_ _
          exact Ls.own (by rw [List.getElem?_set_self hbz3.2.1]; simp [encIv]) hlo (by simp) (iv_n _)
        · rw [if_neg (by omega)] at hsuc
          refine append_new (lo := Hs.length) (n := 2) (es := ((m ++ [o]).map encIv)) (ys := [encIv v]) (by simpa [encIv] using hz.more _) (by simp <;> omega) (by simp [appOk, encIv]) (by simp at hjl <;> simp <;> omega) ?_
          intro s1 H1 hs1 hg1 hn1
          have hs1f := hs1.rs.fix
          have hB1 := hg1.base Hs (by omega) (base_more hB2 _)
          simp [-appendOk, -appendK, -List.map_append, e34, e35, e36, hs1f, ew]
          exact ⟨j + 1, by omega, by omega, by omega, hB1, by rw [hsuc]; simpa using hs1⟩
    · obtain rfl : j = srt.length := by omega
      simp [e8, e34, e35, e36, hzf]
      rw [List.take_length] at hz
      obtain ⟨q1, q2⟩ := joinJ_ok (out := []) hsv hpw ⟨by simp, by simp⟩ (by simp)
      refine ⟨⟨_, q1, fun t => ?_, ?_, ls_mono hz (base_len hBs)⟩, ?_⟩
      · rw [q2, hasL_perm hsp t, hasL_valid]; simp [hasL]
      · have := joinJ_len srt []; simp at this; omega
      · obtain ⟨g1, rfl⟩ := hBs; obtain ⟨g2, rfl⟩ := hB2; exact ⟨_, List.append_assoc _ _ _⟩

/-! ### Intersections -/
theorem meetM_len : ∀ (x y : List Iv), (meetM x y).length ≤ x.length + y.length
  | [], y => by simp [meetM]
  | a :: x, [] => by simp [meetM]
  | a :: x, b :: y => by
    have hc : (cutM a b).length ≤ 1 := by unfold cutM; split <;> simp
    rw [meetM]
    split
    · have := meetM_len x (b :: y); simp at this ⊢; omega
    · have := meetM_len (a :: x) y; simp at this ⊢; omega
termination_by x y => x.length + y.length
theorem meetM_nil' (y : List Iv) : meetM [] y = [] := by simp [meetM]
theorem meetM_nil (x : List Iv) : meetM x [] = [] := by cases x <;> simp [meetM]
def lxM : Nat → Option (List (Nat × Nat)) := fun id => if id = 5 then some [(2, 24), (4, 24), (7, 24), (9, 24), (10, 24), (13, 24), (15, 24), (18, 24), (20, 24), (21, 24)] else none
set_option maxHeartbeats 8000000 in
theorem span_Meet (es fs : List Iv) (x y : AV) (hx : Rs 2 h x (es.map encIv)) (hy : Rs 2 h y (fs.map encIv)) (hn : es.length ≤ 100000) (hm : fs.length ≤ 100000) : ACalls Tryz.prog gl 71 [x, y] h fun v h' => (∃ out : List Iv, (∀ t, hasL t out = (hasL t es && hasL t fs)) ∧ out.length ≤ es.length + fs.length ∧ Ls 2 h.length h' v (out.map encIv)) ∧ ∃ g, h' = h ++ g := by
  refine ACalls.bodyL lxM Tryz.f71 _ mixed Tryz.func71 rfl rfl (by simp [Tryz.ntmps71]) ?_
  have fx := hx.fix
  have fy := hy.fix
  simp [lxM, -acells, -AV.solid, fx, fy]
  refine callS.any (span_join (h := h ++ [.cells 1 [[x]]]) es x (hx.append _) hn h.length (by simp)) ?_
  rintro u H1 ⟨⟨X, X1, X2, X3, hu⟩, g1, hH1⟩
  have hu' : Ls 2 h.length H1 u (X.map encIv) := ls_mono hu (by simp)
  have hB1 : ∃ g, H1 = h ++ g := ⟨_, by rw [hH1, List.append_assoc]⟩
  have hy1 : Rs 2 H1 y (fs.map encIv) := by rw [hH1, List.append_assoc]; exact hy.append _
  have fu := hu.rs.fix
  simp [lxM, -acells, -AV.solid, fx, fy, fu]
  refine callS.any (span_join (h := H1 ++ [.cells 1 [[y]]]) fs y (hy1.append _) hm H1.length (by simp)) ?_
  rintro w H2 ⟨⟨Y, Y1, Y2, Y3, hw⟩, g2, hH2⟩
  have hB2 : ∃ g, H2 = h ++ g := by obtain ⟨g, e⟩ := hB1; exact ⟨_, by rw [hH2, e, List.append_assoc, List.append_assoc]⟩
  have hu2 : Ls 2 h.length H2 u (X.map encIv) := by rw [hH2, List.append_assoc]; exact hu'.more _
  have fw := hw.rs.fix
  have hml := meetM_len X Y
  simp [lxM, -acells, -AV.solid, fx, fy, fu, fw]
  refine AWP.upL lxM mixed (X.length + Y.length) (fun c fr H => ∃ i k, c = i + k ∧ i ≤ X.length ∧ k ≤ Y.length ∧ fr 5 = u ∧ fr 6 = w ∧ fr 8 = .int .i64 i ∧ fr 9 = .int .i64 k ∧ (∃ g, H = H2 ++ g) ∧ ∃ z out, fr 7 = z ∧ out ++ meetM (X.drop i) (Y.drop k) = meetM X Y ∧ Ls 2 H2.length H z (out.map encIv)) 0 (by omega)
    ⟨0, 0, by omega, by omega, by omega, by simp, by simp, by simp, by simp, ⟨[], by simp⟩, .nil, [], by simp, by simp, by simpa using Ls.nil⟩ ?_
  rintro c fr H hc ⟨i, k, rfl, hi, hk, e5, e6, e8, e9, hB, z, out, e7, ho, hz⟩
  have hzf := hz.rs.fix
  have huH : Rs 2 H u (X.map encIv) := by obtain ⟨g, rfl⟩ := hB; exact hu2.rs.append g
  have hwH : Rs 2 H w (Y.map encIv) := by obtain ⟨g, rfl⟩ := hB; exact hw.rs.append g
  have lu := huH.len2
  have lw := hwH.len2
  have hol : out.length ≤ (meetM X Y).length := by rw [← ho]; simp
  rcases Nat.lt_or_ge i X.length with hlt | hge
  · rcases Nat.lt_or_ge k Y.length with hlt2 | hge2
    · obtain ⟨a, ha, ha'⟩ := get_lt hlt
      obtain ⟨b, hb, hb'⟩ := get_lt hlt2
      have ewi := wrap_succ' (i := i) (by omega)
      have ewk := wrap_succ' (i := k) (by omega)
      have ra := Rs.ix Tryz.prog huH i (by omega) (y := encIv a) (by simp [ha])
      have rb := Rs.ix Tryz.prog hwH k (by omega) (y := encIv b) (by simp [hb])
      rw [drop_get ha, drop_get hb, meetM] at ho
      have hiq : (i : Int) < X.length := by omega
      have hkq : (k : Int) < Y.length := by omega
      have ext : ∀ g : AHeap, Rs 2 (H ++ g) u (X.map encIv) ∧ Rs 2 (H ++ g) w (Y.map encIv) := fun g => ⟨huH.append g, hwH.append g⟩
      have ra0 := fun g : AHeap => Rs.ix Tryz.prog (ext g).1 i (by omega) (y := encIv a) (by simp [ha])
      have rb0 := fun g : AHeap => Rs.ix Tryz.prog (ext g).2 k (by omega) (y := encIv b) (by simp [hb])
      have z0 := ra0 [AObj.cells 2 [[.int .i64 0, .int .i64 0]]]
      have z1 := rb0 [AObj.cells 2 [[.int .i64 0, .int .i64 0]]]
      simp only [encIv] at ra rb z0 z1
      obtain ⟨mv, hmv⟩ : ∃ mv : Iv, mv = ⟨max a.lo b.lo, min a.hi b.hi⟩ := ⟨_, rfl⟩
      have hA : a.hi < b.hi → out ++ cutM a b ++ meetM (X.drop (i + 1)) (Y.drop k) = meetM X Y := fun h => by rw [if_pos h] at ho; rw [drop_get hb, List.append_assoc]; exact ho
      have hK : ¬ a.hi < b.hi → out ++ cutM a b ++ meetM (X.drop i) (Y.drop (k + 1)) = meetM X Y := fun h => by rw [if_neg h] at ho; rw [drop_get ha, List.append_assoc]; exact ho
      by_cases c1 : max a.lo b.lo < min a.hi b.hi
      · have c1' : ¬ min a.hi b.hi ≤ max a.lo b.lo := by omega
        have hcut : cutM a b = [mv] := by rw [cutM, if_pos c1, hmv]
        rw [hcut] at hA hK
        simp [lxM, -appendOk, -appendK, c1, c1', e5, e6, e7, e8, e9, hiq, hkq, hlt, hlt2, fu, fw, lu, lw, ra, rb, z0, z1, hzf]
        refine ⟨by decide, ?_⟩
        refine append_new (lo := H2.length) (n := 2) (es := out.map encIv) (ys := [encIv mv]) (by simpa [encIv] using hz.more _) (by have := base_len hB; simp <;> omega) (by simp [appOk, encIv, hmv]) (by simp <;> omega) ?_
        intro s1 H3 hs1 hg1 hn1
        have hs1f := hs1.rs.fix
        have hB3 := hg1.base H2 (by omega) (base_more hB _)
        have hu3 : Rs 2 H3 u (X.map encIv) := by obtain ⟨g, rfl⟩ := hB3; exact hu2.rs.append g
        have hw3 : Rs 2 H3 w (Y.map encIv) := by obtain ⟨g, rfl⟩ := hB3; exact hw.rs.append g
        have rc := Rs.ix Tryz.prog hu3 i (by omega) (y := encIv a) (by simp [ha])
        have rd := Rs.ix Tryz.prog hw3 k (by omega) (y := encIv b) (by simp [hb])
        simp only [encIv] at rc rd
        simp [lxM, -appendOk, -appendK, e5, e6, e7, e8, e9, hiq, hkq, hlt, hlt2, fu, fw, lu, lw, rc, rd, hs1f]
        refine ⟨by decide, fun c => ?_, fun c => ?_⟩
        · exact ⟨i + 1 + k, by omega, by omega, i + 1, k, by omega, by omega, by omega, by omega, by omega, hB3, out ++ [mv], hA c, by simpa using hs1⟩
        · exact ⟨i + (k + 1), by omega, by omega, i, k + 1, by omega, by omega, by omega, by omega, by omega, hB3, out ++ [mv], hK (by omega), by simpa using hs1⟩
      · have c1' : min a.hi b.hi ≤ max a.lo b.lo := by omega
        have hcut : cutM a b = [] := by rw [cutM, if_neg c1]
        rw [hcut, List.append_nil] at hA hK
        have m0 := ra0 [AObj.cells 2 [[.int .i64 (max a.lo b.lo), .int .i64 (min a.hi b.hi)]]]
        have m1 := rb0 [AObj.cells 2 [[.int .i64 (max a.lo b.lo), .int .i64 (min a.hi b.hi)]]]
        simp only [encIv] at m0 m1
        simp [lxM, -appendOk, -appendK, c1, c1', e5, e6, e7, e8, e9, hiq, hkq, hlt, hlt2, fu, fw, lu, lw, ra, rb, z0, z1, m0, m1, hzf]
        refine ⟨by decide, by decide, fun c => ?_, fun c => ?_⟩
        · exact ⟨i + 1 + k, by omega, by omega, i + 1, k, by omega, by omega, by omega, by omega, by omega, base_more hB _, out, hA c, hz.more _⟩
        · exact ⟨i + (k + 1), by omega, by omega, i, k + 1, by omega, by omega, by omega, by omega, by omega, base_more hB _, out, hK (by omega), hz.more _⟩
    · obtain rfl : k = Y.length := by omega
      rw [List.drop_length, meetM_nil, List.append_nil] at ho
      simp [lxM, -appendOk, -appendK, e5, e6, e7, e8, e9, hlt, fu, fw, lu, lw, hzf]
      refine ⟨⟨out, fun t => by rw [ho, meetM_has t X Y X1 Y1, X2, Y2], by omega, ls_mono hz (base_len hB2)⟩, ?_⟩
      obtain ⟨g1, rfl⟩ := hB2; obtain ⟨g2, rfl⟩ := hB; exact ⟨_, List.append_assoc _ _ _⟩
  · obtain rfl : i = X.length := by omega
    rw [List.drop_length, meetM_nil', List.append_nil] at ho
    simp [lxM, -appendOk, -appendK, e5, e6, e7, e8, e9, fu, fw, lu, lw, hzf]
    refine ⟨⟨out, fun t => by rw [ho, meetM_has t X Y X1 Y1, X2, Y2], by omega, ls_mono hz (base_len hB2)⟩, ?_⟩
    obtain ⟨g1, rfl⟩ := hB2; obtain ⟨g2, rfl⟩ := hB; exact ⟨_, List.append_assoc _ _ _⟩
end Go.Proofs.YtiidghfioofpkaaGreat

namespace Go.Proofs.YtiidghfioofpkaaGreat
open Go Go.Abs Go.Toll
variable {gl : Globs} {h : AHeap}

theorem outB_nil (t : Int) : outB [] t = hasL t [⟨0, 68719476736⟩] := by
  rw [Bool.eq_iff_iff, outB_iff]
  simp [hasL, hasB, validIB]
theorem outB_take {A : List TDev} {i : Nat} {d : TDev} (hd : A[i]? = some d) (t : Int) : outB (A.take (i + 1)) t = (outB (A.take i) t && hasL t d.down) := by
  rw [List.take_add_one, hd, outB, outB, List.all_append, Option.toList_some, List.all_cons, List.all_nil, Bool.and_true]; simp only [Bool.and_assoc]
set_option maxHeartbeats 4000000 in
theorem device_Outage (l : List TDev) (s : Bytes) (k : Int) (hn : l.length ≤ 10) (hk : k ≠ 0) (hd : ∀ d ∈ l, DevOk d) (h10 : ∀ d ∈ l, d.down.length ≤ 10) : ACalls Tryz.prog gl 43 [.ro (l.map encDev), .str s, .int .i64 k] h fun v h' => (∃ out : List Iv, v = .ro (out.map encIv) ∧ out.length ≤ 1000 ∧ ∀ t, hasL t out = outB (l.filter (pickB s k)) t) ∧ h' = h := by
  refine ACalls.freshR (R := fun v => ∃ out : List Iv, v = .ro (out.map encIv) ∧ out.length ≤ 1000 ∧ ∀ t, hasL t out = outB (l.filter (pickB s k)) t) (ACalls.body Tryz.f43 _ mixed Tryz.func43 rfl rfl (by simp [Tryz.ntmps43]) ?_)
  simp
  refine callS.pure _ (fun _ => device_At l s k (by omega) hk hd) ?_
  have hp : ∀ d, d ∈ devsAt l s k ↔ d ∈ l.filter (pickB s k) := fun d => by rw [devsAt_mem, List.mem_filter]
  have hAl := devsAt_len l s k
  generalize devsAt l s k = A at *
  have hA10 : ∀ d ∈ A, d.down.length ≤ 10 := fun d hm => h10 d (List.mem_filter.1 ((hp d).1 hm)).1
  simp
  refine AWP.up mixed A.length (fun i fr H => fr 15 = .ro (A.map encDev) ∧ fr 16 = .int .i64 A.length ∧ fr 17 = .int .i64 i ∧ (∃ g, H = h ++ g) ∧ ∃ z out, fr 7 = z ∧ Ls 2 h.length H z (out.map encIv) ∧ out.length ≤ 1 + 10 * i ∧ ∀ t, hasL t out = outB (A.take i) t) 0 (by omega)
    ⟨by simp, by simp, by simp, ⟨_, rfl⟩, .own h.length 0 1, [⟨0, 68719476736⟩], by simp, Ls.own (by simp [encIv]) (Nat.le_refl _) (by simp) (by simp [encIv]), by simp, fun t => by rw [List.take_zero, outB_nil]⟩ ?_
  rintro i fr H hi ⟨e15, e16, e17, hB, z, out, e7, hz, hol, hO⟩
  have hzf := hz.rs.fix
  have hlH := base_len hB
  rcases Nat.lt_or_ge i A.length with hlt | hge
  · obtain ⟨d, hdd, hdd'⟩ := get_lt hlt
    have ew := wrap_succ' (i := i) (by omega)
    have hd10 := hA10 d (List.mem_of_getElem? hdd)
    simp [-acells, -AV.solid, encDev, e7, e15, e16, e17, hlt, hdd, hdd', hzf]
    refine callS.any (span_Meet out d.down z (.ro (d.down.map encIv)) (hz.more _).rs (Rs.ro (iv_n _)) (by omega) (by omega)) ?_
    rintro v h' ⟨⟨out2, hh2, hl2, hz2⟩, g2, rfl⟩
    have hz2f := hz2.rs.fix
    simp [-acells, -AV.solid, e15, e16, e17, hz2f, ew]
    refine ⟨i + 1, by omega, by omega, by omega, ?_, out2, by have := ls_mono hz2 (lo' := h.length) (by simp; omega); simpa using this, by omega, fun t => by rw [hh2, hO, outB_take hdd]⟩
    obtain ⟨g, rfl⟩ := hB
    exact ⟨_, List.append_assoc _ _ _⟩
  · obtain rfl : i = A.length := by omega
    rw [List.take_length] at hO
    simp [e7, e15, e16, e17, hzf]
    exact ⟨hB, .ro (out.map encIv), hz.frz (Nat.le_refl _) (iv_data _), out, rfl, by omega, fun t => by rw [hO, outB_mem hp]⟩
def explB (l : List TDev) (s : Bytes) (t : Int) : Bool := outB (l.filter (pickB s 1)) t && outB (l.filter (pickB s 2)) t
set_option maxHeartbeats 4000000 in
theorem infer_Explained (l : List TDev) (s : Bytes) (t : Int) (hn : l.length ≤ 10) (hd : ∀ d ∈ l, DevOk d) (h10 : ∀ d ∈ l, d.down.length ≤ 10) : ACalls Tryz.prog gl 25 [.ro (l.map encDev), .str s, .int .i64 t] h fun v h' => v = .bool (explB l s t) ∧ h' = h := by
  refine ACalls.body Tryz.f25 _ mixed Tryz.func25 rfl rfl (by simp [Tryz.ntmps25]) ?_
  simp
  refine callS.any (device_Outage l s 1 hn (by decide) hd h10) ?_
  rintro v h' ⟨⟨o1, rfl, hl1, ho1⟩, rfl⟩
  simp
  refine callS.pure _ (fun _ => span_Has (.ro (o1.map encIv)) o1 (.ro (iv_n _)) hl1 t) ?_
  cases c1 : hasL t o1 with
  | false =>
    simp
    refine callS.pure (.int .i64 0) (fun c => by cases c) ?_
    simp
    refine callS.pure (.int .i64 0) (fun c => by cases c) ?_
    simp [explB, ← ho1, c1]
  | true =>
    simp
    refine callS.any (device_Outage l s 2 hn (by decide) hd h10) ?_
    rintro v h' ⟨⟨o2, rfl, hl2, ho2⟩, rfl⟩
    simp
    refine callS.pure _ (fun _ => span_Has (.ro (o2.map encIv)) o2 (.ro (iv_n _)) hl2 t) ?_
    simp [explB, ← ho1, ← ho2, c1]
set_option maxHeartbeats 4000000 in
theorem ref20_Explained (l : List TDev) (s : Bytes) (t : Int) (hn : l.length ≤ 10) (hd : ∀ d ∈ l, DevOk d) (h10 : ∀ d ∈ l, d.down.length ≤ 10) : ACalls Tryz.prog gl 26 [.ro (l.map encDev), .str s, .int .i64 t] h fun v h' => v = .bool (explB l s t) ∧ h' = h := by
  refine ACalls.body Tryz.f26 _ mixed Tryz.func26 rfl rfl (by simp [Tryz.ntmps26]) ?_
  simp
  refine callS.any (ref09_Outage l s 1 hn (by decide) hd h10) ?_
  rintro v h' ⟨⟨o1, rfl, hl1, ho1⟩, rfl⟩
  simp
  refine callS.pure _ (fun _ => ref05_Has (.ro (o1.map encIv)) o1 (.ro (iv_n _)) hl1 t) ?_
  cases c1 : hasL t o1 with
  | false =>
    simp
    refine callS.pure (.int .i64 0) (fun c => by cases c) ?_
    simp
    refine callS.pure (.int .i64 0) (fun c => by cases c) ?_
    simp [explB, ← ho1, c1]
  | true =>
    simp
    refine callS.any (ref09_Outage l s 2 hn (by decide) hd h10) ?_
    rintro v h' ⟨⟨o2, rfl, hl2, ho2⟩, rfl⟩
    simp
    refine callS.pure _ (fun _ => ref05_Has (.ro (o2.map encIv)) o2 (.ro (iv_n _)) hl2 t) ?_
    simp [explB, ← ho1, ← ho2, c1]
end Go.Proofs.YtiidghfioofpkaaGreat
