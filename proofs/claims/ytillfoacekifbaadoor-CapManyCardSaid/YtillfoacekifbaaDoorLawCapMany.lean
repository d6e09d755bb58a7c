/-
  Contracts: the law of many charges.
-/
import Derived.Test.YtillfoacekifbaaDoorLawCap
import Derived.Test.YtillfoacekifbaaDoorTollNever
set_option linter.unusedVariables false
set_option linter.unusedSimpArgs false
set_option maxRecDepth 100000
namespace Go.Proofs.YtillfoacekifbaaDoor
open Go Go.Abs Go.Toll
variable {gl : Globs} {h : AHeap}

def zC : List AV := [.str [], .str [], .str [], .int .i64 0, .int .i64 0, .nil, .int .i64 0]
def mC (k : Nat) : List AV := encChg (chgM (k : Nat))
theorem zC_len : zC.length = 7 := rfl
theorem zC_drop : zC.drop 7 = [] := rfl
theorem sum_one (L : Nat) : ∀ n, ((List.range n).map (oneI L)).foldl (· + ·) 0 = ((min n L : Nat) : Int)
  | 0 => by rw [Nat.zero_min]; rfl
  | n + 1 => by
    rw [List.range_succ, List.map_append, List.foldl_append, sum_one L n]
    show _ + oneI L n = _
    unfold oneI
    split <;> omega

set_option maxHeartbeats 4000000 in
theorem law_Many [GOk gl] (hgl : gl 0 = some monthCells) (m : Nat) (b : Bool) (hm : m < 256) : ACalls Tryd.prog gl 6 [.int .u8 m, .bool b] h fun v h' => v = .bool true := by
  refine ACalls.mono (ACalls.data (.bool true) (ACalls.body Tryd.f6 _ mixed Tryd.func6 rfl rfl (by simp [Tryd.ntmps6]) ?_)) fun _ _ h => h.1
  have w1 : IntKind.i64.wrap (m : Int) = m := wrap64_of (by omega) (by omega)
  obtain ⟨n, hn⟩ : ∃ n, n = 1024 + m := ⟨_, rfl⟩
  have w2 : IntKind.i64.wrap (1024 + (m : Int)) = (n : Int) := by rw [wrap64_of (by omega) (by omega)]; omega
  simp [w1, w2]
  intro hle
  refine ⟨⟨by omega, by omega⟩, ?_⟩
  rw [fillC_zero mC]
  refine AWP.up mixed n (fun i fr h' => fr 0 = .int .u8 m ∧ fr 1 = .bool b ∧ fr 5 = .own h.length 0 n ∧ fr 6 = .int .i64 i ∧ ∃ g, h' = h ++ .cells 7 (fillC mC zC n i) :: g) 0 (by omega) ⟨by simp, by simp, by simp, by simp, [], by simp [zC]⟩ ?_
  rintro i fr h' hi ⟨e0, e1, e5, e6, g, rfl⟩
  rcases Nat.lt_or_ge i n with hlt | hge
  · have ew := wrap_succ' (i := i) (by omega)
    have hl := fillC_len mC zC (n := n) (i := i) (by omega)
    have ha := fillC_at mC zC (n := n) (i := i) (by omega)
    have ha' := (List.getElem?_eq_some_iff.1 ha).2
    simp [e0, e1, e5, e6, hlt, ew, hl, ha, ha']
    refine callS.pure _ (fun _ => law_charge 1 i) ?_
    simp [e0, e1, e5, e6, hlt, ew, hl, ha, ha', zC_len, zC_drop]
    exact ⟨i + 1, by omega, by omega, by omega, by rw [← fillC_set mC _ hlt]; rfl⟩
  obtain rfl : i = n := by omega
  rw [fillC_all]
  have hch : (List.range i).map mC = (manyC i).map encChg := by rw [manyC, List.map_map]; rfl
  rw [hch]
  have hml : (manyC i).length = i := by simp [manyC]
  have hpos : 0 < i := by omega
  have h0 : (manyC i)[0]? = some (chgM 0) := many_get hpos
  have h0' : (manyC i)[0]'(by omega) = chgM 0 := (List.getElem?_eq_some_iff.1 h0).2
  obtain ⟨ch, hchd⟩ : ∃ ch : List TChg, ch = if b then (manyC i).set 0 { chgM 0 with time := -1 } else manyC i := ⟨_, rfl⟩
  have hcl : ch.length = i := by rw [hchd]; split <;> simp [hml]
  have herr : applyErr [capL 1000] ch = if 1024 < i then 3 else if b then 12 else 0 := by
    rw [hchd]
    cases b
    · simp [apply_many]
    · simp only [if_true]
      obtain ⟨r, hr⟩ : ∃ r, manyC i = chgM 0 :: r := by
        cases hx : manyC i with
        | nil => rw [hx] at hml; simp at hml; omega
        | cons y r => rw [hx] at h0; simp at h0; rw [h0]; exact ⟨r, rfl⟩
      rw [hr, List.set_cons_zero]
      rw [apply_spoilt i _ r (by decide +kernel) (by rw [hr] at hml; simpa using hml)]
  -- the first may be spoilt
  have hchE : ch.map encChg = if b then (((manyC i).map encChg).set 0 (encChg { chgM 0 with time := -1 })) else (manyC i).map encChg := by
    rw [hchd]; cases b <;> simp [List.map_set]
  have hE0 : ((manyC i).map encChg)[0]? = some (encChg (chgM 0)) := by simp [h0]
  have hlen : ((manyC i).map encChg).length = i := by simp [hml]
  clear hch h0'
  generalize (manyC i).map encChg = E at *
  have hE0' : E[0]'(by omega) = encChg (chgM 0) := (List.getElem?_eq_some_iff.1 hE0).2
  generalize hout : (if applyErr [capL 1000] ch = 0 then appApply [capL 1000] ch else []) = out
  have hres : out = if 1024 < i then [] else if b then [] else (List.range i).map (oneI 1000) := by
    rw [← hout, herr]
    by_cases hbig : 1024 < i
    · simp [hbig]
    · cases b
      · simp only [hbig, if_false, hchd]
        simp
        rw [app_many 1000 i (by omega)]
      · simp [hbig]
  cases b
  · have hchE : ch.map encChg = E := by simpa using hchE
    simp [e0, e1, e5, e6]
    refine ⟨fun q => ?_, fun q => ?_⟩
    · have herr' : applyErr [capL 1000] ch = 3 := by rw [herr, if_pos (by omega)]
      have hout' : out = [] := by rw [hres, if_pos (by omega)]
      refine callS.pure _ (fun _ => cap_Apply hgl [capL 1000] ch _ _ (Rs.own (b := h.length + (g.length + 1)) (es := [encCap (capL 1000)]) (by simp [capL]) (by simp)) (Rs.sub (b := h.length) (all := ch.map encChg) (off := 0) (len := i) (by rw [hchE]; simp) (by simp; omega) (by rw [List.drop_zero, List.take_of_length_le (by simp; omega)]) (by simp)) (by simp) (by omega)) ?_
      rw [hout, herr']
      simp [e0, e1, e5, e6, hout']
      refine AWP.up mixed 0 (fun j fr h' => fr 8 = .ro [] ∧ fr 9 = .int .i64 3 ∧ fr 11 = .int .i64 j ∧ ∃ g, h' = h ++ g) 0 (by omega) ⟨by simp, by simp, by simp, _, by simp; rfl⟩ ?_
      rintro j fr h' hj ⟨e8, e9, e11, g2, rfl⟩
      obtain rfl : j = 0 := by omega
      simp [e8, e9, e11]
      refine callS.pure _ (fun _ => law_alive hgl) ?_
      simp
    · have herr' : applyErr [capL 1000] ch = 0 := by rw [herr, if_neg (by omega)]; rfl
      have hout' : out = (List.range i).map (oneI 1000) := by rw [hres, if_neg (by omega)]; rfl
      have hi24 : i = 1024 := by omega
      refine callS.pure _ (fun _ => cap_Apply hgl [capL 1000] ch _ _ (Rs.own (b := h.length + (g.length + 1)) (es := [encCap (capL 1000)]) (by simp [capL]) (by simp)) (Rs.sub (b := h.length) (all := ch.map encChg) (off := 0) (len := i) (by rw [hchE]; simp) (by simp; omega) (by rw [List.drop_zero, List.take_of_length_le (by simp; omega)]) (by simp)) (by simp) (by omega)) ?_
      rw [hout, herr']
      have hol : out.length = i := by rw [hout']; simp
      have ho9 : out[999]? = some 1 := by rw [hout', hi24]; decide +kernel
      have ho10 : out[1000]? = some 0 := by rw [hout', hi24]; decide +kernel
      have ho9' : out[999]'(by omega) = 1 := (List.getElem?_eq_some_iff.1 ho9).2
      have ho10' : out[1000]'(by omega) = 0 := (List.getElem?_eq_some_iff.1 ho10).2
      have h9 : 999 < out.length := by omega
      have h10 : 1000 < out.length := by omega
      simp [e0, e1, e5, e6]
      refine AWP.up mixed i (fun j fr h' => fr 5 = .own h.length 0 i ∧ fr 8 = .ro (out.map encN) ∧ fr 9 = .int .i64 0 ∧ (∃ s : Nat, fr 10 = .int .i64 s ∧ s = min j 1000) ∧ fr 11 = .int .i64 j ∧ ∃ g, h' = h ++ .cells 7 (ch.map encChg) :: g) 0 (by omega) ⟨by simp [e5], by simp, by simp, ⟨0, by simp, by simp⟩, by simp, _, by rw [hchE]⟩ ?_
      rintro j fr h' hj ⟨e5, e8, e9, ⟨s, e10, hs⟩, e11, g2, rfl⟩
      rcases Nat.lt_or_ge j i with hlt | hge
      · have hoj : out[j]? = some (oneI 1000 j) := by rw [hout']; simp [hlt]
        have hltO : j < out.length := by omega
        have hoj' : out[j] = oneI 1000 j := (List.getElem?_eq_some_iff.1 hoj).2
        have ew := wrap_succ' (i := j) (by omega)
        obtain ⟨s', hs'⟩ : ∃ s', s' = min (j + 1) 1000 := ⟨_, rfl⟩
        have ws : IntKind.i64.wrap ((s : Int) + oneI 1000 j) = (s' : Int) := by
          unfold oneI
          split
          · rw [wrap64_of (by omega) (by omega)]; omega
          · rw [wrap64_of (by omega) (by omega)]; omega
        simp [e5, e8, e9, e10, e11, hol, hlt, hltO, hoj, hoj', ew, ws]
        exact ⟨j + 1, by omega, by omega, by omega, by omega⟩
      · obtain rfl : j = i := by omega
        obtain rfl : s = 1000 := by omega
        have e10 : fr 10 = .int .i64 1000 := e10
        simp [e5, e8, e9, e10, e11, hol, ho9, ho9', ho10, ho10', h9, h10]
        refine ⟨by omega, by omega, by omega, by omega, ?_⟩
        refine callS.pure _ (fun _ => law_alive hgl) ?_
        simp
  · have hchE : ch.map encChg = E.set 0 (encChg { chgM 0 with time := -1 }) := by simpa using hchE
    simp [e0, e1, e5, e6, hlen, hE0, hE0', hpos]
    refine ⟨fun q => ?_, fun q => ?_⟩
    · have herr' : applyErr [capL 1000] ch = 3 := by rw [herr, if_pos (by omega)]
      have hout' : out = [] := by rw [hres, if_pos (by omega)]
      refine callS.pure _ (fun _ => cap_Apply hgl [capL 1000] ch _ _ (Rs.own (b := h.length + (g.length + 1)) (es := [encCap (capL 1000)]) (by simp [capL]) (by simp)) (Rs.sub (b := h.length) (all := ch.map encChg) (off := 0) (len := i) (by rw [hchE]; simp) (by simp; omega) (by rw [List.drop_zero, List.take_of_length_le (by simp; omega)]) (by simp)) (by simp) (by omega)) ?_
      rw [hout, herr']
      simp [e0, e1, e5, e6, hout']
      refine AWP.up mixed 0 (fun j fr h' => fr 8 = .ro [] ∧ fr 9 = .int .i64 3 ∧ fr 11 = .int .i64 j ∧ ∃ g, h' = h ++ g) 0 (by omega) ⟨by simp, by simp, by simp, _, by simp; rfl⟩ ?_
      rintro j fr h' hj ⟨e8, e9, e11, g2, rfl⟩
      obtain rfl : j = 0 := by omega
      simp [e8, e9, e11]
      refine callS.pure _ (fun _ => law_alive hgl) ?_
      simp
    · have herr' : applyErr [capL 1000] ch = 12 := by rw [herr, if_neg (by omega)]; rfl
      have hout' : out = [] := by rw [hres, if_neg (by omega)]; rfl
      refine callS.pure _ (fun _ => cap_Apply hgl [capL 1000] ch _ _ (Rs.own (b := h.length + (g.length + 1)) (es := [encCap (capL 1000)]) (by simp [capL]) (by simp)) (Rs.sub (b := h.length) (all := ch.map encChg) (off := 0) (len := i) (by rw [hchE]; simp) (by simp; omega) (by rw [List.drop_zero, List.take_of_length_le (by simp; omega)]) (by simp)) (by simp) (by omega)) ?_
      rw [hout, herr']
      simp [e0, e1, e5, e6, hout']
      refine AWP.up mixed 0 (fun j fr h' => fr 8 = .ro [] ∧ fr 9 = .int .i64 12 ∧ fr 11 = .int .i64 j ∧ ∃ g, h' = h ++ g) 0 (by omega) ⟨by simp, by simp, by simp, _, by simp; rfl⟩ ?_
      rintro j fr h' hj ⟨e8, e9, e11, g2, rfl⟩
      obtain rfl : j = 0 := by omega
      simp [e8, e9, e11]
      refine callS.pure _ (fun _ => law_alive hgl) ?_
      simp
end Go.Proofs.YtillfoacekifbaaDoor
