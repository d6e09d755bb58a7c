/-
  Contracts: the longest chain.
-/
import Derived.Test.YtjdchnbjegddhaaChainA
set_option linter.unusedVariables false
set_option linter.unusedSimpArgs false
set_option maxRecDepth 100000
namespace Go.Proofs.Ytjdchnbjegddhaa
open Go Go.Abs Go.Toll
variable {gl : Globs} {h : AHeap}

/-- The lengths that are known: i's is m, those behind i stand. -/
def arrS (G : Nat → Nat → Bool) (n i m : Nat) : List Nat := (List.range n).map fun j => if j = i then m else if i < j then lng G n j else 0
section
variable {G : Nat → Nat → Bool} {n i m m' : Nat}
theorem arrS_len : (arrS G n i m).length = n := by simp [arrS]
theorem arrS_get {j : Nat} (h : j < n) : (arrS G n i m)[j]? = some (if j = i then m else if i < j then lng G n j else 0) := by simp [arrS, h]
theorem arrS_set (h : i < n) : (arrS G n i m).set i m' = arrS G n i m' := by
  refine List.ext_getElem? fun j => ?_
  by_cases hj : j = i
  · subst hj
    rw [List.getElem?_set_self (by rw [arrS_len]; exact h), arrS_get h, if_pos rfl]
  · rw [List.getElem?_set_ne (Ne.symm hj)]
    rcases Nat.lt_or_ge j n with hl | hl
    · rw [arrS_get hl, arrS_get hl, if_neg hj, if_neg hj]
    · rw [List.getElem?_eq_none (by rw [arrS_len]; exact hl), List.getElem?_eq_none (by rw [arrS_len]; exact hl)]
/-- The lengths from c on. -/
def arrC (G : Nat → Nat → Bool) (n c : Nat) : List Nat := (List.range n).map fun j => if c ≤ j then lng G n j else 0
theorem arrC_len : (arrC G n i).length = n := by simp [arrC]
theorem arrC_zero : arrC G n n = List.replicate n 0 := by
  refine List.ext_getElem? fun j => ?_
  rcases Nat.lt_or_ge j n with hl | hl
  · simp [arrC, hl, List.getElem?_replicate]; intro h; omega
  · rw [List.getElem?_eq_none (by rw [arrC_len]; exact hl), List.getElem?_eq_none (by simpa using hl)]
theorem arrC_open : arrC G n (i + 1) = arrS G n i 0 := by
  refine List.map_congr_left fun j hj => ?_
  by_cases h : j = i
  · subst h; rw [if_neg (by omega), if_pos rfl]
  · rw [if_neg h]
    by_cases h2 : i < j
    · rw [if_pos (by omega), if_pos h2]
    · rw [if_neg (by omega), if_neg h2]
theorem arrC_close : arrS G n i (lng G n i) = arrC G n i := by
  refine List.map_congr_left fun j hj => ?_
  by_cases h : j = i
  · subst h; rw [if_pos rfl, if_pos (by omega)]
  · rw [if_neg h]
    by_cases h2 : i < j
    · rw [if_pos h2, if_pos (by omega)]
    · rw [if_neg h2, if_neg (by omega)]
theorem arrC_get {j : Nat} (h : j < n) : (arrC G n 0)[j]? = some (lng G n j) := by simp [arrC, h]
theorem foldS_take {l : List Nat} {q j : Nat} (h : l[q]? = some j) : foldS i (lng G n) (l.take (q + 1)) m = if i < j then max (foldS i (lng G n) (l.take q) m) (lng G n j + 1) else foldS i (lng G n) (l.take q) m := by
  rw [List.take_add_one, h]
  unfold foldS
  rw [List.foldl_append]
  rfl
theorem fold_len {l : List Nat} (hl : ∀ j ∈ l, j < n) (hm : m ≤ n + 1) : foldS i (lng G n) l m ≤ n + 1 := by
  rcases foldS_or (i := i) (S := lng G n) (l := l) (m := m) with e | ⟨j, h1, h2, e⟩
  · omega
  · have := lng_len (G := G) (hl j h1); omega
end
theorem aft_none (G : Nat → Nat → Bool) (i : Nat) : aft G none i = true := rfl
theorem aft_some (G : Nat → Nat → Bool) (k i : Nat) : aft G (some k) i = G k i := by simp [aft]
set_option maxHeartbeats 8000000 in
theorem chain_Longest (t : Topo) (l : List TPass) (hn : l.length ≤ 1000000) (hp : t.net.pts.length ≤ 1000) (hl : t.net.lks.length ≤ 1000) (hs : t.sys.length ≤ 1000) : ACalls Try.prog gl 18 [.agg (encTopo t), .ro (l.map encPass)] h fun v h' => v = .ro ((lngL (gL (validT t).net l) l.length).map encIx) ∧ h' = h := by
  refine ACalls.fresh' (ACalls.bodyF 9999 Try.f18 _ mixed Try.func18 rfl rfl (by simp [Try.ntmps18]) ?_)
  simp
  refine callS.pure _ (fun _ => chain_Follows t l hn hp hl hs) ?_
  obtain ⟨n, hnn⟩ : ∃ n, n = l.length := ⟨_, rfl⟩
  obtain ⟨G, hG⟩ : ∃ G, G = gL (validT t).net l := ⟨_, rfl⟩
  obtain ⟨R, hR⟩ : ∃ R, R = rowsF (validT t).net l l.length := ⟨_, rfl⟩
  have hRl : R.length = n := by rw [hR, hnn]; exact rowsF_len _ _ _
  have hRg : ∀ i, i < n → R[i]? = some [AV.ro ((folL G n i).map encIx)] := fun i hi => by rw [hR, hG, hnn]; exact rowsF_get (by omega)
  rw [← hR, ← hG, ← hnn]
  clear hR hG
  simp [← hnn]
  refine ⟨by omega, ?_⟩
  obtain ⟨p, hp0⟩ : ∃ p, p = h.length + 1 := ⟨_, rfl⟩
  have ew0 : IntKind.i64.wrap ((n : Int) - 1) = (n : Int) - 1 := wrap64_of (by omega) (by omega)
  rw [ew0, ← hp0]
  refine AWP.up mixed n (fun k fr H => fr 1 = .ro (l.map encPass) ∧ fr 5 = .ro R ∧ fr 6 = .own p 0 n ∧ fr 8 = .int .i64 ((n : Int) - 1 - k) ∧ fr 7 = .int .i64 (mstC G n (n - k) : Nat) ∧ H[p]? = some (.cells 1 ((arrC G n (n - k)).map encIx)) ∧ (∃ g, H = h ++ g) ∧ p < H.length) 0 (by omega)
    ⟨by simp, by simp, by simp, by simp, by simp [mstC_end], ?_, by simp, by simp [hp0]⟩ ?_
  · rw [Nat.sub_zero, arrC_zero, List.map_replicate]
    simp [hp0, encIx]
  rintro k fr H hk ⟨e1, e5, e6, e8, e7, hA, hB, hpl⟩
  have hA3 := at3 hA
  have hlen := base_len hB
  rcases Nat.lt_or_ge k n with hlt | hge
  · obtain ⟨i, hi⟩ : ∃ i, n - k = i + 1 := ⟨n - k - 1, by omega⟩
    have hin : i < n := by omega
    have ei : (n : Int) - 1 - k = (i : Int) := by omega
    rw [hi, arrC_open] at hA hA3
    rw [hi] at e7
    rw [ei] at e8
    have hrow := hRg i hin
    have hrow' := (List.getElem?_eq_some_iff.1 hrow).2
    have hi0 : (0 : Int) ≤ i := by omega
    have hal : (arrS G n i 0).length = n := arrS_len
    have hset : ((arrS G n i 0).map encIx).set i [.int .i64 1] = (arrS G n i 1).map encIx := by rw [← arrS_set hin (m := 0) (m' := 1), List.map_set]; rfl
    have hinR : i < R.length := by omega
    simp [e1, e5, e6, e7, e8, hA3, hrow, hrow', hin, hi0, hal, hRl, hset]
    have hA1 : (H.set p (.cells 1 ((arrS G n i 1).map encIx)))[p]? = some (.cells 1 ((arrS G n i 1).map encIx)) := List.getElem?_set_self hpl
    refine AWP.up mixed (folL G n i).length (fun q fr H' => fr 1 = .ro (l.map encPass) ∧ fr 5 = .ro R ∧ fr 6 = .own p 0 n ∧ fr 8 = .int .i64 i ∧ fr 7 = .int .i64 (mstC G n (i + 1) : Nat) ∧ fr 35 = .ro ((folL G n i).map encIx) ∧ fr 36 = .int .i64 (folL G n i).length ∧ fr 37 = .int .i64 q ∧
        H'[p]? = some (.cells 1 ((arrS G n i (foldS i (lng G n) ((folL G n i).take q) 1)).map encIx)) ∧ (∃ g, H' = h ++ g) ∧ p < H'.length) 0 (by omega)
      ⟨by simp [e1], by simp [e5], by simp [e6], by simp [e8], by simp [e7], by simp, by simp, by simp, by simpa [foldS] using hA1, base_set hB (by omega) _, by simpa using hpl⟩ ?_
    clear hA hA3 hA1 e1 e5 e6 e7 e8 hB hpl
    rintro q fr H' hq ⟨e1, e5, e6, e8, e7, e35, e36, e37, hA, hB, hpl⟩
    have hA3 := at3 hA
    have hmem : ∀ j ∈ (folL G n i).take q, j < n := fun j hj => (mem_folL.1 (List.mem_of_mem_take hj)).1
    have hfb := fold_len (G := G) (n := n) (i := i) hmem (m := 1) (by omega)
    obtain ⟨m, hm⟩ : ∃ m, m = foldS i (lng G n) ((folL G n i).take q) 1 := ⟨_, rfl⟩
    have hal : (arrS G n i m).length = n := arrS_len
    rcases Nat.lt_or_ge q (folL G n i).length with hqlt | hqge
    · obtain ⟨j, hj, hj'⟩ := get_lt hqlt
      have hjn := (mem_folL.1 (List.mem_of_getElem? hj)).1
      have ewq := wrap_succ' (i := q) (by have := folL_len (G := G) (n := n) i; omega)
      have hsuc := foldS_take (G := G) (n := n) (i := i) (m := 1) hj
      rw [← hm] at hA hA3 hfb hsuc
      have hgi : (arrS G n i m)[i]? = some m := by rw [arrS_get hin, if_pos rfl]
      have hgi' := (List.getElem?_eq_some_iff.1 hgi).2
      by_cases hij : i < j
      · have hij' : (i : Int) < j := by omega
        have hgj : (arrS G n i m)[j]? = some (lng G n j) := by rw [arrS_get hjn, if_neg (by omega), if_pos hij]
        have hgj' := (List.getElem?_eq_some_iff.1 hgj).2
        have hlj := lng_len (G := G) hjn
        have ewl : IntKind.i64.wrap ((lng G n j : Int) + 1) = ((lng G n j + 1 : Nat) : Int) := by rw [wrap64_of (by omega) (by omega)]; omega
        have emax : max (m : Int) ((lng G n j + 1 : Nat) : Int) = ((max m (lng G n j + 1) : Nat) : Int) := by omega
        have hset : ((arrS G n i m).map encIx).set i [.int .i64 ((max m (lng G n j + 1) : Nat) : Int)] = (arrS G n i (max m (lng G n j + 1))).map encIx := by rw [← arrS_set hin (m := m) (m' := max m (lng G n j + 1)), List.map_set]; rfl
        rw [if_pos hij] at hsuc
        simp [-Int.natCast_add, e1, e5, e6, e7, e8, e35, e36, e37, hqlt, hj, hj', encIx, hij, hij', hA3, hal, hin, hjn, hgi, hgi', hgj, hgj', ewl, ewq]
        refine ⟨by decide, ?_⟩
        rw [emax, hset]
        exact ⟨q + 1, by omega, by omega, by omega, by rw [hsuc], base_set hB (by omega) _⟩
      · have hij' : ¬ (i : Int) < j := by omega
        rw [if_neg hij] at hsuc
        simp [-Int.natCast_add, e1, e5, e6, e7, e8, e35, e36, e37, hqlt, hj, hj', encIx, hij, hij', ewq]
        exact ⟨q + 1, by omega, by omega, by omega, by rw [hsuc]; exact hA, hB, hpl⟩
    · obtain rfl : q = (folL G n i).length := by omega
      rw [List.take_length] at hm
      rw [← lng_eq hin] at hm
      rw [List.take_length, ← lng_eq hin, arrC_close] at hA
      have hA3 := at3 hA
      have hgi : (arrC G n i)[i]? = some (lng G n i) := by simp [arrC, hin]
      have hgi' := (List.getElem?_eq_some_iff.1 hgi).2
      have hcl : (arrC G n i).length = n := arrC_len
      have hli := lng_len (G := G) hin
      have emax : max (mstC G n (i + 1) : Int) (lng G n i : Int) = ((mstC G n i : Nat) : Int) := by rw [mstC_succ hin]; omega
      have ewi : IntKind.i64.wrap ((i : Int) - 1) = (i : Int) - 1 := wrap64_of (by omega) (by omega)
      simp [e1, e5, e6, e7, e8, e35, e36, e37, hA3, hcl, hin, hgi, hgi', encIx, emax, ewi]
      exact ⟨k + 1, by omega, by omega, by omega, by rw [show n - (k + 1) = i by omega], by rw [show n - (k + 1) = i by omega], hB⟩
  · obtain rfl : n = k := by omega
    rw [Nat.sub_self] at hA e7
    have hcl : (arrC G n 0).length = n := arrC_len
    have e8 : fr 8 = .int .i64 (-1) := by rw [e8]; congr 1; omega
    simp [e1, e5, e6, e7, e8, ← hnn]
    refine AWP.up mixed n (fun k fr H => fr 5 = .ro R ∧ fr 6 = .own p 0 n ∧ fr 65 = .int .i64 n ∧ fr 66 = .int .i64 k ∧ H[p]? = some (.cells 1 ((arrC G n 0).map encIx)) ∧ (∃ g, H = h ++ g) ∧ p < H.length ∧
        ∃ (m : Nat) (O : List Nat) (x : AV), fr 7 = .int .i64 m ∧ m ≤ n ∧ fr 11 = x ∧ Ls 1 (p + 1) H x (O.map encIx) ∧ (∀ j ∈ O, j < n) ∧ O.length ≤ k ∧ lngL G n = O ++ pickS G n ((List.range n).drop k) O.getLast? m) 0 (by omega)
      ⟨by simp [e5], by simp [e6], by simp, by simp, hA, hB, hpl, mstC G n 0, [], .nil, by simp [e7], mstC_le n 0 rfl (by omega), by simp, Ls.nil, by simp, by simp, by simp [lngL]⟩ ?_
    clear hA hA3 hB hpl e1 e5 e6 e7 e8 hlen hk
    rintro k fr H hk ⟨e5, e6, e65, e66, hA, hB, hpl, m, O, x, e7, hm, e11, hx, hO, hOl, hL⟩
    have hA3 := at3 hA
    have hlen := base_len hB
    have hxf := hx.rs.fix
    rcases Nat.lt_or_ge k n with hlt | hge
    · have ewk := wrap_succ' (i := k) (by omega)
      by_cases hm0 : m = 0
      · subst hm0
        rw [pickS_zero, List.append_nil] at hL
        simp [e5, e6, e65, e66, e7, e11, hlt, hxf]
        exact ⟨hB, by rw [hL]; exact hx.frz (by omega) (nums_data _)⟩
      · rw [range_drop hlt, pickS, if_neg hm0] at hL
        have hgk : (arrC G n 0)[k]? = some (lng G n k) := arrC_get hlt
        have hgk' := (List.getElem?_eq_some_iff.1 hgk).2
        have hm0' : ¬ (m : Int) = 0 := by omega
        have hm1 : ((m - 1 : Nat) : Int) = (m : Int) - 1 := by omega
        have ewm : IntKind.i64.wrap ((m : Int) - 1) = ((m - 1 : Nat) : Int) := by rw [wrap64_of (by omega) (by omega)]; omega
        by_cases hlk : lng G n k = m
        · have hlk' : (lng G n k : Int) = m := by omega
          rcases List.eq_nil_or_concat O with rfl | ⟨O0, last, rfl⟩
          · rw [if_pos ⟨hlk, rfl⟩] at hL
            simp [-appendOk, -appendK, -acells, -AV.solid, e5, e6, e65, e66, e7, e11, hlt, hxf, hm0, hm0', hA3, hcl, hgk, hgk', encIx, hlk, hlk', hx.rs.len2]
            refine append_new (lo := p + 1) (n := 1) (es := []) (ys := [encIx k]) (by simpa [encIx] using hx.more _) (by simp; omega) (by simp [appOk, encIx]) (by simp) ?_
            intro s1 H1 hs1 hg1 hn1
            have hs1f := hs1.rs.fix
            have hk1 : ∀ b o, b < p + 1 → H[b]? = some o → H1[b]? = some o := fun b o hb ho => hg1.keep b o (at_more ho _) fun off len e => by have := hx.above _ _ _ e; omega
            have hB1 := hg1.base h (by omega) (base_more hB _)
            have hl1 := hg1.len
            simp [-appendOk, -appendK, -acells, -AV.solid, e5, e6, e65, e66, e7, hs1f, ewm, ewk]
            simp at hl1
            exact ⟨k + 1, by omega, by omega, by omega, hk1 _ _ (by omega) hA, hB1, by omega, m - 1, rfl, by omega, [k], by simpa [encIx] using hs1, by simp [hlt], by simp, by simpa using hL⟩
          · have hlast : last < n := hO last (by simp)
            have hrow := hRg last hlast
            have hrow' := (List.getElem?_eq_some_iff.1 hrow).2
            have hlR : last < R.length := by omega
            have hOl' : O0.length + 1 ≤ k := by simpa using hOl
            have rx := Rs.ix Try.prog hx.rs (O0.length : Nat) (by omega) (y := [.int .i64 last]) (by simp [encIx])
            have ewo : IntKind.i64.wrap (O0.length : Int) = (O0.length : Int) := wrap64_of (by omega) (by omega)
            have hpos : (0 : Int) < (O0.length : Int) + 1 := by omega
            have hgl : (O0 ++ [last]).getLast? = some last := by simp
            simp only [List.concat_eq_append, hgl, aft_some] at hL hx hO
            simp [-appendOk, -appendK, -acells, -AV.solid, e5, e6, e65, e66, e7, e11, hlt, hxf, hm0, hm0', hA3, hcl, hgk, hgk', encIx, hlk, hlk', hx.rs.len2, rx, ewo, hpos, hrow, hrow', hlR]
            refine AWP.up mixed (folL G n last).length (fun q fr H => fr 5 = .ro R ∧ fr 6 = .own p 0 n ∧ fr 65 = .int .i64 n ∧ fr 66 = .int .i64 k ∧ H[p]? = some (.cells 1 ((arrC G n 0).map encIx)) ∧ (∃ g, H = h ++ g) ∧ p < H.length ∧
                fr 7 = .int .i64 m ∧ fr 11 = x ∧ Ls 1 (p + 1) H x ((O0 ++ [last]).map encIx) ∧ fr 12 = .int .i64 k ∧ fr 89 = .ro ((folL G n last).map encIx) ∧ fr 90 = .int .i64 (folL G n last).length ∧ fr 91 = .int .i64 q ∧ k ∉ (folL G n last).take q) 0 (by omega)
              ⟨by simp [e5], by simp [e6], by simp [e65], by simp [e66], hA, hB, hpl, by simp [e7], by simp [e11], hx, by simp, by simp, by simp, by simp, by simp⟩ ?_
            clear e5 e6 e65 e66 e7 e11 hA hA3 hB hpl hx hxf rx hlen
            rintro q fr H hq ⟨e5, e6, e65, e66, hA, hB, hpl, e7, e11, hx, e12, e89, e90, e91, hno⟩
            have hlen := base_len hB
            have hxf := hx.rs.fix
            rcases Nat.lt_or_ge q (folL G n last).length with hqlt | hqge
            · obtain ⟨j, hj, hj'⟩ := get_lt hqlt
              have ewq := wrap_succ' (i := q) (by have := folL_len (G := G) (n := n) last; omega)
              by_cases hjk : j = k
              · subst hjk
                have hg : G last j = true := (mem_folL.1 (List.mem_of_getElem? hj)).2
                rw [if_pos ⟨hlk, hg⟩] at hL
                simp [-appendOk, -appendK, -acells, -AV.solid, e5, e6, e65, e66, e7, e11, e12, e89, e90, e91, hqlt, hj, hj', encIx, hxf]
                refine append_new (lo := p + 1) (n := 1) (es := (O0 ++ [last]).map encIx) (ys := [encIx j]) (by simpa [encIx] using hx.more _) (by simp; omega) (by simp [appOk, encIx]) (by simp; omega) ?_
                intro s1 H1 hs1 hg1 hn1
                have hs1f := hs1.rs.fix
                have hk1 : ∀ b o, b < p + 1 → H[b]? = some o → H1[b]? = some o := fun b o hb ho => hg1.keep b o (at_more ho _) fun off len e => by have := hx.above _ _ _ e; omega
                have hB1 := hg1.base h (by omega) (base_more hB _)
                have hl1 := hg1.len
                simp [-appendOk, -appendK, -acells, -AV.solid, e5, e6, e65, e66, e7, hs1f, ewm, ewk]
                simp at hl1
                exact ⟨j + 1, by omega, by omega, by omega, hk1 _ _ (by omega) hA, hB1, by omega, m - 1, rfl, by omega, O0 ++ [last] ++ [j], by simpa [encIx] using hs1, fun z hz => by rcases List.mem_append.1 hz with q | q; exact hO z q; rw [List.mem_singleton.1 q]; exact hlt, by simp; omega, by rw [hL, List.append_assoc, List.append_assoc]; simp⟩
              · have hjk' : ¬ (j : Int) = k := by omega
                simp [e5, e6, e65, e66, e7, e11, e12, e89, e90, e91, hqlt, hj, hj', encIx, hxf, hjk, hjk', ewq]
                refine ⟨q + 1, by omega, by omega, by omega, hB, hpl, by simpa [encIx] using hx, by omega, fun hmem => ?_⟩
                rw [List.take_add_one, hj] at hmem
                rcases List.mem_append.1 hmem with c | c
                · exact hno c
                · exact hjk (by simp at c; exact c.symm)
            · obtain rfl : q = (folL G n last).length := by omega
              rw [List.take_length] at hno
              have hg : ¬ G last k = true := fun c => hno (mem_folL.2 ⟨hlt, c⟩)
              rw [if_neg (fun c => hg c.2)] at hL
              simp [e5, e6, e65, e66, e7, e11, e12, e89, e90, e91, hxf, ewk]
              exact ⟨k + 1, by omega, by omega, by omega, hA, hB, hpl, m, rfl, by omega, O0 ++ [last], by simpa using hx, by simpa using hO, by simp; omega, by rw [hgl]; exact hL⟩
        · have hlk' : ¬ (lng G n k : Int) = m := by omega
          rw [if_neg (fun c => hlk c.1)] at hL
          simp [e5, e6, e65, e66, e7, e11, hlt, hxf, hm0, hm0', hA3, hcl, hgk, hgk', encIx, hlk, hlk', ewk]
          exact ⟨k + 1, by omega, by omega, by omega, hB, m, rfl, by omega, O, hx, hO, by omega, hL⟩
    · obtain rfl : n = k := by omega
      rw [List.drop_eq_nil_of_le (by simp), pickS, List.append_nil] at hL
      simp [e5, e6, e65, e66, e7, e11, hxf]
      exact ⟨hB, by rw [hL]; exact hx.frz (by omega) (nums_data _)⟩
def lastI : Option Nat → Int
  | none => -1
  | some k => k
def nextC : Option Nat → Nat
  | none => 0
  | some k => k + 1
set_option maxHeartbeats 8000000 in
theorem ref19_Longest (t : Topo) (l : List TPass) (hn : l.length ≤ 1000000) (hp : t.net.pts.length ≤ 1000) (hl : t.net.lks.length ≤ 1000) (hs : t.sys.length ≤ 1000) : ACalls Try.prog gl 19 [.agg (encTopo t), .ro (l.map encPass)] h fun v h' => v = .ro ((lngL (gL (validT t).net l) l.length).map encIx) ∧ h' = h := by
  refine ACalls.fresh' (ACalls.body Try.f19 _ mixed Try.func19 rfl rfl (by simp [Try.ntmps19]) ?_)
  simp
  refine callS.pure _ (fun _ => ref19_Follows t l hn hp hl hs) ?_
  obtain ⟨n, hnn⟩ : ∃ n, n = l.length := ⟨_, rfl⟩
  obtain ⟨G, hG⟩ : ∃ G, G = gL (validT t).net l := ⟨_, rfl⟩
  obtain ⟨R, hR⟩ : ∃ R, R = rowsF (validT t).net l l.length := ⟨_, rfl⟩
  have hRl : R.length = n := by rw [hR, hnn]; exact rowsF_len _ _ _
  have hRg : ∀ i, i < n → R[i]? = some [AV.ro ((folL G n i).map encIx)] := fun i hi => by rw [hR, hG, hnn]; exact rowsF_get (by omega)
  rw [← hR, ← hG, ← hnn]
  clear hR
  simp [← hnn]
  refine ⟨by omega, ?_⟩
  obtain ⟨p, hp0⟩ : ∃ p, p = h.length + 1 := ⟨_, rfl⟩
  have ew0 : IntKind.i64.wrap ((n : Int) - 1) = (n : Int) - 1 := wrap64_of (by omega) (by omega)
  rw [ew0, ← hp0]
  refine AWP.up mixed n (fun k fr H => fr 1 = .ro (l.map encPass) ∧ fr 5 = .ro R ∧ fr 6 = .own p 0 n ∧ fr 8 = .int .i64 ((n : Int) - 1 - k) ∧ fr 7 = .int .i64 (mstC G n (n - k) : Nat) ∧ H[p]? = some (.cells 1 ((arrC G n (n - k)).map encIx)) ∧ (∃ g, H = h ++ g) ∧ p < H.length ∧ fr 2 = .ptr h.length 0 0 ∧ H[h.length]? = some (.cells 3 [encTopo t])) 0 (by omega)
    ⟨by simp, by simp, by simp, by simp, by simp [mstC_end], ?_, by simp, by simp [hp0], by simp, by simp⟩ ?_
  · rw [Nat.sub_zero, arrC_zero, List.map_replicate]
    simp [hp0, encIx]
  rintro k fr H hk ⟨e1, e5, e6, e8, e7, hA, hB, hpl, e2, hT⟩
  have hA3 := at3 hA
  have hlen := base_len hB
  rcases Nat.lt_or_ge k n with hlt | hge
  · obtain ⟨i, hi⟩ : ∃ i, n - k = i + 1 := ⟨n - k - 1, by omega⟩
    have hin : i < n := by omega
    have ei : (n : Int) - 1 - k = (i : Int) := by omega
    rw [hi, arrC_open] at hA hA3
    rw [hi] at e7
    rw [ei] at e8
    have hrow := hRg i hin
    have hrow' := (List.getElem?_eq_some_iff.1 hrow).2
    have hi0 : (0 : Int) ≤ i := by omega
    have hal : (arrS G n i 0).length = n := arrS_len
    have hset : ((arrS G n i 0).map encIx).set i [.int .i64 1] = (arrS G n i 1).map encIx := by rw [← arrS_set hin (m := 0) (m' := 1), List.map_set]; rfl
    have hinR : i < R.length := by omega
    simp [e1, e5, e6, e7, e8, hA3, hrow, hrow', hin, hi0, hal, hRl, hset]
    have hA1 : (H.set p (.cells 1 ((arrS G n i 1).map encIx)))[p]? = some (.cells 1 ((arrS G n i 1).map encIx)) := List.getElem?_set_self hpl
    refine AWP.up mixed (folL G n i).length (fun q fr H' => fr 1 = .ro (l.map encPass) ∧ fr 5 = .ro R ∧ fr 6 = .own p 0 n ∧ fr 8 = .int .i64 i ∧ fr 7 = .int .i64 (mstC G n (i + 1) : Nat) ∧ fr 9 = .int .i64 q ∧
        H'[p]? = some (.cells 1 ((arrS G n i (foldS i (lng G n) ((folL G n i).take q) 1)).map encIx)) ∧ (∃ g, H' = h ++ g) ∧ p < H'.length ∧ fr 2 = .ptr h.length 0 0 ∧ H'[h.length]? = some (.cells 3 [encTopo t])) 0 (by omega)
      ⟨by simp [e1], by simp [e5], by simp [e6], by simp [e8], by simp [e7], by simp, by simpa [foldS] using hA1, base_set hB (by omega) _, by simpa using hpl, by simp [e2], by rw [List.getElem?_set_ne (by omega)]; exact hT⟩ ?_
    clear hA hA3 hA1 e1 e5 e6 e7 e8 hB hpl e2 hT
    rintro q fr H' hq ⟨e1, e5, e6, e8, e7, e9, hA, hB, hpl, e2, hT⟩
    have hA3 := at3 hA
    have hmem : ∀ j ∈ (folL G n i).take q, j < n := fun j hj => (mem_folL.1 (List.mem_of_mem_take hj)).1
    have hfb := fold_len (G := G) (n := n) (i := i) hmem (m := 1) (by omega)
    obtain ⟨m, hm⟩ : ∃ m, m = foldS i (lng G n) ((folL G n i).take q) 1 := ⟨_, rfl⟩
    have hal : (arrS G n i m).length = n := arrS_len
    rcases Nat.lt_or_ge q (folL G n i).length with hqlt | hqge
    · obtain ⟨j, hj, hj'⟩ := get_lt hqlt
      have hjn := (mem_folL.1 (List.mem_of_getElem? hj)).1
      have ewq := wrap_succ' (i := q) (by have := folL_len (G := G) (n := n) i; omega)
      have hsuc := foldS_take (G := G) (n := n) (i := i) (m := 1) hj
      rw [← hm] at hA hA3 hfb hsuc
      have hgi : (arrS G n i m)[i]? = some m := by rw [arrS_get hin, if_pos rfl]
      have hgi' := (List.getElem?_eq_some_iff.1 hgi).2
      by_cases hij : i < j
      · have hij' : (i : Int) < j := by omega
        have hgj : (arrS G n i m)[j]? = some (lng G n j) := by rw [arrS_get hjn, if_neg (by omega), if_pos hij]
        have hgj' := (List.getElem?_eq_some_iff.1 hgj).2
        have hlj := lng_len (G := G) hjn
        have ewl : IntKind.i64.wrap ((lng G n j : Int) + 1) = ((lng G n j + 1 : Nat) : Int) := by rw [wrap64_of (by omega) (by omega)]; omega
        have hset : ((arrS G n i m).map encIx).set i [.int .i64 ((lng G n j + 1 : Nat) : Int)] = (arrS G n i (lng G n j + 1)).map encIx := by rw [← arrS_set hin (m := m) (m' := lng G n j + 1), List.map_set]; rfl
        rw [if_pos hij] at hsuc
        by_cases hmj : m ≤ lng G n j
        · have hmj' : (m : Int) ≤ lng G n j := by omega
          rw [show max m (lng G n j + 1) = lng G n j + 1 by omega] at hsuc
          simp [-Int.natCast_add, e1, e2, e5, e6, e7, e8, e9, hrow, hrow', hinR, hRl, hi0, hqlt, hj, hj', encIx, hij, hij', hA3, hal, hin, hjn, hgi, hgi', hgj, hgj', ewl, ewq, hmj, hmj']
          refine ⟨by decide, ?_⟩
          simp only [hset]
          exact ⟨q + 1, by omega, by omega, by omega, by rw [hsuc], base_set hB (by omega) _, by rw [List.getElem?_set_ne (by omega)]; exact hT⟩
        · have hmj' : ¬ (m : Int) ≤ lng G n j := by omega
          rw [show max m (lng G n j + 1) = m by omega] at hsuc
          simp [-Int.natCast_add, e1, e2, e5, e6, e7, e8, e9, hrow, hrow', hinR, hRl, hi0, hqlt, hj, hj', encIx, hij, hij', hA3, hal, hin, hjn, hgi, hgi', hgj, hgj', ewl, ewq, hmj, hmj']
          exact ⟨by decide, q + 1, by omega, by omega, by omega, by rw [hsuc], hB, hT⟩
      · have hij' : ¬ (i : Int) < j := by omega
        rw [if_neg hij] at hsuc
        simp [-Int.natCast_add, e1, e2, e5, e6, e7, e8, e9, hrow, hrow', hinR, hRl, hi0, hqlt, hj, hj', encIx, hij, hij', ewq, hA3, hal, hin, hjn, hgi, hgi']
        exact ⟨by decide, q + 1, by omega, by omega, by omega, by rw [hsuc], hB, hT⟩
    · obtain rfl : q = (folL G n i).length := by omega
      rw [List.take_length] at hm
      rw [← lng_eq hin] at hm
      rw [List.take_length, ← lng_eq hin, arrC_close] at hA
      have hA3 := at3 hA
      have hgi : (arrC G n i)[i]? = some (lng G n i) := by simp [arrC, hin]
      have hgi' := (List.getElem?_eq_some_iff.1 hgi).2
      have hcl : (arrC G n i).length = n := arrC_len
      have hli := lng_len (G := G) hin
      have hms := mstC_succ (G := G) hin
      have ewi : IntKind.i64.wrap ((i : Int) - 1) = (i : Int) - 1 := wrap64_of (by omega) (by omega)
      by_cases hgt : mstC G n (i + 1) < lng G n i
      · have hgt' : (mstC G n (i + 1) : Int) < lng G n i := by omega
        rw [show max (lng G n i) (mstC G n (i + 1)) = lng G n i by omega] at hms
        simp [e1, e2, e5, e6, e7, e8, e9, hrow, hrow', hinR, hRl, hi0, hA3, hcl, hin, hgi, hgi', encIx, hgt, hgt', ewi]
        exact ⟨k + 1, by omega, by omega, by omega, by rw [show n - (k + 1) = i by omega, hms], by rw [show n - (k + 1) = i by omega], hB, hT⟩
      · have hgt' : ¬ (mstC G n (i + 1) : Int) < lng G n i := by omega
        rw [show max (lng G n i) (mstC G n (i + 1)) = mstC G n (i + 1) by omega] at hms
        simp [e1, e2, e5, e6, e7, e8, e9, hrow, hrow', hinR, hRl, hi0, hA3, hcl, hin, hgi, hgi', encIx, hgt, hgt', ewi]
        exact ⟨k + 1, by omega, by omega, by omega, by rw [show n - (k + 1) = i by omega, hms], by rw [show n - (k + 1) = i by omega], hB, hT⟩
  · obtain rfl : n = k := by omega
    rw [Nat.sub_self] at hA e7
    have hcl : (arrC G n 0).length = n := arrC_len
    have e8 : fr 8 = .int .i64 (-1) := by rw [e8]; congr 1; omega
    simp [e1, e5, e6, e7, e8, ← hnn]
    refine AWP.down mixed (fun left fr H => fr 1 = .ro (l.map encPass) ∧ fr 2 = .ptr h.length 0 0 ∧ fr 6 = .own p 0 n ∧ H[p]? = some (.cells 1 ((arrC G n 0).map encIx)) ∧ H[h.length]? = some (.cells 3 [encTopo t]) ∧ (∃ g, H = h ++ g) ∧ p < H.length ∧ fr 13 = .int .i64 left ∧ left ≤ n ∧
        ∃ (O : List Nat) (x : AV), fr 12 = .int .i64 (lastI O.getLast?) ∧ fr 11 = x ∧ Ls 1 (p + 1) H x (O.map encIx) ∧ (∀ j ∈ O, j < n) ∧ O.length + left ≤ n ∧ Exs G n (nextC O.getLast?) O.getLast? left ∧ lngL G n = O ++ pickS G n ((List.range n).drop (nextC O.getLast?)) O.getLast? left) (mstC G n 0)
      ⟨by simp [e1], by simp [e2], by simp [e6], hA, hT, hB, hpl, by simp [e7], mstC_le n 0 rfl (by omega), [], .nil, by simp [lastI], by simp, Ls.nil, by simp, by have := mstC_le (G := G) (n := n) n 0 rfl (by omega); simpa using this, Exs.start, by simp [lngL, nextC]⟩ ?_
    clear hA hA3 hB hpl e1 e5 e6 e7 e8 hlen hk e2 hT
    rintro left fr H ⟨e1, e2, e6, hA, hT, hB, hpl, e13, hleft, O, x, e12, e11, hx, hO, hOl, hE, hL⟩
    have hA3 := at3 hA
    have hlen := base_len hB
    have hxf := hx.rs.fix
    by_cases hl0 : left = 0
    · subst hl0
      rw [pickS_zero, List.append_nil] at hL
      simp [e1, e6, e11, e12, e13, hxf]
      exact ⟨hB, by rw [hL]; exact hx.frz (by omega) (nums_data _)⟩
    · have hl1 : 0 < left := by omega
      have hO' := hO
      obtain ⟨last, hlast⟩ : ∃ last, last = O.getLast? := ⟨_, rfl⟩
      rw [← hlast] at e12 hE hL
      have hln : ∀ k, last = some k → k < n := fun k e => hO k (List.mem_of_getLast? (by rw [← hlast]; exact e))
      have hcn : nextC last ≤ n := by
        cases last with
        | none => exact Nat.zero_le _
        | some k => have := hln k rfl; exact this
      have ewc : IntKind.i64.wrap (lastI last + 1) = (nextC last : Int) := by
        cases last with
        | none => rfl
        | some k => have := hln k rfl; show IntKind.i64.wrap ((k : Int) + 1) = ((k + 1 : Nat) : Int); exact wrap_succ' (by omega)
      simp [e1, e2, e6, e11, e12, e13, hl1, hl0, hxf, ewc]
      refine AWP.up mixed n (fun i fr H' => fr 1 = .ro (l.map encPass) ∧ fr 2 = .ptr h.length 0 0 ∧ fr 6 = .own p 0 n ∧ fr 13 = .int .i64 left ∧ fr 12 = .int .i64 (lastI last) ∧ fr 11 = x ∧ fr 15 = .int .i64 i ∧ H' = H ∧ nextC last ≤ i ∧
          ((fr 14 = .int .i64 (-1) ∧ Exs G n i last left ∧ lngL G n = O ++ pickS G n ((List.range n).drop i) last left) ∨
           ∃ k, i = k + 1 ∧ fr 14 = .int .i64 k ∧ lng G n k = left ∧ lngL G n = O ++ k :: pickS G n ((List.range n).drop (k + 1)) (some k) (left - 1))) (nextC last) hcn
        ⟨by simp [e1], by simp [e2], by simp [e6], by simp [e13], by simp [e12], by simp [e11], by simp, by simp, by omega, .inl ⟨by simp, hE, hL⟩⟩ ?_
      clear hE hL e1 e2 e6 e11 e12 e13
      rintro i fr H' hi ⟨e1, e2, e6, e13, e12, e11, e15, rfl, hci, hor⟩
      rcases hor with ⟨e14, hE, hL⟩ | ⟨k, rfl, e14, hlk, hL⟩
      · have hlt : i < n := by
          rcases hE with h0 | ⟨j, q1, q2, _⟩
          · exact absurd h0 hl0
          · omega
        have hil : i < l.length := by omega
        have ewi := wrap_succ' (i := i) (by omega)
        have hgi : (arrC G n 0)[i]? = some (lng G n i) := arrC_get hlt
        have hgi' := (List.getElem?_eq_some_iff.1 hgi).2
        obtain ⟨b, hb, hb'⟩ := get_lt hil
        have hT3 := at3 hT
        simp only [encTopo] at hT3
        rw [range_drop hlt, pickS, if_neg hl0] at hL
        by_cases hlk : lng G n i = left
        · have hlk' : (lng G n i : Int) = left := by omega
          cases last with
          | none =>
            rw [if_pos ⟨hlk, rfl⟩] at hL
            simp [-Int.natCast_add, e1, e2, e6, e11, e12, e13, e14, e15, hlt, hil, hxf, hA3, hcl, hgi, hgi', encIx, hlk, hlk', hT3, ← hnn, lastI]
            refine ⟨by decide, ?_⟩
            refine callS.pure (.int .i64 0) (fun c => by cases c) ?_
            simp [-Int.natCast_add, e1, e2, e6, e11, e12, e13, e14, e15, hxf, ewi, lastI]
            exact ⟨i + 1, by omega, by omega, by omega, by simp [nextC], i, rfl, rfl, hlk, hL⟩
          | some k =>
            have hkn := hln k rfl
            have hkl : k < l.length := by omega
            obtain ⟨a, ha, ha'⟩ := get_lt hkl
            have hk0 : ¬ (k : Int) < 0 := by omega
            have hfe : feasM (validT t).net a.point b.point a.time b.time = G k i := by rw [hG]; exact (gL_at ha hb).symm
            simp [-Int.natCast_add, e1, e2, e6, e11, e12, e13, e14, e15, hlt, hil, hxf, hA3, hcl, hgi, hgi', encIx, hlk, hlk', hT3, ← hnn, lastI, hk0, hkl, hkn, ha, ha', hb, hb']
            refine ⟨by decide, ?_⟩
            refine callS.pure _ (fun _ => ref18_Feasible t a b hp hl hs) ?_
            simp [-Int.natCast_add, e1, e2, e6, e11, e12, e13, e14, e15, hxf, ewi, hfe, lastI]
            refine ⟨fun c => ?_, fun c => ?_⟩
            · rw [if_pos ⟨hlk, by simpa [aft] using c⟩] at hL
              exact ⟨i + 1, by omega, by omega, by omega, by omega, i, rfl, rfl, hlk, hL⟩
            · have hna : ¬ (lng G n i = left ∧ aft G (some k) i = true) := fun q => by have := q.2; rw [aft_some] at this; rw [c] at this; cases this
              rw [if_neg hna] at hL
              exact ⟨i + 1, by omega, by omega, by omega, by omega, hE.next hna hl0, hL⟩
        · have hlk' : ¬ (lng G n i : Int) = left := by omega
          have hna : ¬ (lng G n i = left ∧ aft G last i = true) := fun q => hlk q.1
          rw [if_neg hna] at hL
          have hbq : ((lng G n i : Int) == (left : Int)) = false := beq_eq_false_iff_ne.2 hlk'
          simp [-Int.natCast_add, e1, e2, e6, e11, e12, e13, e14, e15, hlt, hil, hxf, hA3, hcl, hgi, hgi', encIx, hlk, hlk', hT3, ← hnn, hbq]
          refine ⟨by decide, ?_⟩
          refine callS.pure (.int .i64 0) (fun c => by cases c) ?_
          simp [-Int.natCast_add, e1, e2, e6, e11, e12, e13, e14, e15, hxf, ewi, hbq, hlk, hlk']
          exact ⟨i + 1, by omega, by omega, by omega, by omega, hE.next hna hl0, hL⟩
      · have hkn : k < n := by omega
        have hk0 : ¬ (k : Int) < 0 := by omega
        have ewl : IntKind.i64.wrap ((left : Int) - 1) = ((left - 1 : Nat) : Int) := by rw [wrap64_of (by omega) (by omega)]; omega
        have hEx : Exs G n (k + 1) (some k) (left - 1) := Exs.pick hkn hlk
        have hgl : (O ++ [k]).getLast? = some k := by simp
        simp [-appendOk, -appendK, -acells, -AV.solid, -Int.natCast_add, e1, e2, e6, e11, e12, e13, e14, e15, hxf, hk0, ← hnn]
        refine append_new (lo := p + 1) (n := 1) (es := O.map encIx) (ys := [encIx k]) (by simpa [encIx] using hx.more _) (by simp; omega) (by simp [appOk, encIx]) (by simp; omega) ?_
        intro s1 H1 hs1 hg1 hn1
        have hs1f := hs1.rs.fix
        have hk1 : ∀ b o, b < p + 1 → H'[b]? = some o → H1[b]? = some o := fun b o hb ho => hg1.keep b o (at_more ho _) fun off len e => by have := hx.above _ _ _ e; omega
        have hB1 := hg1.base h (by omega) (base_more hB _)
        have hl1' := hg1.len
        simp [-appendOk, -appendK, -acells, -AV.solid, -Int.natCast_add, e1, e2, e6, e12, e13, e14, e15, hs1f, ewl]
        simp at hl1'
        exact ⟨left - 1, by omega, hk1 _ _ (by omega) hA, hk1 _ _ (by omega) hT, hB1, by omega, rfl, by omega, O ++ [k], by rw [hgl]; rfl, by simpa [encIx] using hs1, fun z hz => by rcases List.mem_append.1 hz with q | q; exact hO z q; rw [List.mem_singleton.1 q]; exact hkn, by simp; omega, by rw [hgl]; exact hEx, by rw [hgl, hL, List.append_assoc]; rfl⟩
end Go.Proofs.Ytjdchnbjegddhaa
