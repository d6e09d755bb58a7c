/-
  Contracts: the small functions of the laws of chains, and the example.
-/
import Derived.Test.YtjdchnbjegddhaaChainD
import Derived.Test.YtjdchnbjegddhaaPass17
import Derived.Test.YtjdchnbjegddhaaTollChainL
set_option linter.unusedVariables false
set_option linter.unusedSimpArgs false
set_option maxRecDepth 100000
namespace Go.Proofs.Ytjdchnbjegddhaa
open Go Go.Abs Go.Toll
variable {gl : Globs} {h : AHeap}

theorem ix_n (l : List Nat) : ∀ e ∈ l.map encIx, e.length = 1 := by
  intro e he
  obtain ⟨m, _, rfl⟩ := List.mem_map.1 he
  rfl
theorem exc_n (l : List TExc) : ∀ e ∈ l.map encExc, e.length = 2 := by
  intro e he
  obtain ⟨m, _, rfl⟩ := List.mem_map.1 he
  rfl
theorem law_same (a b : List Nat) (hl : a.length ≤ 1000000) (x y : AV) (hx : Rs 1 h x (a.map encIx)) (hy : Rs 1 h y (b.map encIx)) : ACalls Try.prog gl 15 [x, y] h fun v h' => v = .bool (decide (a = b)) ∧ h' = h := by
  refine ACalls.data (.bool _) (ACalls.body Try.f15 _ mixed Try.func15 rfl rfl (by simp [Try.ntmps15]) ?_)
  have fx := hx.fix
  have fy := hy.fix
  simp [fx, fy, hx.len2, hy.len2]
  refine ⟨fun q e => by rw [e] at q; exact q rfl, fun q => ?_⟩
  have q : a.length = b.length := by omega
  refine AWP.up mixed a.length (fun i fr h' => fr 0 = x ∧ fr 1 = y ∧ fr 12 = .int .i64 a.length ∧ fr 13 = .int .i64 i ∧ (a = b ↔ a.drop i = b.drop i) ∧ h' = h) 0 (by omega) ⟨by simp, by simp, by simp, by simp, by simp, by simp⟩ ?_
  rintro i fr h' hi ⟨e0, e1, e12, e13, hf, rfl⟩
  rcases Nat.lt_or_ge i a.length with hlt | hge
  · obtain ⟨s, hs, hs'⟩ := get_lt hlt
    obtain ⟨t, ht, ht'⟩ := get_lt (l := b) (i := i) (by omega)
    rw [drop_get hs, drop_get ht] at hf
    have ew := wrap_succ' (i := i) (by omega)
    have rx := Rs.ix Try.prog hx i (by omega) (y := [.int .i64 s]) (by simp [hs, encIx])
    have ry := Rs.ix Try.prog hy i (by omega) (y := [.int .i64 t]) (by simp [ht, encIx])
    simp [e0, e1, e12, e13, hlt, fx, fy, hx.len2, hy.len2, rx, ry, ew]
    refine ⟨by decide, fun hne e => hne ?_, fun he => ⟨i + 1, by omega, by omega, by omega, ?_⟩⟩
    · have := (List.cons.inj (hf.1 e)).1; omega
    · have : s = t := by omega
      subst this
      rw [hf]
      exact ⟨fun e => (List.cons.inj e).2, fun e => by rw [e]⟩
  · have e : a = b := by rw [hf, List.drop_eq_nil_of_le hge, List.drop_eq_nil_of_le (by omega)]
    have hge' : ¬ (i : Int) < a.length := by omega
    simp [e0, e1, e12, e13, hge', Nat.not_lt.2 hge, fx, fy, hx.len2]
    exact e
theorem law_sameEx (a : List TExc) (hl : a.length ≤ 1000000) : ACalls Try.prog gl 21 [.ro (a.map encExc), .ro (a.map encExc)] h fun v h' => v = .bool true ∧ h' = h := by
  refine ACalls.data (.bool _) (ACalls.body Try.f21 _ mixed Try.func21 rfl rfl (by simp [Try.ntmps21]) ?_)
  simp
  refine AWP.up mixed a.length (fun i fr h' => fr 0 = .ro (a.map encExc) ∧ fr 1 = .ro (a.map encExc) ∧ fr 12 = .int .i64 a.length ∧ fr 13 = .int .i64 i ∧ h' = h) 0 (by omega) ⟨by simp, by simp, by simp, by simp, by simp⟩ ?_
  rintro i fr h' hi ⟨e0, e1, e12, e13, rfl⟩
  rcases Nat.lt_or_ge i a.length with hlt | hge
  · obtain ⟨s, hs, hs'⟩ := get_lt hlt
    have ew := wrap_succ' (i := i) (by omega)
    simp [e0, e1, e12, e13, hlt, hs, hs', encExc, ew]
    exact ⟨by decide, i + 1, by omega, by omega, by omega⟩
  · have hge' : ¬ (i : Int) < a.length := by omega
    simp [e0, e1, e12, e13, hge', Nat.not_lt.2 hge]
theorem law_before (a b : List Nat) (hl : a.length ≤ 1000000) (x y : AV) (hx : Rs 1 h x (a.map encIx)) (hy : Rs 1 h y (b.map encIx)) : ACalls Try.prog gl 24 [x, y] h fun v h' => v = .bool (lexB a b) ∧ h' = h := by
  refine ACalls.data (.bool _) (ACalls.body Try.f24 _ mixed Try.func24 rfl rfl (by simp [Try.ntmps24]) ?_)
  have fx := hx.fix
  have fy := hy.fix
  simp [fx, fy, hx.len2, hy.len2]
  refine AWP.up mixed a.length (fun i fr h' => fr 0 = x ∧ fr 1 = y ∧ fr 5 = .int .i64 i ∧ lexB a b = lexB (a.drop i) (b.drop i) ∧ h' = h) 0 (by omega) ⟨by simp, by simp, by simp, by simp, by simp⟩ ?_
  rintro i fr h' hi ⟨e0, e1, e5, hf, rfl⟩
  by_cases hlt : i < a.length ∧ i < b.length
  · obtain ⟨s, hs, hs'⟩ := get_lt hlt.1
    obtain ⟨t, ht, ht'⟩ := get_lt hlt.2
    rw [lexB_step hs ht] at hf
    have hl1 := hlt.1
    have hl2 := hlt.2
    have ew := wrap_succ' (i := i) (by omega)
    have rx := Rs.ix Try.prog hx i (by omega) (y := [.int .i64 s]) (by simp [hs, encIx])
    have ry := Rs.ix Try.prog hy i (by omega) (y := [.int .i64 t]) (by simp [ht, encIx])
    simp [e0, e1, e5, hl1, hl2, fx, fy, hx.len2, hy.len2, rx, ry, ew]
    refine ⟨by decide, fun hne => ⟨by decide, ?_⟩, fun he => ⟨i + 1, by omega, by omega, by omega, ?_⟩⟩
    · rw [hf, if_pos (by omega)]
    · rw [hf, if_neg (by omega)]
  · have he : a.length ≤ i ∨ b.length ≤ i := by omega
    rw [lexB_end he] at hf
    by_cases c : i < a.length
    · have c2 : ¬ i < b.length := fun q => hlt ⟨c, q⟩
      simp [e0, e1, e5, c, c2, fx, fy, hx.len2, hy.len2, hf]
    · simp [e0, e1, e5, c, fx, fy, hx.len2, hy.len2, hf]
def badP (t : Topo) (p : TPass) : Bool := decide (p.time < 0 ∨ 68719476736 ≤ p.time ∨ kindOf t p.point = 0 ∨ 100 < p.sources.length)
def anyBad (t : Topo) (l : List TPass) : Bool := l.any (badP t)
theorem anyBad_cons (t : Topo) (p : TPass) (l : List TPass) : anyBad t (p :: l) = (badP t p || anyBad t l) := rfl
def outB (t : Topo) (l : List TPass) : Bool := decide (20 < t.net.pts.length ∨ 60 < t.net.lks.length ∨ 20 < t.sys.length ∨ 10 < l.length ∨ topoErr t ≠ 0) || anyBad t l
theorem outB_no {t : Topo} {l : List TPass} (h : outB t l = false) : t.net.pts.length ≤ 20 ∧ t.net.lks.length ≤ 60 ∧ t.sys.length ≤ 20 ∧ l.length ≤ 10 ∧ topoErr t = 0 ∧ ∀ p ∈ l, isTimeB p.time = true ∧ p.sources.length ≤ 100 := by
  unfold outB at h
  rw [Bool.or_eq_false_iff] at h
  obtain ⟨h1, h2⟩ := h
  have h1 := of_decide_eq_false h1
  refine ⟨by omega, by omega, by omega, by omega, by omega, fun p hp => ?_⟩
  have h3 := List.any_eq_false.1 h2 p hp
  have h3 : ¬ (p.time < 0 ∨ 68719476736 ≤ p.time ∨ kindOf t p.point = 0 ∨ 100 < p.sources.length) := by simpa [badP] using h3
  refine ⟨?_, by omega⟩
  unfold isTimeB
  simp
  omega
set_option maxHeartbeats 2000000 in
theorem law_outside (t : Topo) (l : List TPass) : ACalls Try.prog gl 9 [.agg (encTopo t), .ro (l.map encPass)] h fun v h' => v = .bool (outB t l) ∧ h' = h := by
  refine ACalls.data (.bool _) (ACalls.body Try.f9 _ mixed Try.func9 rfl rfl (by simp [Try.ntmps9]) ?_)
  have no : ∀ x : Prop, x → (20 < t.net.pts.length ∨ 60 < t.net.lks.length ∨ 20 < t.sys.length ∨ 10 < l.length ∨ topoErr t ≠ 0) → outB t l = true := fun _ _ q => by unfold outB; rw [decide_eq_true q]; rfl
  have triv : ∀ {P : Prop}, (false = true → P) := fun c => by cases c
  by_cases c1 : 20 < t.net.pts.length
  · have hB := no True trivial (.inl c1)
    have d1 : (20 : Int) < t.net.pts.length := by omega
    simp [c1, d1, hB]
    refine callS.pure (.int .i64 0) (fun c => by cases c) ?_
    simp
  by_cases c2 : 60 < t.net.lks.length
  · have hB := no True trivial (.inr (.inl c2))
    have d1 : ¬ (20 : Int) < t.net.pts.length := by omega
    have d2 : (60 : Int) < t.net.lks.length := by omega
    simp [c1, d1, c2, d2, hB]
    refine callS.pure (.int .i64 0) (fun c => by cases c) ?_
    simp
  by_cases c3 : 20 < t.sys.length
  · have hB := no True trivial (.inr (.inr (.inl c3)))
    have d1 : ¬ (20 : Int) < t.net.pts.length := by omega
    have d2 : ¬ (60 : Int) < t.net.lks.length := by omega
    have d3 : (20 : Int) < t.sys.length := by omega
    simp [c1, d1, c2, d2, c3, d3, hB]
    refine callS.pure (.int .i64 0) (fun c => by cases c) ?_
    simp
  by_cases c4 : 10 < l.length
  · have hB := no True trivial (.inr (.inr (.inr (.inl c4))))
    have d1 : ¬ (20 : Int) < t.net.pts.length := by omega
    have d2 : ¬ (60 : Int) < t.net.lks.length := by omega
    have d3 : ¬ (20 : Int) < t.sys.length := by omega
    have d4 : (10 : Int) < l.length := by omega
    simp [c1, d1, c2, d2, c3, d3, c4, d4, hB]
    refine callS.pure (.int .i64 0) (fun c => by cases c) ?_
    simp
  have d1 : ¬ (20 : Int) < t.net.pts.length := by omega
  have d2 : ¬ (60 : Int) < t.net.lks.length := by omega
  have d3 : ¬ (20 : Int) < t.sys.length := by omega
  have d4 : ¬ (10 : Int) < l.length := by omega
  simp [c1, d1, c2, d2, c3, d3, c4, d4]
  refine callS.pure _ (fun _ => ref18_Check t (by omega) (by omega) (by omega)) ?_
  by_cases c5 : topoErr t = 0
  · have hB : outB t l = anyBad t l := by unfold outB; rw [decide_eq_false (by omega)]; rfl
    simp [c5, hB]
    refine AWP.up mixed l.length (fun i fr H => fr 2 = .ptr h.length 0 0 ∧ fr 35 = .ro (l.map encPass) ∧ fr 36 = .int .i64 l.length ∧ fr 37 = .int .i64 i ∧ anyBad t l = anyBad t (l.drop i) ∧ H[h.length]? = some (.cells 3 [encTopo t]) ∧ ∃ g, H = h ++ g) 0 (by omega) ⟨by simp, by simp, by simp, by simp, by simp, by simp, by simp⟩ ?_
    rintro i fr H hi ⟨e2, e35, e36, e37, hf, hT, hBs⟩
    have hT3 := at3 hT
    simp only [encTopo] at hT3
    rcases Nat.lt_or_ge i l.length with hlt | hge
    · obtain ⟨p, hp, hp'⟩ := get_lt hlt
      rw [drop_get hp, anyBad_cons] at hf
      have ew := wrap_succ' (i := i) (by omega)
      have hbd : badP t p = decide (p.time < 0 ∨ 68719476736 ≤ p.time ∨ kindOf t p.point = 0 ∨ 100 < p.sources.length) := rfl
      by_cases k1 : p.time < 0
      · simp [e2, e35, e36, e37, hlt, hp, hp', hT3, k1]
        refine callS.pure (.int .i64 0) (fun c => by cases c) ?_
        simp
        exact ⟨by rw [hf, hbd, decide_eq_true (.inl k1)]; rfl, base_more hBs _⟩
      by_cases k2 : 68719476736 ≤ p.time
      · simp [e2, e35, e36, e37, hlt, hp, hp', hT3, k1, k2]
        refine callS.pure (.int .i64 0) (fun c => by cases c) ?_
        simp
        exact ⟨by rw [hf, hbd, decide_eq_true (.inr (.inl k2))]; rfl, base_more hBs _⟩
      simp [e2, e35, e36, e37, hlt, hp, hp', hT3, k1, k2]
      refine callS.pure _ (fun _ => ref18_Kind t p.point (by omega) (by omega) (by omega)) ?_
      by_cases k3 : kindOf t p.point = 0
      · simp [e2, e35, e36, e37, hlt, hp, hp', hT3, k1, k2, k3]
        exact ⟨by rw [hf, hbd, decide_eq_true (.inr (.inr (.inl k3)))]; rfl, base_more hBs _⟩
      by_cases k4 : 100 < p.sources.length
      · have k4' : (100 : Int) < p.sources.length := by omega
        simp [e2, e35, e36, e37, hlt, hp, hp', hT3, k1, k2, k3, k4, k4']
        exact ⟨by rw [hf, hbd, decide_eq_true (.inr (.inr (.inr k4)))]; rfl, base_more hBs _⟩
      · have k4' : ¬ (100 : Int) < p.sources.length := by omega
        simp [e2, e35, e36, e37, hlt, hp, hp', hT3, k1, k2, k3, k4, k4', ew]
        exact ⟨i + 1, by omega, by omega, by omega, by rw [hf, hbd, decide_eq_false (by omega)]; rfl, base_more hBs _⟩
    · rw [List.drop_eq_nil_of_le hge] at hf
      have hge' : ¬ (i : Int) < l.length := by omega
      simp [e2, e35, e36, e37, hge', Nat.not_lt.2 hge, hf]
      exact ⟨rfl, hBs⟩
  · have hB := no True trivial (.inr (.inr (.inr (.inr c5))))
    simp [c5, hB]
theorem aw_split : ∃ L : List (List AV), L.length = 3 ∧ ∀ H : AHeap, ACalls Try.prog gl 16 [.agg (encTopo cT), .ro (cL.map encPass)] H fun v h' => v = .tup [.ro L, .ro [encExc ⟨[51], 9⟩]] ∧ h' = H := by
  refine ⟨(inI [0, 1, 3] cL 4).map encPass, by rw [List.length_map]; exact cL_in, fun H => ?_⟩
  have := chain_Split (gl := gl) (h := H) cT cL (fun p hp => ⟨(cL_ok p hp).1, (cL_ok p hp).2.1⟩) (by decide) (by decide) (by decide) (by decide)
  unfold splitV at this
  rw [cT_valid, cL_lng] at this
  have e : outI [0, 1, 3] cL cL.length = [⟨[51], 9⟩] := cL_out
  rw [e] at this
  exact this
theorem aw_long : ACalls Try.prog gl 18 [.agg (encTopo cT), .ro (cL.map encPass)] h fun v h' => v = .ro ([0, 1, 3].map encIx) ∧ h' = h := by
  have := chain_Longest (gl := gl) (h := h) cT cL (by decide) (by decide) (by decide) (by decide)
  rw [cT_valid, cL_lng] at this
  exact this
theorem aw_feasL : ACalls Try.prog gl 13 [.agg (encTopo cT), .ro (cL.map encPass)] h fun v h' => v = .bool false ∧ h' = h := by
  have := chain_Feasible (gl := gl) (h := h) cT cL _ (Rs.ro (pass_n cL)) (by decide) (by decide) (by decide) (by decide)
  rw [cT_valid, cL_chn] at this
  exact this
theorem aw_feasM : ACalls Try.prog gl 13 [.agg (encTopo cT), .ro (cM.map encPass)] h fun v h' => v = .bool true ∧ h' = h := by
  have := chain_Feasible (gl := gl) (h := h) cT cM _ (Rs.ro (pass_n cM)) (by decide) (by decide) (by decide) (by decide)
  rw [cT_valid, cM_chn] at this
  exact this
theorem aw_seg0 : ∃ L : List (List AV), L.length = 2 ∧ ∀ H : AHeap, ACalls Try.prog gl 22 [.agg (encTopo cT), .ro (cM.map encPass), .int .i64 0] H fun v h' => v = .ro L ∧ h' = H :=
  ⟨_, by simpa using cM_s0, fun H => chain_Segments (gl := gl) (h := H) cT cT_err cM 0 cM_ok (by decide) (by decide) (by decide)⟩
theorem aw_seg1 : ∃ L : List (List AV), L.length = 1 ∧ ∀ H : AHeap, ACalls Try.prog gl 22 [.agg (encTopo cT), .ro (cM.map encPass), .int .i64 50] H fun v h' => v = .ro L ∧ h' = H :=
  ⟨_, by simpa using cM_s1, fun H => chain_Segments (gl := gl) (h := H) cT cT_err cM 50 cM_ok (by decide) (by decide) (by decide)⟩
theorem aw_fol : ∃ L : List (List AV), L.length = 4 ∧ ∀ H : AHeap, ACalls Try.prog gl 11 [.agg (encTopo cT), .ro (cL.map encPass)] H fun v h' => v = .ro L ∧ h' = H :=
  ⟨_, rowsF_len _ _ 4, fun H => chain_Follows (gl := gl) (h := H) cT cL (by decide) (by decide) (by decide) (by decide)⟩
/-- A passage without sources, as it is built. -/
def encPass0 (p : TPass) : List AV := [.str p.id, .str p.point, .int .i64 p.time, .str p.tag, .str p.plate, .int .i64 p.cls, .int .i64 p.score, .nil]
theorem frz_pass0 {ks : List Nat} {H : AHeap} {b : Nat} (l : List TPass) (hs : ∀ p ∈ l, p.sources = []) (hb : H[b]? = some (.cells 8 (l.map encPass0))) (hk : b ∈ ks) : FrzK ks H (.own b 0 l.length) (.ro (l.map encPass)) := by
  have get : ∀ (i : Nat) (e e' : List AV), (l.map encPass0)[0 + i]? = some e → (l.map encPass)[i]? = some e' → ∃ p ∈ l, e = encPass0 p ∧ e' = encPass p := by
    intro i e e' h1 h2
    rw [Nat.zero_add] at h1
    rw [List.getElem?_map, Option.map_eq_some_iff] at h1 h2
    obtain ⟨p, hp, rfl⟩ := h1
    obtain ⟨q, hq, rfl⟩ := h2
    rw [hp] at hq
    injection hq with hq
    subst hq
    exact ⟨p, List.mem_of_getElem? hp, rfl, rfl⟩
  refine .own b 0 l.length 8 _ _ hk hb (by simp) (by simp) (fun i e e' h1 h2 => ?_) (fun i e e' c x x' h1 h2 h3 h4 => ?_)
  · obtain ⟨p, _, rfl, rfl⟩ := get i e e' h1 h2
    rfl
  · obtain ⟨p, hp, rfl, rfl⟩ := get i e e' h1 h2
    have hsp := hs p hp
    have hc : c < 8 := by have := lt_of_get h3; simpa [encPass0] using this
    rcases (by omega : c = 0 ∨ c = 1 ∨ c = 2 ∨ c = 3 ∨ c = 4 ∨ c = 5 ∨ c = 6 ∨ c = 7) with q | q | q | q | q | q | q | q
    all_goals subst q
    all_goals simp [encPass0] at h3 h4
    all_goals subst h3
    all_goals subst h4
    all_goals try exact .same _
    rw [hsp]; exact .nil
theorem frz_cells3 {ks : List Nat} {H : AHeap} {x1 x2 x3 y1 y2 y3 : AV} (f1 : FrzK ks H x1 y1) (f2 : FrzK ks H x2 y2) (f3 : FrzK ks H x3 y3) :
    (∀ (i : Nat) (e e' : List AV), [[x1, x2, x3]][i]? = some e → [[y1, y2, y3]][i]? = some e' → e'.length = e.length) ∧
    ∀ (i : Nat) (e e' : List AV) (c : Nat) (x x' : AV), [[x1, x2, x3]][i]? = some e → [[y1, y2, y3]][i]? = some e' → e[c]? = some x → e'[c]? = some x' → FrzK ks H x x' := by
  refine ⟨fun i e e' h1 h2 => ?_, fun i e e' c x x' h1 h2 h3 h4 => ?_⟩
  · cases i with
    | zero => simp at h1 h2; subst h1; subst h2; rfl
    | succ i => simp at h1
  · cases i with
    | succ i => simp at h1
    | zero =>
      simp at h1 h2
      subst h1; subst h2
      have hc : c < 3 := by have := lt_of_get h3; simpa using this
      rcases (by omega : c = 0 ∨ c = 1 ∨ c = 2) with q | q | q
      all_goals subst q
      all_goals simp at h3 h4
      all_goals subst h3
      all_goals subst h4
      all_goals assumption
set_option maxHeartbeats 8000000 in
theorem law_awake : ACalls Try.prog gl 10 [] h fun v h' => v = .bool true ∧ h' = h := by
  refine ACalls.data (.bool _) (ACalls.bodyF 3 Try.f10 _ mixed Try.func10 rfl rfl (by simp [Try.ntmps10]) ?_)
  simp [-aops_cons]
  repeat (rw [aops_cons]; simp [-aops_cons])
  have hf := frz_cells3 (ks := [h.length, h.length + 1, h.length + 3]) (H := h ++ [.cells 3 (cT.net.pts.map encPt), .cells 4 (cT.net.lks.map encLk), .cells 3 [[AV.own h.length 0 3, AV.own (h.length + 1) 0 2, AV.nil]], .cells 8 (cL.map encPass0)])
    (x1 := .own h.length 0 3) (x2 := .own (h.length + 1) 0 2) (x3 := .nil) (y1 := .ro (cT.net.pts.map encPt)) (y2 := .ro (cT.net.lks.map encLk)) (y3 := .ro [])
    (FrzK.all (m := 3) (es := cT.net.pts.map encPt) (by simp) (by simp)) (FrzK.all (m := 4) (es := cT.net.lks.map encLk) (by simp) (by simp)) .nil
  generalize hfr : (setd _ _ _ : AFrame) = fr0
  have e2 : fr0 2 = .own (h.length + 3) 0 4 := by rw [← hfr]; simp
  have e1 : fr0 1 = .ptr (h.length + 2) 0 0 := by rw [← hfr]; simp
  clear hfr
  refine AWP.freezeH (n := 3) (fr' := fun t => if t = 2 then .ro (cL.map encPass) else fr0 t) [h.length, h.length + 1, h.length + 3] (b := h.length + 2) (es := [[AV.own h.length 0 3, AV.own (h.length + 1) 0 2, AV.nil]]) (es' := [encTopo cT]) (by simp) (by simp) rfl hf.1 hf.2 (fun t => ?_) ?_
  · by_cases e : t = 2
    · subst e
      rw [if_pos rfl, e2]
      exact frz_pass0 cL (by simp [cL]) (by simp [cL, encPass0]) (by simp)
    · rw [if_neg e]; exact .same _
  generalize hH : List.set (killL _ _) _ _ = H0
  have hT : H0[h.length + 2]? = some (.cells 3 [encTopo cT]) := by rw [← hH]; exact List.getElem?_set_self (by rw [killL_len]; simp)
  have hB : ∃ g, H0 = h ++ g := by
    rw [← hH]
    obtain ⟨g, hg⟩ := killL_base [h.length, h.length + 1, h.length + 3] h [.cells 3 (cT.net.pts.map encPt), .cells 4 (cT.net.lks.map encLk), .cells 3 [[AV.own h.length 0 3, AV.own (h.length + 1) 0 2, AV.nil]], .cells 8 (cL.map encPass0)] (by simp)
    exact base_set ⟨g, hg⟩ (by omega) _
  clear hH
  generalize hfr : (fun t => if t = 2 then AV.ro (cL.map encPass) else fr0 t) = fr1
  have g2 : fr1 2 = .ro (cL.map encPass) := by rw [← hfr]; simp
  have g1 : fr1 1 = .ptr (h.length + 2) 0 0 := by rw [← hfr]; simp [e1]
  clear hfr e1 e2 fr0
  obtain ⟨L1, hL1, c1⟩ := aw_split (gl := gl)
  obtain ⟨L2, hL2, c2⟩ := aw_seg0 (gl := gl)
  obtain ⟨L3, hL3, c3⟩ := aw_seg1 (gl := gl)
  obtain ⟨L4, hL4, c4⟩ := aw_fol (gl := gl)
  have c5 := fun H : AHeap => aw_long (gl := gl) (h := H)
  have c6 := fun H : AHeap => aw_feasL (gl := gl) (h := H)
  have c7 := fun H : AHeap => aw_feasM (gl := gl) (h := H)
  have hT3 := at3 hT
  have hHl := hT3.2.1
  refine AWP.of_awpF (s := 5) mixed _ _ _ _ ?_
  obtain ⟨cells, hcells⟩ : ∃ cells, cells = cL.map encPass := ⟨_, rfl⟩
  rw [← hcells] at g2 c1 c4 c5 c6
  generalize cT = T at *
  simp only [encTopo] at hT3
  simp [-aops_cons, g1, g2, hT3]
  repeat (rw [aops_cons]; simp [-aops_cons, g1, g2, hT3])
  refine callS.pure _ (fun _ => c1 _) ?_
  simp [-aops_cons, g1, g2, hT3]
  repeat (rw [aops_cons]; simp [-aops_cons, g1, g2, hT3])
  generalize hfr : (setd _ _ _ : AFrame) = fr2
  have k1 : fr2 1 = .ptr (h.length + 2) 0 0 := by rw [← hfr]; simp [g1]
  have k2 : fr2 2 = .ro cells := by rw [← hfr]; simp [g2]
  have k3 : fr2 3 = .ro L1 := by rw [← hfr]; simp
  have k4 : fr2 4 = .ro [encExc ⟨[51], 9⟩] := by rw [← hfr]; simp
  have k5 : fr2 5 = .own H0.length 0 3 := by rw [← hfr]; simp
  clear hfr g1 g2
  refine AWP.freeze (fr' := fun t => if t = 5 then .ro (cM.map encPass) else fr2 t) [H0.length] (fun t => ?_) ?_
  · by_cases e : t = 5
    · subst e
      rw [if_pos rfl, k5]
      exact frz_pass0 cM (by simp [cM]) (by simp [cM, encPass0]) (by simp)
    · rw [if_neg e]; exact .same _
  generalize hH : killL _ _ = H1
  have hT1 : H1[h.length + 2]? = some (.cells 3 [encTopo T]) := by rw [← hH, killL_keep _ _ _ (by simp; omega)]; exact at_more hT _
  have hB1 : ∃ g, H1 = h ++ g := by
    obtain ⟨g, rfl⟩ := hB
    rw [← hH, List.append_assoc]
    exact killL_base _ _ _ (by simp)
  clear hH hT hT3 hB hHl
  generalize hfr : (fun t => if t = 5 then AV.ro (cM.map encPass) else fr2 t) = fr3
  have m1 : fr3 1 = .ptr (h.length + 2) 0 0 := by rw [← hfr]; simp [k1]
  have m2 : fr3 2 = .ro cells := by rw [← hfr]; simp [k2]
  have m3 : fr3 3 = .ro L1 := by rw [← hfr]; simp [k3]
  have m4 : fr3 4 = .ro [encExc ⟨[51], 9⟩] := by rw [← hfr]; simp [k4]
  have m5 : fr3 5 = .ro (cM.map encPass) := by rw [← hfr]; simp
  clear hfr k1 k2 k3 k4 k5 fr2
  have hT3 := at3 hT1
  simp only [encTopo] at hT3
  have e1 : L1.length = 3 := hL1
  generalize cM.map encPass = cms at *
  refine AWP.of_awp mixed _ _ _ _ ?_
  have s1 := fun (H : AHeap) (y : AV) (hy : Rs 1 H y ([0, 1, 3].map encIx)) => law_same (gl := gl) (h := H) [0, 1, 3] [0, 1, 3] (by decide) (.ro ([0, 1, 3].map encIx)) y (Rs.ro (ix_n _)) hy
  simp [-aops_cons, m1, m2, m3, m4, m5, hT3, e1, hL2, hL3, hL4, encExc]
  repeat (rw [aops_cons]; simp [-aops_cons, m1, m2, m3, m4, m5, hT3, e1, hL2, hL3, hL4, encExc])
  refine callS.pure _ (fun _ => c5 _) ?_
  simp [-aops_cons, m1, m2, m3, m4, m5, hT3, e1, hL2, hL3, hL4, encExc]
  repeat (rw [aops_cons]; simp [-aops_cons, m1, m2, m3, m4, m5, hT3, e1, hL2, hL3, hL4, encExc])
  refine callS.pure _ (fun _ => s1 _ _ ?_) ?_
  · exact Rs.own (es := [0, 1, 3].map encIx) (by simp [encIx]) (ix_n _)
  simp [-aops_cons, m1, m2, m3, m4, m5, hT3, e1, hL2, hL3, hL4, encExc]
  repeat (rw [aops_cons]; simp [-aops_cons, m1, m2, m3, m4, m5, hT3, e1, hL2, hL3, hL4, encExc])
  refine callS.pure _ (fun _ => c6 _) ?_
  simp [-aops_cons, m1, m2, m3, m4, m5, hT3, e1, hL2, hL3, hL4, encExc]
  repeat (rw [aops_cons]; simp [-aops_cons, m1, m2, m3, m4, m5, hT3, e1, hL2, hL3, hL4, encExc])
  refine callS.pure _ (fun _ => c7 _) ?_
  simp [-aops_cons, m1, m2, m3, m4, m5, hT3, e1, hL2, hL3, hL4, encExc]
  repeat (rw [aops_cons]; simp [-aops_cons, m1, m2, m3, m4, m5, hT3, e1, hL2, hL3, hL4, encExc])
  refine callS.pure _ (fun _ => c2 _) ?_
  simp [-aops_cons, m1, m2, m3, m4, m5, hT3, e1, hL2, hL3, hL4, encExc]
  repeat (rw [aops_cons]; simp [-aops_cons, m1, m2, m3, m4, m5, hT3, e1, hL2, hL3, hL4, encExc])
  refine callS.pure _ (fun _ => c3 _) ?_
  simp [-aops_cons, m1, m2, m3, m4, m5, hT3, e1, hL2, hL3, hL4, encExc]
  repeat (rw [aops_cons]; simp [-aops_cons, m1, m2, m3, m4, m5, hT3, e1, hL2, hL3, hL4, encExc])
  refine callS.pure _ (fun _ => c4 _) ?_
  simp [-aops_cons, m1, m2, m3, m4, m5, hT3, e1, hL2, hL3, hL4, encExc]
  repeat (rw [aops_cons]; simp [-aops_cons, m1, m2, m3, m4, m5, hT3, e1, hL2, hL3, hL4, encExc])
  exact base_more hB1 _
end Go.Proofs.Ytjdchnbjegddhaa
