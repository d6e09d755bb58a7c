/-
  Contracts: the small functions of the laws of the inference.
  Contracts: the example of the laws of the inference.
-/
import Derived.Test.YtiidghfioofpkaaGreatInferA
import Derived.Test.YtiidghfioofpkaaGreatTollInfer
import Derived.Test.YtiidghfioofpkaaGreatSpanMeet
set_option linter.unusedVariables false
set_option linter.unusedSimpArgs false
set_option maxRecDepth 100000

namespace Go.Proofs.YtiidghfioofpkaaGreat
open Go Go.Abs Go.Toll
variable {gl : Globs} {h : AHeap}

def few40 (s : Bytes) : Bool := decide (s.length ≤ 40)
def ptF (p : Pt) : Bool := few40 p.name && few40 p.sys
def lkF (p : Lk) : Bool := few40 p.src && few40 p.dst
def syF (p : TSys) : Bool := few40 p.name
def fewT (t : Topo) : Bool := decide (t.net.pts.length ≤ 40 ∧ t.net.lks.length ≤ 80 ∧ t.sys.length ≤ 40) && t.net.pts.all ptF && t.net.lks.all lkF && t.sys.all syF
theorem fewT_len {t : Topo} (h : fewT t = true) : t.net.pts.length ≤ 40 ∧ t.net.lks.length ≤ 80 ∧ t.sys.length ≤ 40 := by
  simp only [fewT, Bool.and_eq_true, decide_eq_true_eq] at h
  exact h.1.1.1
theorem few40_no {s : Bytes} (h : ¬ s.length ≤ 40) : few40 s = false := decide_eq_false h
theorem few40_yes {s : Bytes} (h : s.length ≤ 40) : few40 s = true := decide_eq_true h
set_option maxHeartbeats 2000000 in
theorem law_few (t : Topo) : ACalls Tryz.prog gl 10 [.agg (encTopo t)] h fun v h' => v = .bool (fewT t) ∧ h' = h := by
  refine ACalls.data (.bool _) (ACalls.body Tryz.f10 _ mixed Tryz.func10 rfl rfl (by simp [Tryz.ntmps10]) ?_)
  have hno : ¬ (t.net.pts.length ≤ 40 ∧ t.net.lks.length ≤ 80 ∧ t.sys.length ≤ 40) → fewT t = false := fun hc => by unfold fewT; rw [decide_eq_false hc]; rfl
  by_cases c1 : t.net.pts.length ≤ 40
  case neg =>
    have d1 : (40 : Int) < t.net.pts.length := by omega
    have hB := hno fun c => c1 c.1
    simp [d1, hB]
  by_cases c2 : t.net.lks.length ≤ 80
  case neg =>
    have d1 : ¬ (40 : Int) < t.net.pts.length := by omega
    have d2 : (80 : Int) < t.net.lks.length := by omega
    have hB := hno fun c => c2 c.2.1
    simp [d1, d2, hB]
  by_cases c3 : t.sys.length ≤ 40
  case neg =>
    have d1 : ¬ (40 : Int) < t.net.pts.length := by omega
    have d2 : ¬ (80 : Int) < t.net.lks.length := by omega
    have d3 : (40 : Int) < t.sys.length := by omega
    have hB := hno fun c => c3 c.2.2
    simp [d1, d2, d3, hB]
  have d1 : ¬ (40 : Int) < t.net.pts.length := by omega
  have d2 : ¬ (80 : Int) < t.net.lks.length := by omega
  have d3 : ¬ (40 : Int) < t.sys.length := by omega
  have hfe : fewT t = (t.net.pts.all ptF && t.net.lks.all lkF && t.sys.all syF) := by unfold fewT; rw [decide_eq_true ⟨c1, c2, c3⟩]; rfl
  simp [d1, d2, d3]
  refine AWP.up mixed t.net.pts.length (fun i fr H => fr 1 = .ptr h.length 0 0 ∧ fr 3 = .int .i64 i ∧ fewT t = ((t.net.pts.drop i).all ptF && t.net.lks.all lkF && t.sys.all syF) ∧ H = h ++ [.cells 3 [encTopo t]]) 0 (by omega) ⟨by simp, by simp, by rw [hfe]; rfl, by simp⟩ ?_
  rintro i fr H hi ⟨e1, e3, hf, rfl⟩
  rcases Nat.lt_or_ge i t.net.pts.length with hlt | hge
  · obtain ⟨p, hp, hp'⟩ := get_lt hlt
    have ew := wrap_succ' (i := i) (by omega)
    rw [drop_get hp, List.all_cons] at hf
    have hpf : ptF p = (few40 p.name && few40 p.sys) := rfl
    by_cases q1 : p.name.length ≤ 40
    · have d4 : ¬ (40 : Int) < p.name.length := by omega
      rw [few40_yes q1] at hpf
      by_cases q2 : p.sys.length ≤ 40
      · have d5 : ¬ (40 : Int) < p.sys.length := by omega
        rw [few40_yes q2] at hpf
        simp [e1, e3, hlt, hp, hp', ew, d4, d5]
        exact ⟨i + 1, by omega, by omega, by omega, by rw [hf, hpf]; rfl⟩
      · have d5 : (40 : Int) < p.sys.length := by omega
        rw [few40_no q2] at hpf
        rw [hpf] at hf
        simp [e1, e3, hlt, hp, hp', ew, d4, d5]
        simpa using hf
    · have d4 : (40 : Int) < p.name.length := by omega
      rw [few40_no q1] at hpf
      rw [hpf] at hf
      simp [e1, e3, hlt, hp, hp', ew, d4]
      simpa using hf
  have hge' : ¬ (i : Int) < t.net.pts.length := by omega
  rw [List.drop_eq_nil_of_le hge] at hf
  simp [e1, e3, hge', Nat.not_lt.2 hge]
  refine AWP.up mixed t.net.lks.length (fun i fr H => fr 1 = .ptr h.length 0 0 ∧ fr 4 = .int .i64 i ∧ fewT t = ((t.net.lks.drop i).all lkF && t.sys.all syF) ∧ H = h ++ [.cells 3 [encTopo t]]) 0 (by omega) ⟨by simp [e1], by simp, by rw [hf]; rfl, by simp⟩ ?_
  clear e1 e3 hf
  rintro i fr H hi ⟨e1, e3, hf, rfl⟩
  rcases Nat.lt_or_ge i t.net.lks.length with hlt | hge
  · obtain ⟨p, hp, hp'⟩ := get_lt hlt
    have ew := wrap_succ' (i := i) (by omega)
    rw [drop_get hp, List.all_cons] at hf
    have hpf : lkF p = (few40 p.src && few40 p.dst) := rfl
    by_cases q1 : p.src.length ≤ 40
    · have d4 : ¬ (40 : Int) < p.src.length := by omega
      rw [few40_yes q1] at hpf
      by_cases q2 : p.dst.length ≤ 40
      · have d5 : ¬ (40 : Int) < p.dst.length := by omega
        rw [few40_yes q2] at hpf
        simp [e1, e3, hlt, hp, hp', ew, d4, d5]
        exact ⟨i + 1, by omega, by omega, by omega, by rw [hf, hpf]; rfl⟩
      · have d5 : (40 : Int) < p.dst.length := by omega
        rw [few40_no q2] at hpf
        rw [hpf] at hf
        simp [e1, e3, hlt, hp, hp', ew, d4, d5]
        simpa using hf
    · have d4 : (40 : Int) < p.src.length := by omega
      rw [few40_no q1] at hpf
      rw [hpf] at hf
      simp [e1, e3, hlt, hp, hp', ew, d4]
      simpa using hf
  have hge' : ¬ (i : Int) < t.net.lks.length := by omega
  rw [List.drop_eq_nil_of_le hge] at hf
  simp [e1, e3, hge', Nat.not_lt.2 hge]
  refine AWP.up mixed t.sys.length (fun i fr H => fr 1 = .ptr h.length 0 0 ∧ fr 5 = .int .i64 i ∧ fewT t = (t.sys.drop i).all syF ∧ H = h ++ [.cells 3 [encTopo t]]) 0 (by omega) ⟨by simp [e1], by simp, by rw [hf]; rfl, by simp⟩ ?_
  clear e1 e3 hf
  rintro i fr H hi ⟨e1, e3, hf, rfl⟩
  rcases Nat.lt_or_ge i t.sys.length with hlt | hge
  · obtain ⟨p, hp, hp'⟩ := get_lt hlt
    have ew := wrap_succ' (i := i) (by omega)
    rw [drop_get hp, List.all_cons] at hf
    have hpf : syF p = few40 p.name := rfl
    by_cases q1 : p.name.length ≤ 40
    · have d4 : ¬ (40 : Int) < p.name.length := by omega
      rw [few40_yes q1] at hpf
      simp [e1, e3, hlt, hp, hp', ew, d4]
      exact ⟨i + 1, by omega, by omega, by omega, by rw [hf, hpf]; rfl⟩
    · have d4 : (40 : Int) < p.name.length := by omega
      rw [few40_no q1] at hpf
      rw [hpf] at hf
      simp [e1, e3, hlt, hp, hp', ew, d4]
      simpa using hf
  have hge' : ¬ (i : Int) < t.sys.length := by omega
  rw [List.drop_eq_nil_of_le hge] at hf
  simp [e1, e3, hge', Nat.not_lt.2 hge]
  simpa using hf

def pfB (p : TPass) : Bool := decide (p.point.length ≤ 40 ∧ p.id.length ≤ 80)
def someB (l : List TPass) : Bool := l.all pfB && decide (l.length ≤ 12)
theorem someB_len {l : List TPass} (h : someB l = true) : l.length ≤ 12 := by
  simp only [someB, Bool.and_eq_true, decide_eq_true_eq] at h
  exact h.2
theorem law_some (l : List TPass) (x : AV) (hx : Rs 8 h x (l.map encPass)) (hl : l.length ≤ 9223372036854775807) : ACalls Tryz.prog gl 11 [x] h fun v h' => v = .bool (someB l) ∧ h' = h := by
  refine ACalls.data (.bool _) (ACalls.body Tryz.f11 _ mixed Tryz.func11 rfl rfl (by simp [Tryz.ntmps11]) ?_)
  have fx := hx.fix
  have lx := hx.len2
  simp [fx, lx]
  refine AWP.up mixed l.length (fun i fr H => fr 0 = x ∧ fr 3 = .int .i64 i ∧ someB l = ((l.drop i).all pfB && decide (l.length ≤ 12)) ∧ H = h) 0 (by omega) ⟨by simp, by simp, rfl, rfl⟩ ?_
  rintro i fr H hi ⟨e0, e3, hf, rfl⟩
  rcases Nat.lt_or_ge i l.length with hlt | hge
  · obtain ⟨p, hp, hp'⟩ := get_lt hlt
    have ew := wrap_succ' (i := i) (by omega)
    have rx := Rs.ix Tryz.prog hx i (by omega) (y := encPass p) (by simp [hp])
    simp only [encPass] at rx
    rw [drop_get hp, List.all_cons] at hf
    have hpf : pfB p = decide (p.point.length ≤ 40 ∧ p.id.length ≤ 80) := rfl
    by_cases q1 : p.point.length ≤ 40
    · have d4 : ¬ (40 : Int) < p.point.length := by omega
      by_cases q2 : p.id.length ≤ 80
      · have d5 : ¬ (80 : Int) < p.id.length := by omega
        rw [decide_eq_true ⟨q1, q2⟩] at hpf
        simp [e0, e3, hlt, fx, lx, rx, ew, d4, d5]
        exact ⟨i + 1, by omega, by omega, by omega, by rw [hf, hpf]; rfl⟩
      · have d5 : (80 : Int) < p.id.length := by omega
        rw [decide_eq_false fun c => q2 c.2] at hpf
        rw [hpf] at hf
        simp [e0, e3, hlt, fx, lx, rx, ew, d4, d5]
        simpa using hf
    · have d4 : (40 : Int) < p.point.length := by omega
      rw [decide_eq_false fun c => q1 c.1] at hpf
      rw [hpf] at hf
      simp [e0, e3, hlt, fx, lx, rx, ew, d4]
      simpa using hf
  have hge' : ¬ (i : Int) < l.length := by omega
  rw [List.drop_eq_nil_of_le hge] at hf
  by_cases q : l.length ≤ 12
  · have q' : (l.length : Int) ≤ 12 := by omega
    simp [e0, e3, hge', Nat.not_lt.2 hge, fx, lx, q']
    simpa [q] using hf
  · have q' : ¬ (l.length : Int) ≤ 12 := by omega
    simp [e0, e3, hge', Nat.not_lt.2 hge, fx, lx, q']
    simpa [q] using hf
def short40 (l : List Bytes) : Bool := l.all few40 && decide (l.length ≤ 40)
theorem short40_len {l : List Bytes} (h : short40 l = true) : l.length ≤ 40 := by
  simp only [short40, Bool.and_eq_true, decide_eq_true_eq] at h
  exact h.2
theorem law_short (l : List Bytes) (hl : l.length ≤ 9223372036854775807) : ACalls Tryz.prog gl 16 [.ro (l.map encT)] h fun v h' => v = .bool (short40 l) ∧ h' = h := by
  refine ACalls.data (.bool _) (ACalls.body Tryz.f16 _ mixed Tryz.func16 rfl rfl (by simp [Tryz.ntmps16]) ?_)
  simp
  refine AWP.up mixed l.length (fun i fr H => fr 0 = .ro (l.map encT) ∧ fr 3 = .int .i64 i ∧ short40 l = ((l.drop i).all few40 && decide (l.length ≤ 40)) ∧ H = h) 0 (by omega) ⟨by simp, by simp, rfl, rfl⟩ ?_
  rintro i fr H hi ⟨e0, e3, hf, rfl⟩
  rcases Nat.lt_or_ge i l.length with hlt | hge
  · obtain ⟨p, hp, hp'⟩ := get_lt hlt
    have ew := wrap_succ' (i := i) (by omega)
    rw [drop_get hp, List.all_cons] at hf
    by_cases q1 : p.length ≤ 40
    · have d4 : ¬ (40 : Int) < p.length := by omega
      rw [few40_yes q1] at hf
      simp [e0, e3, hlt, hp, hp', encT, ew, d4]
      exact ⟨i + 1, by omega, by omega, by omega, by rw [hf]; rfl⟩
    · have d4 : (40 : Int) < p.length := by omega
      rw [few40_no q1] at hf
      simp [e0, e3, hlt, hp, hp', encT, ew, d4]
      simpa using hf
  have hge' : ¬ (i : Int) < l.length := by omega
  rw [List.drop_eq_nil_of_le hge] at hf
  by_cases q : l.length ≤ 40
  · have q' : (l.length : Int) ≤ 40 := by omega
    simp [e0, e3, hge', Nat.not_lt.2 hge, q']
    simpa [q] using hf
  · have q' : ¬ (l.length : Int) ≤ 40 := by omega
    simp [e0, e3, hge', Nat.not_lt.2 hge, q']
    simpa [q] using hf
set_option maxHeartbeats 2000000 in
theorem law_base : ACalls Tryz.prog gl 29 [] h fun v h' => v = .agg (encTopo ibT) ∧ h' = h := by
  refine ACalls.fresh' (ACalls.body Tryz.f29 _ mixed Tryz.func29 rfl rfl (by simp [Tryz.ntmps29]) ?_)
  simp [-aops_cons]
  repeat (rw [aops_cons]; simp [-aops_cons])
  exact .agg' (.cons (Frz.ownD (b := h.length + 1) (m := 3) (off := 0) (by simp; rfl) (by omega) (by simp) (by simp [ibT]) (by simp [ibT])) (.cons (Frz.ownD (b := h.length + 2) (m := 4) (off := 0) (by simp; rfl) (by omega) (by simp) (by simp [ibT]) (by simp [ibT])) (.cons (Frz.ownD (b := h.length + 3) (m := 3) (off := 0) (by simp; rfl) (by omega) (by simp) (by simp [ibT]) (by simp [ibT])) .nil)))
end Go.Proofs.YtiidghfioofpkaaGreat

namespace Go.Proofs.YtiidghfioofpkaaGreat
open Go Go.Abs Go.Toll
variable {gl : Globs} {h : AHeap}

theorem aw_m1 : ACalls Tryz.prog gl 13 [.agg (encTopo ibT), .agg (encPass ibX), .agg (encPass ibY)] h fun x h' => x = .tup [.ro ([[98]].map encT), .int .i64 0] ∧ h' = h := by
  have := infer_Missing (gl := gl) (h := h) ibT ibX ibY (by decide) (by decide) (by decide)
  rw [missV, ib_valid] at this
  have e : missM ibT.net ibX.point ibY.point ibX.time ibY.time = ([[98]], 0) := ib_m1
  rw [e] at this
  exact this
theorem aw_m2 : ACalls Tryz.prog gl 13 [.agg (encTopo ibT), .agg (encPass ibX), .agg (encPass ibZ)] h fun x h' => x = .tup [.ro [], .int .i64 21] ∧ h' = h := by
  have := infer_Missing (gl := gl) (h := h) ibT ibX ibZ (by decide) (by decide) (by decide)
  rw [missV, ib_valid] at this
  have e : missM ibT.net ibX.point ibZ.point ibX.time ibZ.time = ([], 21) := ib_m2
  rw [e] at this
  exact this
def ibN : List Int := [100, 115, 160]
def ibS : List TStop := [⟨[97], 100, [120]⟩, ⟨[98], 115, []⟩, ⟨[99], 160, [121]⟩]
theorem aw_t : ACalls Tryz.prog gl 17 [.agg (encTopo ibT), .ro ([[97], [98], [99]].map encT), .int .i64 100, .int .i64 160] h fun x h' => x = .tup [.ro (ibN.map encNs), .int .i64 0] ∧ h' = h := by
  have := infer_Times (gl := gl) (h := h) ibT [[97], [98], [99]] 100 160 (by decide) (by decide) (by decide) (by decide)
  rw [timesV, ib_valid, ib_t] at this
  exact this
theorem aw_s : ACalls Tryz.prog gl 20 [.agg (encTopo ibT), .ro ([ibX, ibY].map encPass)] h fun x h' => x = .tup [.ro (ibS.map encStop), .int .i64 0] ∧ h' = h := by
  have := infer_Stops (gl := gl) (h := h) ibT [ibX, ibY] (by decide) (by decide) (by decide) (by decide)
  rw [stopsV, ib_valid, ib_s] at this
  exact this
def ibD : TDev := ⟨[107], [97], 2, 0, [], []⟩
theorem aw_e1 : ACalls Tryz.prog gl 25 [.ro [], .str [97], .int .i64 5] h fun x h' => x = .bool true ∧ h' = h := by
  have := infer_Explained (gl := gl) (h := h) [] [97] 5 (by decide) (by simp) (by simp)
  have e : explB [] [97] 5 = true := by decide +kernel
  rw [e] at this
  exact this
theorem aw_e2 : ACalls Tryz.prog gl 25 [.ro [encDev ibD], .str [97], .int .i64 5] h fun x h' => x = .bool false ∧ h' = h := by
  have := infer_Explained (gl := gl) (h := h) [ibD] [97] 5 (by decide) (by simp; exact ⟨by simp [ibD], by simp [ibD], by simp [ibD], by simp [ibD]⟩) (by simp [ibD])
  have e : explB [ibD] [97] 5 = false := by decide +kernel
  rw [e] at this
  exact this
set_option maxHeartbeats 8000000 in
theorem law_awake : ACalls Tryz.prog gl 12 [] h fun v h' => v = .bool true ∧ h' = h := by
  refine ACalls.data (.bool _) (ACalls.body Tryz.f12 _ mixed Tryz.func12 rfl rfl (by simp [Tryz.ntmps12]) ?_)
  have m1 := fun H : AHeap => aw_m1 (gl := gl) (h := H)
  have m2 := fun H : AHeap => aw_m2 (gl := gl) (h := H)
  have t1 := fun H : AHeap => aw_t (gl := gl) (h := H)
  have s1 := fun H : AHeap => aw_s (gl := gl) (h := H)
  have b1 := fun H : AHeap => law_base (gl := gl) (h := H)
  generalize ibT = T at *
  simp [-aops_cons]
  repeat (rw [aops_cons]; simp [-aops_cons])
  refine callS.pure _ (fun _ => b1 _) ?_
  simp [-aops_cons]
  repeat (rw [aops_cons]; simp [-aops_cons])
  refine callS.any (ACalls.lend [] (.cons (.same _) (.cons (FrzK.agg' (.cons (.same _) (.cons (.same _) (.cons (.same _) (.cons (.same _) (.cons (.same _) (.cons (.same _) (.cons (.same _) (.cons .nil .nil))))))))) (.cons (FrzK.agg' (.cons (.same _) (.cons (.same _) (.cons (.same _) (.cons (.same _) (.cons (.same _) (.cons (.same _) (.cons (.same _) (.cons .nil .nil))))))))) .nil))) (m1 _)) ?_
  rintro v h' ⟨rfl, rfl⟩
  have kn : ∀ H : AHeap, killL H [] = H := fun _ => rfl
  simp [-aops_cons, kn]
  repeat (rw [aops_cons]; simp [-aops_cons, kn])
  refine callS.any (ACalls.lend [h.length + 3] (.cons (.same _) (.cons (FrzK.all (m := 1) (es := [[97], [98], [99]].map encT) (by simp [encT]) (by simp)) (.cons (.same _) (.cons (.same _) .nil)))) (t1 _)) ?_
  rintro v h' ⟨rfl, rfl⟩
  simp [-aops_cons, killL]
  repeat (rw [aops_cons]; simp [-aops_cons, killL])
  refine callS.any (ACalls.lend [h.length + 4] (.cons (.same _) (.cons (frz_pass0 [ibX, ibY] (by simp [ibX, ibY]) (by simp [encPass0, ibX, ibY]) (by simp)) .nil)) (s1 _)) ?_
  rintro v h' ⟨rfl, rfl⟩
  simp [-aops_cons, killL]
  repeat (rw [aops_cons]; simp [-aops_cons, killL])
  refine callS.any (ACalls.lend [] (.cons (.same _) (.cons (FrzK.agg' (.cons (.same _) (.cons (.same _) (.cons (.same _) (.cons (.same _) (.cons (.same _) (.cons (.same _) (.cons (.same _) (.cons .nil .nil))))))))) (.cons (FrzK.agg' (.cons (.same _) (.cons (.same _) (.cons (.same _) (.cons (.same _) (.cons (.same _) (.cons (.same _) (.cons (.same _) (.cons .nil .nil))))))))) .nil))) (m2 _)) ?_
  rintro v h' ⟨rfl, rfl⟩
  simp [-aops_cons, kn]
  repeat (rw [aops_cons]; simp [-aops_cons, kn])
  have n1 : infN ibS = 1 := by decide +kernel
  refine callS.pure _ (fun _ => ref01_SameTexts [[98]] [[98]] (by decide) _ _ (Rs.ro (by simp [encT])) (Rs.own (b := h.length + 5) (es := [[98]].map encT) (by simp [encT]) (by simp [encT]))) ?_
  simp [-aops_cons]
  repeat (rw [aops_cons]; simp [-aops_cons])
  refine callS.pure _ (fun _ => ref20_SameNumbers ibN (by decide) _ _ (Rs.ro (by simp [ibN])) (Rs.own (b := h.length + 6) (es := ibN.map encNs) (by simp [encNs, ibN]) (by simp [ibN]))) ?_
  simp [-aops_cons]
  repeat (rw [aops_cons]; simp [-aops_cons])
  refine callS.pure _ (fun _ => ref20_SameStops ibS (by decide) _ _ (Rs.ro (by simp [ibS])) (Rs.own (b := h.length + 7) (es := ibS.map encStop) (by simp [encStop, ibS]) (by simp [ibS]))) ?_
  simp [-aops_cons]
  repeat (rw [aops_cons]; simp [-aops_cons])
  refine callS.pure _ (fun _ => infer_Inferred ibS (by decide)) ?_
  rw [n1]
  simp [-aops_cons]
  repeat (rw [aops_cons]; simp [-aops_cons])
  refine callS.any (ACalls.lend [] (.cons .nil (.cons (.same _) (.cons (.same _) .nil))) aw_e1) ?_
  rintro v h' ⟨rfl, rfl⟩
  simp [-aops_cons, kn]
  repeat (rw [aops_cons]; simp [-aops_cons, kn])
  refine callS.any (ACalls.lend [h.length + 8] (.cons (.own _ 0 1 6 [[.str [107], .str [97], .int .i64 2, .int .i64 0, .nil, .nil]] [encDev ibD] (by simp) (by simp) (by simp) (by simp) ?_ ?_) (.cons (.same _) (.cons (.same _) .nil))) aw_e2) ?_
  · intro i e e' h1 h2
    cases i with
    | zero => simp at h1 h2; subst h1 h2; rfl
    | succ i => simp at h1
  · intro i e e' c x x' h1 h2 h3 h4
    cases i with
    | zero =>
      simp at h1 h2; subst h1 h2
      have hc : c < 6 := by have := lt_of_get h3; simpa using this
      rcases (by omega : c = 0 ∨ c = 1 ∨ c = 2 ∨ c = 3 ∨ c = 4 ∨ c = 5) with q | q | q | q | q | q
      all_goals subst q
      all_goals simp [encDev, ibD] at h3 h4
      all_goals subst h3
      all_goals subst h4
      all_goals first | exact .same _ | exact .nil
    | succ i => simp at h1
  rintro v h' ⟨rfl, rfl⟩
  simp [-aops_cons, killL]
  repeat (rw [aops_cons]; simp [-aops_cons, killL])
end Go.Proofs.YtiidghfioofpkaaGreat
