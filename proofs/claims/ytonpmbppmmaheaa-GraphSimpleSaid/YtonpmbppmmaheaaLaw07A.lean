/-
  Contracts: the small functions of the laws, and the example network.
-/
import Derived.Test.YtonpmbppmmaheaaGrF
import Derived.Test.YtonpmbppmmaheaaGrD
import Derived.Test.YtonpmbppmmaheaaTollNetX
set_option linter.unusedVariables false
set_option linter.unusedSimpArgs false
set_option maxRecDepth 100000
namespace Go.Proofs.Ytonpmbppmmaheaa
open Go Go.Abs Go.Toll
variable {gl : Globs} {h : AHeap}

theorem ref07_SamePoint (a b : Pt) : ACalls Try.prog gl 17 [.agg (encPt a), .agg (encPt b)] h fun v h' => v = .bool (decide (a = b)) ∧ h' = h := by
  refine ACalls.data (.bool _) (ACalls.body Try.f17 _ mixed Try.func17 rfl rfl (by simp [Try.ntmps17]) ?_)
  obtain ⟨n, k, s⟩ := a
  obtain ⟨n', k', s'⟩ := b
  by_cases h1 : n = n' <;> by_cases h2 : k = k' <;> by_cases h3 : s = s' <;> simp [h1, h2, h3]
theorem ref07_SamePaths (a b : List (List Bytes)) (hl : a.length ≤ 1000000) (hla : ∀ p ∈ a, p.length ≤ 1000000) : ACalls Try.prog gl 27 [.ro (a.map encPa), .ro (b.map encPa)] h fun v h' => v = .bool (decide (a = b)) ∧ h' = h := by
  refine ACalls.data (.bool _) (ACalls.body Try.f27 _ mixed Try.func27 rfl rfl (by simp [Try.ntmps27]) ?_)
  simp
  refine ⟨fun q e => by rw [e] at q; exact q rfl, fun q => ?_⟩
  have q : a.length = b.length := by omega
  refine AWP.up mixed a.length (fun i fr h' => fr 0 = .ro (a.map encPa) ∧ fr 1 = .ro (b.map encPa) ∧ fr 5 = .int .i64 i ∧ (a = b ↔ a.drop i = b.drop i) ∧ h' = h) 0 (by omega) ⟨by simp, by simp, by simp, by simp, by simp⟩ ?_
  rintro i fr h' hi ⟨e0, e1, e5, hf, rfl⟩
  rcases Nat.lt_or_ge i a.length with hlt | hge
  · obtain ⟨s, hs, hs'⟩ := get_lt hlt
    obtain ⟨t, ht, ht'⟩ := get_lt (l := b) (i := i) (by omega)
    rw [drop_get hs, drop_get ht] at hf
    have ew := wrap_succ' (i := i) (by omega)
    have hlb : i < b.length := by omega
    simp [e0, e1, e5, hlt, hlb, hs, hs', ht, ht', encPa, ew]
    refine ⟨by decide, ?_⟩
    refine callS.pure _ (fun _ => ref01_SameTexts s t (hla s (List.mem_of_getElem? hs)) _ _ (.ro (texts_n s)) (.ro (texts_n t))) ?_
    simp [e0, e1, e5, hlt, hlb, hs, hs', ht, ht', encPa, ew]
    refine ⟨fun hne e => hne (List.cons.inj (hf.1 e)).1, fun he => ⟨i + 1, by omega, by omega, by omega, ?_⟩⟩
    subst he
    rw [hf]
    exact ⟨fun e => (List.cons.inj e).2, fun e => by rw [e]⟩
  · have e : a = b := by rw [hf, List.drop_eq_nil_of_le hge, List.drop_eq_nil_of_le (by omega)]
    have hge' : ¬ (i : Int) < a.length := by omega
    simp [e0, e1, e5, hge', hge]
    exact e
def ptFew (p : Pt) : Bool := decide (p.name.length ≤ 40 ∧ p.sys.length ≤ 40)
def lkFew (x : Lk) : Bool := decide (x.src.length ≤ 40 ∧ x.dst.length ≤ 40)
def fewB (n : Net) : Bool := decide (n.pts.length ≤ 80 ∧ n.lks.length ≤ 160) && (n.pts.all ptFew && n.lks.all lkFew)
theorem fewB_len {n : Net} (h : fewB n = true) : n.pts.length ≤ 80 ∧ n.lks.length ≤ 160 := by
  unfold fewB at h
  rw [Bool.and_eq_true] at h
  exact of_decide_eq_true h.1
set_option maxHeartbeats 2000000 in
theorem law_few (n : Net) : ACalls Try.prog gl 11 [.agg (encNet n)] h fun v h' => v = .bool (fewB n) ∧ h' = h := by
  refine ACalls.data (.bool _) (ACalls.body Try.f11 _ mixed Try.func11 rfl rfl (by simp [Try.ntmps11]) ?_)
  have hno : ¬ (n.pts.length ≤ 80 ∧ n.lks.length ≤ 160) → fewB n = false := fun hc => by unfold fewB; rw [decide_eq_false hc]; rfl
  by_cases c1 : n.pts.length ≤ 80
  · by_cases c2 : n.lks.length ≤ 160
    · have hfe : fewB n = (n.pts.all ptFew && n.lks.all lkFew) := by unfold fewB; rw [decide_eq_true ⟨c1, c2⟩]; rfl
      have d1 : ¬ (80 : Int) < n.pts.length := by omega
      have d2 : ¬ (160 : Int) < n.lks.length := by omega
      simp [d1, d2]
      refine AWP.up mixed n.pts.length (fun i fr H => fr 1 = .ptr h.length 0 0 ∧ fr 3 = .int .i64 i ∧ fewB n = ((n.pts.drop i).all ptFew && n.lks.all lkFew) ∧ H = h ++ [.cells 2 [encNet n]]) 0 (by omega) ⟨by simp, by simp, by rw [hfe]; rfl, by simp⟩ ?_
      rintro i fr H hi ⟨e1, e3, hf, rfl⟩
      rcases Nat.lt_or_ge i n.pts.length with hlt | hge
      · obtain ⟨p, hp, hp'⟩ := get_lt hlt
        have ew := wrap_succ' (i := i) (by omega)
        rw [drop_get hp, List.all_cons] at hf
        by_cases q1 : p.name.length ≤ 40
        · by_cases q2 : p.sys.length ≤ 40
          · have hpf : ptFew p = true := decide_eq_true ⟨q1, q2⟩
            have d3 : ¬ (40 : Int) < p.name.length := by omega
            have d4 : ¬ (40 : Int) < p.sys.length := by omega
            simp [e1, e3, hlt, hp, hp', ew, d3, d4]
            exact ⟨i + 1, by omega, by omega, by omega, by rw [hf, hpf]; rfl⟩
          · have hpf : ptFew p = false := decide_eq_false fun c => q2 c.2
            have d3 : ¬ (40 : Int) < p.name.length := by omega
            have d4 : (40 : Int) < p.sys.length := by omega
            simp [e1, e3, hlt, hp, hp', ew, d3, d4]
            rw [hf, hpf]; rfl
        · have hpf : ptFew p = false := decide_eq_false fun c => q1 c.1
          have d3 : (40 : Int) < p.name.length := by omega
          simp [e1, e3, hlt, hp, hp', ew, d3]
          rw [hf, hpf]; rfl
      · have hge' : ¬ (i : Int) < n.pts.length := by omega
        rw [List.drop_eq_nil_of_le hge] at hf
        simp [e1, e3, hge', Nat.not_lt.2 hge]
        refine AWP.up mixed n.lks.length (fun i fr H => fr 1 = .ptr h.length 0 0 ∧ fr 4 = .int .i64 i ∧ fewB n = (n.lks.drop i).all lkFew ∧ H = h ++ [.cells 2 [encNet n]]) 0 (by omega) ⟨by simp [e1], by simp, by rw [hf]; rfl, by simp⟩ ?_
        clear e1 e3 hf
        rintro i fr H hi ⟨e1, e3, hf, rfl⟩
        rcases Nat.lt_or_ge i n.lks.length with hlt | hge
        · obtain ⟨p, hp, hp'⟩ := get_lt hlt
          have ew := wrap_succ' (i := i) (by omega)
          rw [drop_get hp, List.all_cons] at hf
          by_cases q1 : p.src.length ≤ 40
          · by_cases q2 : p.dst.length ≤ 40
            · have hpf : lkFew p = true := decide_eq_true ⟨q1, q2⟩
              have d3 : ¬ (40 : Int) < p.src.length := by omega
              have d4 : ¬ (40 : Int) < p.dst.length := by omega
              simp [e1, e3, hlt, hp, hp', ew, d3, d4]
              exact ⟨i + 1, by omega, by omega, by omega, by rw [hf, hpf]; rfl⟩
            · have hpf : lkFew p = false := decide_eq_false fun c => q2 c.2
              have d3 : ¬ (40 : Int) < p.src.length := by omega
              have d4 : (40 : Int) < p.dst.length := by omega
              simp [e1, e3, hlt, hp, hp', ew, d3, d4]
              rw [hf, hpf]; rfl
          · have hpf : lkFew p = false := decide_eq_false fun c => q1 c.1
            have d3 : (40 : Int) < p.src.length := by omega
            simp [e1, e3, hlt, hp, hp', ew, d3]
            rw [hf, hpf]; rfl
        · have hge' : ¬ (i : Int) < n.lks.length := by omega
          rw [List.drop_eq_nil_of_le hge] at hf
          simp [e1, e3, hge', Nat.not_lt.2 hge]
          rw [hf]; rfl
    · have d1 : ¬ (80 : Int) < n.pts.length := by omega
      have d2 : (160 : Int) < n.lks.length := by omega
      simp [d1, d2]
      exact hno fun c => c2 c.2
  · have d1 : (80 : Int) < n.pts.length := by omega
    simp [d1]
    exact hno fun c => c1 c.1
theorem law_network : ACalls Try.prog gl 33 [] h fun v h' => v = .agg (encNet exN) ∧ h' = h := by
  refine ACalls.fresh' (ACalls.body Try.f33 _ mixed Try.func33 rfl rfl (by simp [Try.ntmps33]) ?_)
  simp [exN, ptX]
  exact .agg' (.cons (Frz.ownD (b := h.length + 1) (m := 3) (off := 0) (by simp; rfl) (by omega) (by simp) (by simp) (by simp)) (.cons (Frz.ownD (b := h.length + 2) (m := 4) (off := 0) (by simp; rfl) (by omega) (by simp) (by simp) (by simp)) .nil))
end Go.Proofs.Ytonpmbppmmaheaa
