/-
  Contracts: the law of groups.
-/
import Derived.Test.YtmnmbkcdjpidgaaAwake15
import Derived.Test.YtmnmbkcdjpidgaaTollInsert
import Derived.Test.YtmnmbkcdjpidgaaTollSeenShape
import Derived.Test.YtmnmbkcdjpidgaaAbsList
set_option linter.unusedVariables false
set_option linter.unusedSimpArgs false
set_option maxRecDepth 100000
namespace Go.Proofs.Ytmnmbkcdjpidgaa
open Go Go.Abs Go.Toll
variable {gl : Globs} {h : AHeap}

theorem two_ways {p q A B C X Y : Prop} (hA : p → A) (hB : p → B) (hC : p → C) (h : (p → X) ∧ (q → Y)) : (p → A ∧ B ∧ (B → C ∧ X)) ∧ (q → Y) := ⟨fun a => ⟨hA a, hB a, fun _ => ⟨hC a, h.1 a⟩⟩, h.2⟩
theorem apart_at {G : List (List TSeen)} (h : GOk2 G) {i : Nat} {g g' : List TSeen} (hg : G[i]? = some g) (hg' : g' ∈ G.take i) (h1 : (headG g').kind = 1) (h2 : (headG g).kind = 1) : (headG g').tag ≠ (headG g).tag := by
  have e : G = G.take i ++ g :: G.drop (i + 1) := by
    rw [← drop_get hg, List.take_append_drop]
  have hp := h.apart
  rw [e, List.pairwise_append] at hp
  exact hp.2.2 g' hg' g List.mem_cons_self h1 h2
def lxL : Nat → Option (Nat × List (Nat × Nat)) := fun i => if i = 4 then some (9, [(3, 0), (7, 0), (7, 1)]) else none
set_option maxHeartbeats 4000000 in
theorem law_Groups (l : List TSeen) (t : Int) (hs : ∀ s ∈ l, s.short) : ACalls Try.prog gl 8 [.ro (l.map encSeen), .int .i64 t] h fun v h' => v = .bool true := by
  refine ACalls.mono (ACalls.data (.bool true) (ACalls.bodyM lxL Try.f8 _ mixed Try.func8 rfl rfl (by simp [Try.ntmps8]) ?_)) fun _ _ h => h.1
  simp
  refine callS.pure _ (fun _ => law_great l) ?_
  simp
  refine ⟨fun _ => ?_, fun c1 c2 c3 => ?_⟩
  · refine callS.pure _ (fun _ => law_awake) ?_
    simp
  · have hl : l.length ≤ 30 := by simp [greatB] at c1; omega
    refine callS.pure _ (fun _ => score_Merge l (by omega)) ?_
    obtain ⟨k, rfl⟩ := Int.eq_ofNat_of_zero_le c2
    have hk : k ≤ l.length := by omega
    have htk : (l.map encSeen).take l.length = l.map encSeen := List.take_of_length_le (by simp)
    simp [-appendOk, -appendK, lxL, preOps, hk, htk]
    refine ⟨⟨by decide, by decide⟩, ?_⟩
    have hn1 : ∀ e ∈ (l.map encSeen).drop k, e.length = 11 := fun e he => by obtain ⟨_, _, rfl⟩ := List.mem_map.1 (List.mem_of_mem_drop he); rfl
    have hn2 : ∀ e ∈ (l.map encSeen).take k, e.length = 11 := fun e he => by obtain ⟨_, _, rfl⟩ := List.mem_map.1 (List.mem_of_mem_take he); rfl
    refine append_new (lo := h.length) (n := 11) (es := []) (ys := (l.map encSeen).drop k) (Ls.own (b := h.length) (by simp) (by omega) rfl (by simp)) (by simp) (appOk_rs (Rs.ro hn1) (by simp) (by simp) (by simp)) (by simp; omega) ?_
    intro s1 h1 hs1 hg1 _
    have f1 := hs1.rs.fix
    obtain ⟨t1, rfl⟩ := hg1.base h (by simp) ⟨_, by simp; rfl⟩
    rw [List.nil_append] at hs1
    simp [-appendOk, -appendK, lxL, preOps, hk, htk, f1]
    refine append_new (lo := h.length) (n := 11) (es := (l.map encSeen).drop k) (ys := (l.map encSeen).take k) hs1 (by simp) (appOk_rs (Rs.ro hn2) (by simp) (by simp) (by simp)) (by simp; omega) ?_
    intro s2 h2 hs2 hg2 _
    have f2 := hs2.rs.fix
    obtain ⟨t2, rfl⟩ := hg2.base h (by simp) ⟨_, by simp; rfl⟩
    have hturn : (l.map encSeen).drop k ++ (l.map encSeen).take k = (l.drop k ++ l.take k).map encSeen := by simp
    rw [hturn] at hs2
    simp [-appendOk, -appendK, lxL, preOps, hk, htk, f1, f2]
    obtain ⟨ks, hks, hfr⟩ := hs2.lend
    obtain ⟨g0, hg0⟩ := killL_base ks h t2 (fun b hb => (hks b hb).1)
    have hmt : mergeG [] (sortS (l.drop k ++ l.take k)) = mergeG [] (sortS l) := mergeG_turn l k
    have hme := score_Merge (gl := gl) (h := killL (h ++ t2) ks) (l.drop k ++ l.take k) (by simp; omega)
    rw [hmt] at hme
    refine callS.any (ACalls.lend ks (.cons hfr .nil) hme) ?_
    rintro v h' ⟨rfl, rfl⟩
    rw [hg0]
    have hlen := len_groups l
    have hmem := fun g hg s hs' => mem_groups (l := l) (g := g) (s := s) hg hs'
    have hok := merge_ok (sortS l)
    have hins := ins_groups l
    generalize mergeG [] (sortS l) = G at *
    simp
    refine AWP.upM lxL mixed G.length (fun i fr H => fr 0 = .ro (l.map encSeen) ∧ fr 6 = .ro (G.map fun g => [.ro (g.map encSeen)]) ∧ fr 8 = .nil ∧ fr 9 = .map (h.length + g0.length) ∧ fr 47 = .ro (G.map fun g => [.ro (g.map encSeen)]) ∧ fr 48 = .int .i64 G.length ∧ fr 49 = .int .i64 i ∧
      ∃ x tg, fr 7 = x ∧ Rn x ((insAll (G.take i).flatten []).map encSeen) ∧ H[h.length + g0.length]? = some (.map (sM (fun b => .bool b) tg)) ∧ (∀ u, isInS tg u = true ↔ ∃ g ∈ G.take i, (headG g).kind = 1 ∧ (headG g).tag = u) ∧ ∃ t, H = h ++ t) 0 (by omega)
      ⟨by simp, by simp, by simp, by simp, by simp, by simp, by simp, .nil, [], by simp, Rn.nil, by simp [sM], by simp [isInS, getS], _, rfl⟩ ?_
    rintro i fr H hi ⟨e0, e6, e8, e9, e47, e48, e49, x, tg, e7, hx, hm, htg, hpre⟩
    have hm' := (List.getElem?_eq_some_iff.1 hm).2
    have hml := (List.getElem?_eq_some_iff.1 hm).1
    rcases Nat.lt_or_ge i G.length with hlt | hge
    · obtain ⟨g, hg, hg'⟩ := get_lt hlt
      have hgG := List.mem_of_getElem? hg
      have ew := wrap_succ' (i := i) (by omega)
      obtain ⟨hgn, hgo⟩ := hok.each g hgG
      obtain ⟨z, q, rfl⟩ := List.exists_cons_of_ne_nil hgn
      have hgs : ∀ s ∈ z :: q, s.short := fun s hs' => hs s (hmem _ hgG s hs')
      simp [e0, e6, e7, e8, e9, e47, e48, e49, hlt, hg, hg']
      refine callS.pure _ (fun _ => ref13_SameSeens (z :: q) (z :: q) (by have := hlen.2 _ hgG; omega) hgs) ?_
      have hkeys : ∀ (a b : AV), (a, b) ∈ sM (fun b => .bool b) tg → ∃ u, a = .str u := fun a b hab => by
        obtain ⟨q, _, e⟩ := mem_sM _ hab
        injection e with e1 e2
        exact ⟨_, e1⟩
      have hlk : ((getS tg z.tag).map fun b => AV.bool b).getD (.bool false) = .bool (isInS tg z.tag) := by
        unfold isInS; cases getS tg z.tag <;> rfl
      have hfl : (G.take (i + 1)).flatten = (G.take i).flatten ++ (z :: q) := by rw [List.take_add_one, hg]; simp
      have hfl2 : (G.take (i + 1)).flatten.length ≤ 900 := by
        have e1 : ∀ (A : List (List TSeen)), (∀ g ∈ A, g.length ≤ 30) → A.flatten.length ≤ A.length * 30 := by
          intro A
          induction A with
          | nil => simp
          | cons a A ih => intro h; have := ih fun g hg => h g (List.mem_cons_of_mem _ hg); have := h a List.mem_cons_self; simp only [List.flatten_cons, List.length_append, List.length_cons]; omega
        have := e1 (G.take (i + 1)) fun g hg => by have := hlen.2 g (List.mem_of_mem_take hg); omega
        have : (G.take (i + 1)).length ≤ 30 := by simp; omega
        omega
      rw [hfl] at hfl2
      simp [e0, e6, e7, e8, e9, e47, e48, e49, hlt, hg, hg', hm, hm', hml, alook_sM, hlk]
      refine ⟨by omega, fun _ => ?_⟩
      have hset := aset_sM (fun b : Bool => AV.bool b) tg z.tag true
      simp only [hset]
      refine two_ways (fun _ a b hab => by obtain ⟨u, rfl⟩ := hkeys a b hab; simp [cok, cok1]) (fun hk1 => ?_) (fun _ a b hab => by obtain ⟨u, rfl⟩ := hkeys a b hab; simp [cok, cok1])
        (AWP.join (fun fr H => fr 0 = .ro (l.map encSeen) ∧ fr 6 = .ro (G.map fun g => [.ro (g.map encSeen)]) ∧ fr 8 = .nil ∧ fr 9 = .map (h.length + g0.length) ∧ fr 47 = .ro (G.map fun g => [.ro (g.map encSeen)]) ∧ fr 48 = .int .i64 G.length ∧ fr 49 = .int .i64 i ∧
          fr 7 = x ∧ fr 11 = .ro ((z :: q).map encSeen) ∧ fr 84 = .ro ((z :: q).map encSeen) ∧ fr 85 = .int .i64 (q.length + 1 : Nat) ∧ fr 86 = .int .i64 0 ∧
          ∃ tg', H[h.length + g0.length]? = some (.map (sM (fun b => .bool b) tg')) ∧ (∀ u, isInS tg' u = true ↔ ∃ g ∈ G.take (i + 1), (headG g).kind = 1 ∧ (headG g).tag = u) ∧ ∃ t, H = h ++ t) ?_ ?_ ?_)
      · cases hb : isInS tg z.tag with
        | false => rfl
        | true =>
          obtain ⟨g', hg1, hg2, hg3⟩ := (htg z.tag).1 hb
          exact absurd hg3 (apart_at hok hg hg1 hg2 hk1)
      · intro hk1
        refine ⟨by simp [e0], by simp [e6], by simp [e8], by simp [e9], by simp [e47], by simp [e48], by simp [e49], by simp [e7], by simp, by simp, by simp, by simp, putS tg z.tag true, by rw [List.getElem?_set_self hml], fun u => ?_, ?_⟩
        · rw [isInS_put, List.take_add_one, hg]
          simp only [Bool.or_eq_true, decide_eq_true_eq, htg u, Option.toList_some, List.mem_append, List.mem_singleton]
          constructor
          · rintro (rfl | ⟨g, h1, h2⟩)
            · exact ⟨z :: q, .inr rfl, hk1, rfl⟩
            · exact ⟨g, .inl h1, h2⟩
          · rintro ⟨g, h1 | rfl, h2, h3⟩
            · exact .inr ⟨g, h1, h2, h3⟩
            · exact .inl h3.symm
        · obtain ⟨t, rfl⟩ := hpre
          exact ⟨_, List.set_append_right _ _ (by omega)⟩
      · intro hk1
        refine ⟨by simp [e0], by simp [e6], by simp [e8], by simp [e9], by simp [e47], by simp [e48], by simp [e49], by simp [e7], by simp, by simp, by simp, by simp, tg, hm, fun u => ?_, hpre⟩
        rw [List.take_add_one, hg]
        simp only [htg u, Option.toList_some, List.mem_append, List.mem_singleton]
        constructor
        · rintro ⟨g, h1, h2⟩
          exact ⟨g, .inl h1, h2⟩
        · rintro ⟨g, h1 | rfl, h2, h3⟩
          · exact ⟨g, h1, h2, h3⟩
          · exact absurd h2 hk1
      · clear e0 e6 e7 e8 e9 e47 e48 e49 hm hm' hml hpre
        rintro fr H ⟨e0, e6, e8, e9, e47, e48, e49, e7, e11, e84, e85, e86, tg', hm, htg', hpre⟩
        refine AWP.upM lxL mixed (q.length + 1) (fun j fr H => fr 0 = .ro (l.map encSeen) ∧ fr 6 = .ro (G.map fun g => [.ro (g.map encSeen)]) ∧ fr 8 = .nil ∧ fr 9 = .map (h.length + g0.length) ∧ fr 47 = .ro (G.map fun g => [.ro (g.map encSeen)]) ∧ fr 48 = .int .i64 G.length ∧ fr 49 = .int .i64 i ∧
            fr 11 = .ro ((z :: q).map encSeen) ∧ fr 84 = .ro ((z :: q).map encSeen) ∧ fr 85 = .int .i64 (q.length + 1 : Nat) ∧ fr 86 = .int .i64 j ∧
            ∃ x, fr 7 = x ∧ Rn x ((insAll ((G.take i).flatten ++ (z :: q).take j) []).map encSeen) ∧ H[h.length + g0.length]? = some (.map (sM (fun b => .bool b) tg')) ∧ ∃ t, H = h ++ t) 0 (by omega)
          ⟨e0, e6, e8, e9, e47, e48, e49, e11, e84, e85, e86, x, e7, by simpa using hx, hm, hpre⟩ ?_
        clear e0 e6 e8 e9 e47 e48 e49 e7 e11 e84 e85 e86 hm hpre hx
        rintro j fr H hj ⟨e0, e6, e8, e9, e47, e48, e49, e11, e84, e85, e86, x, e7, hx, hm, hpre⟩
        have hml := (List.getElem?_eq_some_iff.1 hm).1
        rcases Nat.lt_or_ge j (q.length + 1) with hltj | hgej
        · obtain ⟨s, hsj, hsj'⟩ := get_lt (l := z :: q) (i := j) (by simpa using hltj)
          have hsm := List.mem_of_getElem? hsj
          have hso := hgo s hsm
          have hhd : headG (z :: q) = z := rfl
          rw [hhd] at hso
          have hm2 := (List.getElem?_eq_some_iff.1 hm).2
          have hltI : (j : Int) < (q.length : Int) + 1 := by omega
          have hltN : ¬ (q.length : Int) + 1 ≤ (j : Int) := by omega
          have hql : q.length + 1 ≤ 30 := by have := hlen.2 _ hgG; simp at this; omega
          have ewj := wrap_succ' (i := j) (by omega)
          have hxf : x.core = x ∧ x.gd = true := by rcases hx with rfl | ⟨rfl, _⟩ <;> exact ⟨rfl, rfl⟩
          have hbd : (insAll ((G.take i).flatten ++ (z :: q).take j) []).length ≤ 1000000 := by
            have h1 := insAll_len ((G.take i).flatten ++ (z :: q).take j) []
            have h2 : ((z :: q).take j).length ≤ (z :: q).length := by rw [List.length_take]; omega
            simp only [List.length_append, List.length_nil] at h1 hfl2
            omega
          have hsje : ((z :: q).map encSeen)[j]? = some (encSeen s) := by rw [List.getElem?_map, hsj]; rfl
          have hsje' := (List.getElem?_eq_some_iff.1 hsje).2
          have hsjl := (List.getElem?_eq_some_iff.1 hsje).1
          have htk : (z :: q).take (j + 1) = (z :: q).take j ++ [s] := by rw [List.take_add_one, hsj]; rfl
          obtain ⟨C, hC⟩ : ∃ C, C = (z :: q).map encSeen := ⟨_, rfl⟩
          have hC0 : C[0]? = some (encSeen z) := by rw [hC]; rfl
          have hC0' : ∀ h : 0 < C.length, C[0] = encSeen z := fun h => (List.getElem?_eq_some_iff.1 hC0).2
          have hCl : 0 < C.length := by rw [hC]; simp
          rw [← hC] at e11 e84 hsje hsjl
          have hsje' := (List.getElem?_eq_some_iff.1 hsje).2
          simp [e0, e6, e7, e8, e9, e11, e47, e48, e49, e84, e85, e86, hltj, hsje, hsje', hsjl, hC0, hC0', hCl, lxL, hxf, hltI, hltN]
          refine ⟨by decide, fun c => ⟨c, fun c1 => ⟨c, c1⟩⟩, ⟨hso.2.1, hso.2.2⟩, fun _ _ => ?_⟩
          refine callS.pure _ (fun _ => ACalls.lend [] (.cons (hx.lend []) (.cons (.same _) .nil)) (ref13_InsertSeen _ s (hgs s hsm) hbd)) ?_
          simp [e0, e6, e7, e8, e9, e11, e47, e48, e49, e84, e85, e86, ewj, killL, hml, hm, hm2]
          obtain ⟨t, ht⟩ := hpre
          refine ⟨j + 1, by omega, by omega, hC, by omega, ?_, t ++ [.cells 11 [encSeen s]], by rw [ht]; simp⟩
          have e : insAll ((G.take i).flatten ++ (z :: q).take (j + 1)) [] = insU (insAll ((G.take i).flatten ++ (z :: q).take j) []) s := by
            rw [htk, ← List.append_assoc, insAll_append _ [s], insAll_one]
          rw [e]
          exact Rn.ro _
        · have hgeI : (q.length : Int) + 1 ≤ (j : Int) := by omega
          obtain rfl : j = q.length + 1 := by omega
          rw [show (z :: q).take (q.length + 1) = z :: q from List.take_of_length_le (by simp), ← hfl] at hx
          simp [e0, e6, e7, e8, e9, e11, e47, e48, e49, e84, e85, e86, ew]
          exact ⟨i + 1, by omega, by omega, by omega, hx, tg', hm, htg', hpre⟩
    · obtain rfl : i = G.length := by omega
      rw [List.take_length, hins] at hx
      simp [e0, e6, e7, e8, e9, e47, e48, e49]
      refine AWP.upM lxL mixed l.length (fun i fr H => fr 7 = x ∧ fr 118 = .ro (l.map encSeen) ∧ fr 119 = .int .i64 l.length ∧ fr 120 = .int .i64 i ∧ ∃ y, fr 8 = y ∧ Rn y ((insAll ((l.take i).filter groupB) []).map encSeen) ∧ ∃ t, H = h ++ t) 0 (by omega)
        ⟨by simp [e7], by simp, by simp, by simp, .nil, by simp [e8], by simp; exact Rn.nil, hpre⟩ ?_
      clear e0 e6 e7 e8 e9 e47 e48 e49 hm hm' hml hpre hi hge
      rintro i fr H hi ⟨e7, e118, e119, e120, y, e8, hy, t, rfl⟩
      have hxf : x.core = x ∧ x.gd = true := by rcases hx with rfl | ⟨rfl, _⟩ <;> exact ⟨rfl, rfl⟩
      have hyf : y.core = y ∧ y.gd = true := by rcases hy with rfl | ⟨rfl, _⟩ <;> exact ⟨rfl, rfl⟩
      rcases Nat.lt_or_ge i l.length with hlt | hge
      · obtain ⟨s, hsi, hsi'⟩ := get_lt hlt
        have ew := wrap_succ' (i := i) (by omega)
        have hbd : (insAll ((l.take i).filter groupB) []).length ≤ 1000000 := by
          have h1 := insAll_len ((l.take i).filter groupB) []
          have h2 := List.length_filter_le groupB (l.take i)
          have h3 : (l.take i).length ≤ l.length := by rw [List.length_take]; omega
          simp only [List.length_nil] at h1
          omega
        have hstep : insAll ((l.take (i + 1)).filter groupB) [] = if groupB s = true then insU (insAll ((l.take i).filter groupB) []) s else insAll ((l.take i).filter groupB) [] := by
          rw [List.take_add_one, hsi, List.filter_append, insAll_append]
          cases hgb : groupB s <;> simp [hgb, insAll]
        simp [e7, e8, e118, e119, e120, hlt, hsi, hsi', hxf, hyf, ew]
        refine ⟨fun q => ?_, fun q1 q2 => ?_⟩
        · have hg1 : groupB s = true := by
            by_cases h1 : s.kind = 1 <;> simp [groupB, h1]
            first | exact q h1 | (rcases q with q | q; exact absurd q h1; exact q)
          refine callS.pure _ (fun _ => ACalls.lend [] (.cons (hy.lend []) (.cons (.same _) .nil)) (ref13_InsertSeen _ s (hs s (List.mem_of_getElem? hsi)) hbd)) ?_
          simp [e7, e8, e118, e119, e120, ew, killL]
          refine ⟨i + 1, by omega, by omega, by omega, ?_⟩
          rw [hstep, if_pos hg1]
          exact Rn.ro _
        · refine ⟨i + 1, by omega, by omega, by omega, ?_⟩
          rw [hstep, if_neg (by simp [groupB, q1, q2])]
          exact hy
      · obtain rfl : i = l.length := by omega
        rw [List.take_length] at hy
        have hsh : ∀ s ∈ insAll (l.filter groupB) [], s.short := fun s hs' => by
          have := (mem_insAll s (l.filter groupB) []).1 hs'
          rcases this with h1 | h1
          · exact hs s (List.mem_filter.1 h1).1
          · simp at h1
        have hbd : (insAll (l.filter groupB) []).length ≤ 100000 := by
          have h1 := insAll_len (l.filter groupB) []
          have h2 := List.length_filter_le groupB l
          simp only [List.length_nil] at h1
          omega
        simp [e7, e8, e118, e119, e120, hxf, hyf]
        refine callS.pure _ (fun _ => ACalls.lend [] (.cons (hx.lend []) (.cons (hy.lend []) .nil)) (ref13_SameSeens _ _ hbd hsh)) ?_
        simp
        refine callS.pure _ (fun _ => law_awake) ?_
        simp
end Go.Proofs.Ytmnmbkcdjpidgaa
