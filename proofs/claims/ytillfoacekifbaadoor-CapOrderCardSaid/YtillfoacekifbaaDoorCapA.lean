/-
  Contracts: the reference's Apply.
-/
import Derived.Test.YtillfoacekifbaaDoorCapN
import Derived.Test.YtillfoacekifbaaDoorAbsList
set_option linter.unusedVariables false
set_option linter.unusedSimpArgs false
set_option maxRecDepth 100000
namespace Go.Proofs.YtillfoacekifbaaDoor
open Go Go.Abs Go.Toll
variable {gl : Globs} {h : AHeap}

set_option maxHeartbeats 1000000 in
theorem ref25_Apply [GOk gl] (l : List TCap) (ch : List TChg) (hl : l.length ≤ 2000) (hch : ch.length ≤ 2000) (hD : ∀ x ∈ ch, ∀ e ∈ x.lines, ∀ v ∈ e, v.Data) :
    ACalls Tryd.prog gl 20 [.ro (l.map encCap), .ro (ch.map encChg)] h fun v h' => v = .tup [.ro ((if applyErr l ch = 0 then refApply l ch else []).map encN), .int .i64 (applyErr l ch)] ∧ h' = h := by
  refine ACalls.fresh (ACalls.body Tryd.f20 _ mixed Tryd.func20 rfl rfl (by simp [Tryd.ntmps20]) ?_)
  simp
  refine callS.pure _ (fun _ => ref25_check l ch hl hch) ?_
  simp
  refine ⟨fun a => ?_, fun a => ⟨⟨by omega, by omega⟩, ⟨by omega, by omega⟩, ?_⟩⟩
  · rw [if_neg a]
    exact .tup' (.cons .nil (.cons (.data _ (by simp)) .nil))
  rw [if_pos a, a]
  have hcaps : ∀ c ∈ l, okC c.cents := fun c hc => by
    rw [applyErr] at a
    split at a
    · simp at a
    · split at a
      · rename_i h1 h2; exact absurd a h2
      · rename_i h1 h2
        have h3 := firstI_zero.1 (Decidable.not_not.1 h2) c hc
        rw [capErr] at h3
        split at h3
        · simp at h3
        · split at h3
          · simp at h3
          · split at h3
            · simp at h3
            · rename_i h4
              have h4 : amountB c.cents = true := by simpa using h4
              simpa [okC, amountB] using h4
  have hchgs : ∀ x ∈ ch, okC x.cents := fun x hx => by
    rw [applyErr] at a
    split at a
    · simp at a
    · split at a
      · rename_i h1 h2; exact absurd a h2
      · have h3 := firstI_zero.1 a x hx
        rw [chgErr] at h3
        split at h3
        · simp at h3
        · rename_i h4
          have h4 : amountB x.cents = true := by simpa using h4
          simpa [okC, amountB] using h4
  refine AWP.up mixed ch.length (fun n fr h' => fr 0 = .ro (l.map encCap) ∧ fr 1 = .ro (ch.map encChg) ∧ fr 7 = .own h.length 0 ch.length ∧ fr 8 = .own (h.length + 1) 0 ch.length ∧ fr 10 = .int .i64 n ∧
    ∃ (s : RSt) (rs : AV) (g : List AObj), fr 9 = rs ∧ h' = h ++ .cells 1 (s.out.map encN) :: .cells 1 (s.done.map encB) :: g ∧ s.out.length = ch.length ∧ s.done.length = ch.length ∧ s.done.count true = n ∧ s.paid.length = n ∧ (∀ y ∈ s.paid, okC y.cents ∧ ∀ e ∈ y.lines, ∀ v ∈ e, v.Data) ∧
    refApply l ch = (refRun l ch (ch.length - n) s).out ∧ Ls 7 (h.length + 2) ((h ++ [.cells 1 (s.out.map encN), .cells 1 (s.done.map encB)]) ++ g) rs (s.paid.map encChg)) 0 (by omega)
    ⟨by simp, by simp, by simp, by simp, by simp, ⟨List.replicate ch.length 0, List.replicate ch.length false, []⟩, .nil, [], by simp, by simp [List.map_replicate], by simp, by simp, by simp [List.count_replicate], by simp, by simp, rfl, Ls.nil⟩ ?_
  rintro n fr h' hn ⟨e0, e1, e7, e8, e10, s, rs, g, e9, rfl, ho, hd, hcnt, hpl, hpaid, hrun, hg⟩
  rcases Nat.lt_or_ge n ch.length with hlt | hge
  · obtain ⟨i, hni, hdi, hi⟩ := next_there hd (by omega)
    obtain ⟨x, hx, hx'⟩ := get_lt hi
    have hDch : (AV.ro (ch.map encChg)).Data := by simp; exact hD
    simp [e0, e1, e7, e8, e10, hlt]
    refine callS.pure _ (fun _ => ACalls.borrow (args' := [.ro (ch.map encChg), .ro (s.done.map encB)]) (by simp) (.cons (.data _ hDch) (.cons (Frz.ownD (m := 1) (es := s.done.map encB) (by simp) (by omega) (by simp; omega) (by rw [List.drop_zero, List.take_of_length_le (by simp; omega)]) (fun e he v hv => by
      obtain ⟨b, _, rfl⟩ := List.mem_map.1 he
      simp at hv; subst hv; simp)) .nil)) (ref25_next ch s.done hch hd)) ?_
    rw [hni]
    simp [e0, e1, e7, e8, e10, hlt, atI, hi, hx, hx']
    have c1 := hg.core
    have c2 := hg.gd
    have hfrz : ∀ g', Frz 0 (h ++ .cells 1 (s.out.map encN) :: .cells 1 (s.done.map encB) :: (g ++ g')) rs (.ro (s.paid.map encChg)) := fun g' => by
      have hg' := hg.base (h₁ := h ++ [.cells 1 (s.out.map encN), .cells 1 (s.done.map encB)]) (by simp) rfl g'
      have hg' := hg'.frz (m := 0) (by omega) (fun e he v hv => by
        obtain ⟨y, hy, rfl⟩ := List.mem_map.1 he
        have hyd := (hpaid y hy).2
        simp at hv
        rcases hv with rfl | rfl | rfl | rfl | rfl | rfl | rfl <;> simp
        exact hyd)
      simpa using hg'
    have hpc : ∀ y ∈ s.paid, okC y.cents := fun y hy => (hpaid y hy).1
    -- the caps, one after the other: the charge's cell falls
    have hxc := hchgs x (List.mem_of_getElem? hx)
    refine AWP.up mixed l.length (fun k fr h' => fr 0 = .ro (l.map encCap) ∧ fr 1 = .ro (ch.map encChg) ∧ fr 7 = .own h.length 0 ch.length ∧ fr 8 = .own (h.length + 1) 0 ch.length ∧ fr 10 = .int .i64 n ∧ fr 9 = rs ∧ fr 11 = .int .i64 i ∧ fr 12 = .ptr (h.length + (g.length + 1 + 1)) 0 0 ∧ fr 13 = .int .i64 k ∧
      ∃ (n' : Int) (g2 : List AObj), payN l s.paid x x.cents = payN (l.drop k) s.paid x n' ∧ okC n' ∧ h' = h ++ .cells 1 (s.out.map encN) :: .cells 1 (s.done.map encB) :: (g ++ .cells 7 [encChg { x with cents := n' }] :: g2)) 0 (by omega)
      ⟨by simp [e0], by simp [e1], by simp [e7], by simp [e8], by simp [e10], by simp [e9], by simp, by simp, by simp, x.cents, [], by simp, hxc, by simp⟩ ?_
    clear e0 e1 e7 e8 e10 e9
    rintro k fr h' hk ⟨e0, e1, e7, e8, e10, e9, e11, e12, e13, n', g2, hpay, hn', rfl⟩
    rcases Nat.lt_or_ge k l.length with hlt2 | hge2
    · obtain ⟨c, hc, hc'⟩ := get_lt hlt2
      have hcc := hcaps c (List.mem_of_getElem? hc)
      have ewk := wrap_succ' (i := k) (by omega)
      rw [drop_get hc] at hpay
      have hstep : payN (c :: l.drop (k + 1)) s.paid x n' = payN (l.drop (k + 1)) s.paid x (if matchB c x then min n' (leftI c s.paid x.time) else n') := rfl
      rw [hstep] at hpay
      simp [e0, e1, e7, e8, e9, e10, e11, e12, e13, hlt2, hc, hc', ewk]
      refine ⟨by decide, ?_⟩
      refine callS.pure _ (fun _ => ref25_Matches c { x with cents := n' }) ?_
      simp [e0, e1, e7, e8, e9, e10, e11, e12, e13, hlt2, hc, hc', ewk, c1, c2]
      refine ⟨fun hm => ⟨by decide, ?_⟩, fun hm => ?_⟩
      · refine callS.pure _ (fun _ => ACalls.borrow (args' := [.agg (encCap c), .ro (s.paid.map encChg), .int .i64 x.time]) (by simp) (.cons (.data _ (by simp)) (.cons (hfrz _) (.cons (.data _ (by simp)) .nil))) (ref25_Left c s.paid x.time (by omega) hcc hpc)) ?_
        simp [e0, e1, e7, e8, e9, e10, e11, e12, e13, hlt2, hc, hc', ewk, c1, c2]
        refine ⟨k + 1, by omega, by omega, by omega, by rw [hpay, if_pos (show matchB c x = true from hm)], ?_⟩
        have := leftI_ok c s.paid x.time hcc (fun y hy => (hpc y hy).1)
        unfold okC at *; omega
      · exact ⟨k + 1, by omega, by omega, by omega, by rw [hpay, if_neg (by rw [show matchB c x = false from hm]; simp)], hn'⟩
    · rw [List.drop_eq_nil_of_le hge2] at hpay
      have hpay : payN l s.paid x x.cents = n' := hpay
      have hio : s.out[i]? = some s.out[i] := List.getElem?_eq_getElem (by omega)
      have hlo : i < s.out.length := by omega
      have hld : i < s.done.length := by omega
      have ewn := wrap_succ' (i := n) (by omega)
      simp [-appendOk, -appendK, e0, e1, e7, e8, e9, e10, e11, e12, e13, Nat.not_lt.2 hge2, hio, hdi, ho, hd, hi, ewn, c1, c2]
      have hm1 : (s.out.map encN).set i [.int .i64 n'] = (s.out.set i n').map encN := by rw [List.map_set]; rfl
      have hm2 : (s.done.map encB).set i [.bool true] = (s.done.set i true).map encB := by rw [List.map_set]; rfl
      have hg' := hg.base (h₁ := h ++ [.cells 1 ((s.out.set i n').map encN), .cells 1 ((s.done.set i true).map encB)]) (by simp) (by simp) (.cells 7 [encChg { x with cents := n' }] :: (g2 ++ [.cells 7 [encChg { x with cents := n' }]]))
      simp only [hm1, hm2]
      refine append_ls (lo := h.length + 2) (n := 7) (es := s.paid.map encChg) (ys := [encChg { x with cents := n' }]) (by simpa using hg') (by simp) (by simp [appOk]) (by simp; omega) ?_
      intro s' h'' hs' hgr
      obtain ⟨g3, rfl⟩ := hgr.base (h ++ [.cells 1 ((s.out.set i n').map encN), .cells 1 ((s.done.set i true).map encB)]) (by simp) ⟨_, by simp; rfl⟩
      have hxs : refStep l ch s = ⟨s.out.set i n', s.done.set i true, s.paid ++ [{ x with cents := n' }]⟩ := by simp only [refStep, hni, hx, hpay]
      have hcnt2 : (s.done.set i true).count true = n + 1 := by
        rw [List.count_set (by omega)]
        have := (List.getElem?_eq_some_iff.1 hdi).2
        rw [this]; simp [hcnt]
      simp [e0, e1, e7, e8, e9, e10, e11, e12, e13, ewn, hs'.core, hs'.gd]
      refine ⟨n + 1, by omega, by omega, by omega, ⟨s.out.set i n', s.done.set i true, s.paid ++ [{ x with cents := n' }]⟩, g3, by simp, by simpa using ho, by simpa using hd, hcnt2, by simp [hpl], ?_, ?_, by simpa using hs'⟩
      · intro y hy
        rcases List.mem_append.1 hy with hy | hy
        · exact hpaid y hy
        · rw [List.mem_singleton.1 hy]
          exact ⟨hn', hD x (List.mem_of_getElem? hx)⟩
      · rw [hrun, show ch.length - n = (ch.length - (n + 1)) + 1 by omega, refRun, hxs]
  · obtain rfl : n = ch.length := by omega
    rw [Nat.sub_self, refRun] at hrun
    simp [e0, e1, e7, e8, e10]
    rw [hrun]
    exact .tup' (.cons (Frz.ownD (m := 1) (es := s.out.map encN) (by simp) (by omega) (by simp; omega) (by rw [List.drop_zero, List.take_of_length_le (by simp; omega)]) (by simp)) (.cons (.data _ (by simp)) .nil))
end Go.Proofs.YtillfoacekifbaaDoor
