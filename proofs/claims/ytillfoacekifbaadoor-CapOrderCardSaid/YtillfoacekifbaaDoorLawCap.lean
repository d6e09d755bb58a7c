/-
  Contracts: the examples of the chapter of caps, and its first laws.
-/
import Derived.Test.YtillfoacekifbaaDoorCapA
import Derived.Test.YtillfoacekifbaaDoorCapP
import Derived.KernelRfl
set_option linter.unusedVariables false
set_option linter.unusedSimpArgs false
set_option maxRecDepth 100000
namespace Go.Proofs.YtillfoacekifbaaDoor
open Go Go.Abs Go.Toll
variable {gl : Globs} {h : AHeap}

def chgOf (cents time : Int) : TChg := ⟨[], [], [], 0, time, [], cents⟩
theorem law_charge (cents time : Int) : ACalls Tryd.prog gl 22 [.int .i64 cents, .int .i64 time] h fun v h' => v = .agg (encChg (chgOf cents time)) ∧ h' = h := by
  refine ACalls.fresh (ACalls.body Tryd.f22 _ mixed Tryd.func22 rfl rfl (by simp [Tryd.ntmps22]) ?_)
  simp [chgOf]
  exact .agg' (.cons (.data _ (by simp)) (.cons (.data _ (by simp)) (.cons (.data _ (by simp)) (.cons (.data _ (by simp)) (.cons (.data _ (by simp)) (.cons .nil (.cons (.data _ (by simp)) .nil)))))))

theorem encChg_chgOf (c t : Int) : encChg (chgOf c t) = [.str [], .str [], .str [], .int .i64 0, .int .i64 t, .ro [], .int .i64 c] := rfl
def dayC : TCap := ⟨[100], [], 1, 500⟩
def monC : TCap := ⟨[109], [], 0, 700⟩
def exL : List TChg := [chgOf 300 10, chgOf 300 20, chgOf 300 86400]
theorem cx1 : applyErr [dayC] exL = 0 := by decide +kernel
theorem cx2 : appApply [dayC] exL = [300, 200, 300] := by decide +kernel
theorem cx3 : applyErr [dayC, monC] exL = 0 := by decide +kernel
theorem cx4 : appApply [dayC, monC] exL = [300, 200, 200] := by decide +kernel
theorem cx5 : perI 1 2678400 = 31 := by decide +kernel
theorem cx6 : perI 0 2678400 = 1 := by decide +kernel
theorem cx7 : perI 1 (-1) = -1 := by decide +kernel
theorem cx8 : leftI ⟨[100], [], 1, 500⟩ (exL.take 1) 86399 = 200 := by decide +kernel
theorem cx9 : leftI ⟨[100], [], 1, 500⟩ (exL.take 2) 86399 = 0 := by decide +kernel
theorem cx10 : capErr dayC = 0 := by decide +kernel

theorem sameInts_b [GOk gl] (a b : List Int) (x y : AV) (hx : Rs 1 h x (a.map encN)) (hy : Rs 1 h y (b.map encN)) (ha : a.length ≤ 2000) :
    ACalls Tryd.prog gl 21 [x, y] h fun v h' => v = .bool (decide (a = b)) ∧ h' = h :=
  ACalls.borrow (by simp) (.cons (hx.frz (by simp)) (.cons (hy.frz (by simp)) .nil)) (ref25_SameInts a b ha)
theorem data_chg {x : TChg} (h : ∀ e ∈ x.lines, ∀ v ∈ e, v.Data) : ∀ v ∈ encChg x, v.Data := by
  intro v hv
  simp at hv
  rcases hv with rfl | rfl | rfl | rfl | rfl | rfl | rfl <;> simp
  exact h
theorem left_b [GOk gl] (hgl : gl 0 = some monthCells) (c : TCap) (l : List TChg) (t : Int) (x : AV) (hr : Rs 7 h x (l.map encChg)) (hl : l.length ≤ 2000) (hc : okC c.cents) (hx : ∀ x ∈ l, okC x.cents) (hD : ∀ x ∈ l, ∀ e ∈ x.lines, ∀ v ∈ e, v.Data) :
    ACalls Tryd.prog gl 17 [.agg (encCap c), x, .int .i64 t] h fun v h' => v = .int .i64 (leftI c l t) ∧ h' = h :=
  ACalls.borrow (by simp) (.cons (.data _ (by simp)) (.cons (hr.frz (fun e he v hv => by
    obtain ⟨y, hy, rfl⟩ := List.mem_map.1 he
    exact data_chg (hD y hy) v hv)) (.cons (.data _ (by simp)) .nil))) (cap_Left hgl c l t hl hc hx)

theorem law_alive [GOk gl] (hgl : gl 0 = some monthCells) : ACalls Tryd.prog gl 15 [] h fun v h' => v = .bool true ∧ h' = h := by
  refine ACalls.data (.bool _) (ACalls.body Tryd.f15 _ mixed Tryd.func15 rfl rfl (by simp [Tryd.ntmps15]) ?_)
  simp
  refine callS.pure _ (fun _ => law_charge 300 10) ?_
  simp
  refine callS.pure _ (fun _ => law_charge 300 20) ?_
  simp
  refine callS.pure _ (fun _ => law_charge 300 86400) ?_
  simp
  refine callS.pure _ (fun _ => cap_Apply hgl [dayC] exL _ _ (Rs.own (b := h.length + 3) (es := [encCap dayC]) (by simp [dayC]) (by simp)) (Rs.own (b := h.length + 2) (es := exL.map encChg) (by simp [exL]) (by simp)) (by simp) (by simp [exL])) ?_
  simp [cx1, cx2]
  refine callS.pure _ (fun _ => cap_Apply hgl [dayC, monC] exL _ _ (Rs.own (b := h.length + 4) (es := [encCap dayC, encCap monC]) (by simp [dayC, monC]) (by simp)) (Rs.own (b := h.length + 2) (es := exL.map encChg) (by simp [exL]) (by simp)) (by simp) (by simp [exL])) ?_
  simp [cx3, cx4]
  refine callS.pure _ (fun _ => sameInts_b [300, 200, 300] [300, 200, 300] _ _ (Rs.ro (es := [[.int .i64 300], [.int .i64 200], [.int .i64 300]]) (by simp)) (Rs.own (b := h.length + 5) (es := [[.int .i64 300], [.int .i64 200], [.int .i64 300]]) (by simp) (by simp)) (by simp)) ?_
  simp
  refine callS.pure _ (fun _ => sameInts_b [300, 200, 200] [300, 200, 200] _ _ (Rs.ro (es := [[.int .i64 300], [.int .i64 200], [.int .i64 200]]) (by simp)) (Rs.own (b := h.length + 6) (es := [[.int .i64 300], [.int .i64 200], [.int .i64 200]]) (by simp) (by simp)) (by simp)) ?_
  simp
  refine ⟨by decide, ?_⟩
  refine callS.pure _ (fun _ => cap_Period hgl dayC 2678400) ?_
  simp [dayC, cx5]
  refine callS.pure _ (fun _ => cap_Period hgl monC 2678400) ?_
  simp [monC, cx6]
  refine callS.pure _ (fun _ => cap_Period hgl dayC (-1)) ?_
  simp [dayC, cx7]
  refine callS.pure _ (fun _ => left_b hgl dayC (exL.take 1) 86399 _ (Rs.sub (b := h.length + 2) (all := exL.map encChg) (by simp [exL]) (by simp [exL]) (by simp [exL]) (by simp [exL])) (by simp [exL]) (by simp [dayC, okC]) (by simp [exL, chgOf, okC]) (by simp [exL, chgOf])) ?_
  simp [dayC, cx8]
  refine callS.pure _ (fun _ => left_b hgl dayC (exL.take 2) 86399 _ (Rs.sub (b := h.length + 2) (all := exL.map encChg) (by simp [exL]) (by simp [exL]) (by simp [exL]) (by simp [exL])) (by simp [exL]) (by simp [dayC, okC]) (by simp [exL, chgOf, okC]) (by simp [exL, chgOf])) ?_
  simp [dayC, cx9]
  refine callS.pure _ (fun _ => cap_Check dayC) ?_
  simp [cx10]

theorem law_Checks [GOk gl] (hgl : gl 0 = some monthCells) (c : TCap) (x : TChg) (t : Int) : ACalls Tryd.prog gl 3 [.agg (encCap c), .agg (encChg x), .int .i64 t] h fun v h' => v = .bool true := by
  refine ACalls.mono (ACalls.data (.bool true) (ACalls.body Tryd.f3 _ mixed Tryd.func3 rfl rfl (by simp [Tryd.ntmps3]) ?_)) fun _ _ h => h.1
  simp
  refine ⟨by decide, ?_⟩
  refine callS.pure _ (fun _ => cap_Check c) ?_
  simp
  refine callS.pure _ (fun _ => ref25_Check c) ?_
  simp
  refine callS.pure _ (fun _ => cap_Matches c x) ?_
  simp
  refine callS.pure _ (fun _ => ref25_Matches c x) ?_
  simp
  refine callS.pure _ (fun _ => cap_Period hgl c t) ?_
  simp
  refine callS.pure _ (fun _ => ref25_Period c t) ?_
  simp
  refine callS.pure _ (fun _ => law_alive hgl) ?_
  simp
theorem law_Lefts [GOk gl] (hgl : gl 0 = some monthCells) (c : TCap) (l : List TChg) (t : Int) : ACalls Tryd.prog gl 4 [.agg (encCap c), .ro (l.map encChg), .int .i64 t] h fun v h' => v = .bool true := by
  refine ACalls.mono (ACalls.data (.bool true) (ACalls.body Tryd.f4 _ mixed Tryd.func4 rfl rfl (by simp [Tryd.ntmps4]) ?_)) fun _ _ h => h.1
  simp
  refine callS.pure _ (fun _ => law_fits l) ?_
  simp
  refine callS.pure _ (fun _ => ref25_Check c) ?_
  simp
  intro hf hc
  have hl : l.length ≤ 60 ∧ ∀ x ∈ l, okC x.cents := by
    simp only [fitsC, Bool.and_eq_true, decide_eq_true_eq, List.all_eq_true] at hf
    refine ⟨hf.1, fun x hx => ?_⟩
    have := hf.2 x hx
    simpa [amountB, okC] using this
  have hcc : okC c.cents := by
    rw [capErr] at hc
    split at hc
    · simp at hc
    · split at hc
      · simp at hc
      · split at hc
        · simp at hc
        · rename_i h4
          have h4 : amountB c.cents = true := by simpa using h4
          simpa [okC, amountB] using h4
  refine ⟨by decide, ?_⟩
  refine callS.pure _ (fun _ => cap_Left hgl c l t (by omega) hcc hl.2) ?_
  simp
  refine callS.pure _ (fun _ => ref25_Left c l t (by omega) hcc hl.2) ?_
  simp
  refine callS.pure _ (fun _ => law_alive hgl) ?_
  simp
theorem law_Applies [GOk gl] (hgl : gl 0 = some monthCells) (l : List TCap) (ch : List TChg) (hD : ∀ x ∈ ch, ∀ e ∈ x.lines, ∀ v ∈ e, v.Data) : ACalls Tryd.prog gl 5 [.ro (l.map encCap), .ro (ch.map encChg)] h fun v h' => v = .bool true := by
  refine ACalls.mono (ACalls.data (.bool true) (ACalls.body Tryd.f5 _ mixed Tryd.func5 rfl rfl (by simp [Tryd.ntmps5]) ?_)) fun _ _ h => h.1
  simp
  intro h1 h2
  refine callS.pure _ (fun _ => cap_Apply hgl l ch _ _ (Rs.ro (by simp)) (Rs.ro (by simp)) (by omega) (by omega)) ?_
  simp
  refine callS.pure _ (fun _ => ref25_Apply l ch (by omega) (by omega) hD) ?_
  simp
  have hlen : ((if applyErr l ch = 0 then appApply l ch else [])).length ≤ 2000 := by
    split
    · rw [(app_get l ch).2.1]; omega
    · simp
  rw [ref_app]
  refine callS.pure _ (fun _ => ref25_SameInts _ _ hlen) ?_
  simp
  refine callS.pure _ (fun _ => law_alive hgl) ?_
  simp
end Go.Proofs.YtillfoacekifbaaDoor
