/-
  Contract: the chapter's examples.
-/
import Derived.Test.YtcbaojkchiphkaaRates
import Derived.KernelRfl
set_option linter.unusedVariables false
set_option linter.unusedSimpArgs false
set_option maxRecDepth 100000
namespace Go.Proofs.Ytcbaojkchiphkaa
open Go Go.Abs Go.Toll
variable {gl : Globs} {h : AHeap}

theorem ex1 : rateI (bandOf exampleT 3600) exampleT [97] [] 1 = (200, 0) := by decide +kernel
theorem ex2 : rateI (bandOf exampleT 7200) exampleT [97] [] 1 = (100, 0) := by decide +kernel
theorem ex3 : rateI (bandOf exampleT 3600) exampleT [97] [] 2 = (0, 22) := by decide +kernel
theorem ex4 : atT [exampleT] 9999 = (exampleT, 0) := by decide +kernel
theorem ex5 : (atT [exampleT] 10000).2 = 22 := by decide +kernel
theorem ex6 : bandOf exampleT 3600 = [112, 101, 97, 107] := by decide +kernel
theorem ex7 : bandOf exampleT 7200 = [] := by decide +kernel
theorem ex8 : bandOf exampleT 90000 = [] := by decide +kernel
theorem ex9 : ratesS exampleT 1 = [⟨[97], [], 1, [], 100⟩, ⟨[97], [], 1, [112, 101, 97, 107], 200⟩] := by decide +kernel
theorem ex10 : tarEqB exampleT exampleT = true := by decide +kernel

theorem law_alive : ACalls Try.prog gl 17 [] h fun v h' => v = .bool true ∧ h' = h := by
  refine ACalls.data (.bool _) (ACalls.body Try.f17 _ mixed Try.func17 rfl rfl (by simp [Try.ntmps17]) ?_)
  simp
  refine callS.pure _ (fun _ => law_example) ?_
  simp
  refine callS.pure _ (fun _ => tariff_Rate exampleT [97] [] 1 3600 (by decide) (by decide)) ?_
  simp [ex1]
  refine callS.pure _ (fun _ => tariff_Rate exampleT [97] [] 1 7200 (by decide) (by decide)) ?_
  simp [ex2]
  refine callS.pure _ (fun _ => tariff_Rate exampleT [97] [] 2 3600 (by decide) (by decide)) ?_
  simp [ex3]
  refine callS.pure _ (fun _ => tariff_At _ [exampleT] (Rd.own (b := h.length + 1) (es := [encTariff exampleT]) (by simp) (by simp)) (by simp) (by simp; decide) 9999) ?_
  simp [ex4]
  refine callS.pure _ (fun _ => tariff_At _ [exampleT] (Rd.own (b := h.length + 3) (es := [encTariff exampleT]) (by simp) (by simp)) (by simp) (by simp; decide) 10000) ?_
  simp [ex5]
  refine callS.pure _ (fun _ => ref22_Same exampleT exampleT (by decide)) ?_
  simp [ex10]
  refine callS.pure _ (fun _ => tariff_Rates20 exampleT 1 (by decide)) ?_
  simp
  refine callS.pure _ (fun _ => tariff_Band exampleT 3600 (by decide)) ?_
  simp [ex6]
  refine callS.pure _ (fun _ => tariff_Band exampleT 7200 (by decide)) ?_
  simp [ex7]
  refine callS.pure _ (fun _ => tariff_Band exampleT 90000 (by decide)) ?_
  simp [ex8, ex9]
end Go.Proofs.Ytcbaojkchiphkaa
