/-
  Contracts: strings.Compare, cmp.Or.
-/
import Derived.Test.YtcbaojkchiphkaaClock
import Derived.WalkKit
import Derived.Lib.Bytealg
import Derived.Lib.Walk
set_option linter.unusedVariables false
set_option linter.unusedSimpArgs false
set_option maxRecDepth 100000
namespace Go.Proofs.Ytcbaojkchiphkaa
open Go Go.Abs Go.Toll Go.RowKit
variable {gl : Globs} {h : AHeap}

theorem run_CompareString (a b : ByteArray) (w : World) :
    Calls Try.prog 58 #[.string a, .string b] w fun e w' => e = .returned (.int .i64 (Lib.compareBytes a.data.toList b.data.toList)) ∧ w' = w := by
  go_enter Try.func58, Try.ntmps58
  go_wp2
  rw [run_callFunc_extern Try.func69 (by kernel_rfl) (by kernel_rfl) (by kernel_rfl) (e := Extern.BytealgCompare.compare) (by kernel_rfl), Lib.run_compareString]
  simp only [Result.andThen]
  rw [Oper.upon_value]
  go_wp2
  go_ret
  exact ⟨rfl, rfl⟩

theorem bytealg_CompareString (a b : Bytes) : ACalls Try.prog gl 58 [.str a, .str b] h fun x h' => x = .int .i64 (Lib.compareBytes a b) ∧ h' = h := by
  refine ⟨⟨Try.f58, Try.func58, rfl, rfl⟩, fun J w vs hh hv => ?_⟩
  match vs, hv with
  | [v1, v2], hv =>
    have h1 := hv.2 0 _ v1 rfl rfl
    have h2 := hv.2 1 _ v2 rfl rfl
    cases h1; cases h2
    refine Calls.mono' (run_CompareString _ _ w) ?_
    rintro e w' ⟨rfl, rfl⟩
    exact ⟨_, _, J, h, rfl, hh, .int _ _, Evo.refl _ _ _, by simp, rfl⟩
  | [], hv => exact absurd hv.1 (by simp)
  | [_], hv => exact absurd hv.1 (by simp)
  | _ :: _ :: _ :: _, hv => exact absurd hv.1 (by simp)
theorem strings_Compare (a b : Bytes) : ACalls Try.prog gl 39 [.str a, .str b] h fun x h' => x = .int .i64 (Lib.compareBytes a b) ∧ h' = h := by
  refine ACalls.body Try.f39 _ mixed Try.func39 rfl rfl (by simp [Try.ntmps39]) ?_
  simp
  refine callS.pure _ (fun _ => bytealg_CompareString a b) ?_
  simp
theorem cmp_Or (x : AV) (l : List Int) (hx : Rd 1 h x (l.map fun n => [.int .i64 n])) (hl : l.length ≤ 1000) : ACalls Try.prog gl 38 [x] h fun v h' => v = .int .i64 (orI l) ∧ h' = h := by
  refine ACalls.data (by simp) (ACalls.body Try.f38 _ mixed Try.func38 rfl rfl (by simp [Try.ntmps38]) ?_)
  simp [hx.core, hx.gd, hx.lenOk, hx.alen]
  refine AWP.up mixed l.length (fun i fr h' => fr 3 = .int .i64 0 ∧ fr 6 = x ∧ fr 7 = .int .i64 l.length ∧ fr 8 = .int .i64 i ∧ orI l = orI (l.drop i) ∧ ∃ g, h' = h ++ g) 0 (by omega) ⟨by simp, by simp, by simp, by simp, by simp, [], by simp⟩ ?_
  rintro i fr h' hi ⟨e3, e6, e7, e8, hf, g, rfl⟩
  have hx := hx.append g
  rcases Nat.lt_or_ge i l.length with hlt | hge
  · obtain ⟨y, hg, hg'⟩ := get_lt hlt
    rw [drop_get hg, orI] at hf
    have ew := wrap_succ' (i := i) (by omega)
    have h0 : (0 : Int) ≤ i := by omega
    have h1 : (i : Int) < (l.map fun n => [AV.int .i64 n]).length := by simp; omega
    have hm : (l.map fun n => [AV.int .i64 n])[(i : Int).toNat]? = some [.int .i64 y] := by simp [hg]
    simp [e3, e6, e7, e8, hlt, hx.core, hx.gd, hx.lenOk, hx.alen, hx.iaddrOk, h0, h1, hx.icore, hx.igd, hx.loadV h0 h1 hm, hx.loadOk h0 h1 hm, ew]
    refine ⟨fun hy => by rw [hf, if_neg hy], fun hy => ⟨i + 1, by omega, by omega, by simp, by rw [hf, if_pos hy]⟩⟩
  · rw [List.drop_eq_nil_of_le hge] at hf
    simp [e3, e6, e7, e8, hf, orI, Nat.not_lt.2 hge]
theorem tariff_Rates1 (a b : Rate) : ACalls Try.prog gl 37 [.agg (encRate a), .agg (encRate b)] h fun v h' => v = .int .i64 (rateCmp a b) ∧ h' = h := by
  refine ACalls.data (by simp) (ACalls.body Try.f37 _ mixed Try.func37 rfl rfl (by simp [Try.ntmps37]) ?_)
  simp
  refine ⟨by decide, ?_⟩
  refine callS.pure _ (fun _ => strings_Compare _ _) ?_
  simp
  refine callS.pure _ (fun _ => strings_Compare _ _) ?_
  simp
  refine callS.pure _ (fun _ => strings_Compare _ _) ?_
  simp
  refine callS.pure _ (fun _ => cmp_Or _ [Lib.compareBytes a.src b.src, Lib.compareBytes a.dst b.dst, Lib.compareBytes a.band b.band] (Rd.own (b := h.length + 2) (es := [[.int .i64 (Lib.compareBytes a.src b.src)], [.int .i64 (Lib.compareBytes a.dst b.dst)], [.int .i64 (Lib.compareBytes a.band b.band)]]) (by simp) (by simp)) (by simp)) ?_
  simp [rateCmp]
theorem ref22_before (a b : Rate) : ACalls Try.prog gl 40 [.agg (encRate a), .agg (encRate b)] h fun v h' => v = .bool (beforeB a b) ∧ h' = h := by
  refine ACalls.data (by simp) (ACalls.body Try.f40 _ mixed Try.func40 rfl rfl (by simp [Try.ntmps40]) ?_)
  simp
  refine ⟨fun h1 => by simp [beforeB, h1], fun h1 => ⟨fun h2 => by simp [beforeB, h1, h2], fun h2 => by simp [beforeB, h1, h2]⟩⟩
end Go.Proofs.Ytcbaojkchiphkaa
