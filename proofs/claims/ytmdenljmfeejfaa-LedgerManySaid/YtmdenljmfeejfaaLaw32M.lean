/-
  Contracts: the law of many posts.
-/
import Derived.Test.YtmdenljmfeejfaaLaw32
import Derived.Test.YtmdenljmfeejfaaTollLedgerShape
set_option linter.unusedVariables false
set_option linter.unusedSimpArgs false
set_option maxRecDepth 100000
namespace Go.Proofs.Ytmdenljmfeejfaa
open Go Go.Abs Go.Toll
variable {gl : Globs} {h : AHeap}

def po1 (i : Nat) : TPo := ⟨[97], 1 - 2 * ((i % 2 : Nat) : Int)⟩
def pC (i : Nat) : List AV := encPo (po1 i)
def pz : List AV := [.str [], .int .i64 0]
theorem pz_len : pz.length = 2 := rfl
theorem pz_drop : pz.drop 2 = [] := rfl
def manyP (n : Nat) (b : Bool) : List TPo := if b = true then ((List.range n).map po1).set 0 ⟨[], 1⟩ else (List.range n).map po1
theorem manyP_len (n : Nat) (b : Bool) : (manyP n b).length = n := by unfold manyP; split <;> simp
theorem many_0 : enErr ⟨[107], 0, manyP 1024 false⟩ = 0 := by decide +kernel
theorem many_1 : enErr ⟨[107], 0, manyP 1024 true⟩ = 5 := by decide +kernel
theorem many_more (n : Nat) (b : Bool) (hn : 1024 < n) : enErr ⟨[107], 0, manyP n b⟩ = 3 := by
  have h1 : fieldB [107] = true := by decide
  unfold enErr
  rw [if_neg (by simp [h1]), if_neg (by simp), if_neg (by simp [manyP_len]; omega), if_pos (by simp [manyP_len]; omega)]
theorem many_okS (n : Nat) (b : Bool) : (⟨[107], 0, manyP n b⟩ : TEn).okS := by
  refine ⟨by simp, fun p hp => ?_⟩
  have key : ∀ q ∈ (List.range n).map po1, q.account.length ≤ 1000000 := fun q hq => by
    obtain ⟨i, _, rfl⟩ := List.mem_map.1 hq
    simp [po1]
  unfold manyP at hp
  split at hp
  · rcases List.mem_or_eq_of_mem_set hp with hp | rfl
    · exact key p hp
    · simp
  · exact key p hp
set_option maxHeartbeats 2000000 in
theorem law_Many [GOk gl] (m : Nat) (b : Bool) (hn : m < 256) : ACalls Try.prog gl 4 [.int .u8 m, .bool b] h fun v h' => v = .bool true := by
  refine ACalls.mono (ACalls.data (.bool true) (ACalls.body Try.f4 _ mixed Try.func4 rfl rfl (by simp [Try.ntmps4]) ?_)) fun _ _ h => h.1
  have w1 : IntKind.i64.wrap (m : Int) = m := wrap64_of (by omega) (by omega)
  obtain ⟨n, hn⟩ : ∃ n, n = 1024 + m := ⟨_, rfl⟩
  have w2 : IntKind.i64.wrap (1024 + (m : Int)) = (n : Int) := by rw [wrap64_of (by omega) (by omega)]; omega
  simp [w1, w2]
  intro hle hev
  refine ⟨⟨by omega, by omega⟩, ?_⟩
  have hz : [AV.str [], AV.int IntKind.i64 0] = pz := rfl
  rw [hz, fillC_zero pC]
  refine AWP.up mixed n (fun i fr h' => fr 0 = .int .u8 m ∧ fr 1 = .bool b ∧ fr 5 = .ptr (h.length + 1) 0 0 ∧ fr 6 = .int .i64 i ∧ h' = h ++ [.cells 2 (fillC pC pz n i), .cells 3 [[.str [107], .int .i64 0, .own h.length 0 n]]]) 0 (by omega) ⟨by simp, by simp, by simp, by simp, by simp⟩ ?_
  rintro i fr h' hi ⟨e0, e1, e5, e6, rfl⟩
  rcases Nat.lt_or_ge i n with hlt | hge
  · have ew := wrap_succ' (i := i) (by omega)
    have hl := fillC_len pC pz (n := n) (i := i) (by omega)
    have ha := fillC_at pC pz (n := n) (i := i) (by omega)
    have ha' := (List.getElem?_eq_some_iff.1 ha).2
    have ht : (i : Int).tmod 2 = ((i % 2 : Nat) : Int) := by
      rw [Int.tmod_eq_emod_of_nonneg (by omega)]; omega
    have hr : i % 2 < 2 := Nat.mod_lt _ (by omega)
    have v1 : IntKind.i64.wrap (2 * ((i % 2 : Nat) : Int)) = 2 * ((i % 2 : Nat) : Int) := wrap64_of (by omega) (by omega)
    have v2 : IntKind.i64.wrap (1 - 2 * ((i % 2 : Nat) : Int)) = 1 - 2 * ((i % 2 : Nat) : Int) := wrap64_of (by omega) (by omega)
    have v0 : IntKind.i64.wrap ((i : Int).tmod 2) = ((i % 2 : Nat) : Int) := by rw [ht]; exact wrap64_of (by omega) (by omega)
    obtain ⟨r, hr2⟩ : ∃ r : Int, r = ((i % 2 : Nat) : Int) := ⟨_, rfl⟩
    rw [← hr2] at ht v1 v2 v0
    simp [e0, e1, e5, e6, hlt, ew, hl, ha, ha', ht, v0, v1, v2, pz_len, pz_drop]
    exact ⟨i + 1, by omega, by omega, by omega, by rw [← fillC_set pC _ hlt, hr2]; rfl⟩
  obtain rfl : i = n := by omega
  rw [fillC_all]
  have hch : (List.range i).map pC = (manyP i false).map encPo := by rw [manyP, if_neg (by simp), List.map_map]; rfl
  rw [hch]
  have hml := manyP_len i false
  have h0 : (manyP i false)[0]? = some (po1 0) := by rw [manyP, if_neg (by simp), List.getElem?_map, List.getElem?_range (by omega)]; rfl
  have hset : ((manyP i false).map encPo).set 0 [.str [], .int .i64 (po1 0).cents] = (manyP i true).map encPo := by
    rw [manyP, manyP, if_neg (by simp), if_pos rfl, List.map_set]; rfl
  have chk : ∀ (H : AHeap) (b : Bool), H[h.length]? = some (.cells 2 ((manyP i b).map encPo)) → ACalls Try.prog gl 11 [.agg [.str [107], .int .i64 0, .own h.length 0 i]] H fun v h' => v = .int .i64 (enErr ⟨[107], 0, manyP i b⟩) ∧ h' = H := fun H b hH =>
    ACalls.borrow (args' := [.agg (encEn ⟨[107], 0, manyP i b⟩)]) (by simp) (.cons (.agg' (.cons (.data _ (by simp)) (.cons (.data _ (by simp)) (.cons (Frz.ownD (m := 2) (es := (manyP i b).map encPo) hH (by omega) (by simp [manyP_len]) (by rw [List.drop_zero, List.take_of_length_le (by simp [manyP_len])]) (encPo_data _)) .nil)))) .nil) (ledger_Check _ (many_okS i b))
  simp [e0, e1, e5, e6, hml, h0, hset]
  have q0 : m = 0 → i = 1024 := by omega
  refine ⟨fun hb => ⟨by omega, fun hm => ?_, fun hm => ?_⟩, fun hb => ⟨fun hm => ?_, fun hm => ?_⟩⟩
  · refine callS.pure _ (fun _ => chk _ true (by simp)) ?_
    rw [many_more i true (by omega)]
    simp
    refine callS.pure _ (fun _ => law32_alive) ?_
    simp
  · obtain rfl := q0 hm
    refine callS.pure _ (fun _ => chk _ true (by simp)) ?_
    rw [many_1]
    simp
    refine callS.pure _ (fun _ => law32_alive) ?_
    simp
  · refine callS.pure _ (fun _ => chk _ false (by simp)) ?_
    rw [many_more i false (by omega)]
    simp
    refine callS.pure _ (fun _ => law32_alive) ?_
    simp
  · obtain rfl := q0 hm
    refine callS.pure _ (fun _ => chk _ false (by simp)) ?_
    rw [many_0]
    simp
    refine callS.pure _ (fun _ => law32_alive) ?_
    simp
end Go.Proofs.Ytmdenljmfeejfaa
