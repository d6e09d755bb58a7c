/-
  Contracts: plates, characters that are easily confused.
-/
import Derived.Test.YtmnmbkcdjpidgaaTab
import Derived.Test.YtmnmbkcdjpidgaaAbsList
import Derived.Test.YtmnmbkcdjpidgaaAbsLax
import Derived.Test.YtmnmbkcdjpidgaaTollPlate
import Derived.WalkKit
import Derived.Lib.Bytealg
import Derived.Lib.Walk
set_option linter.unusedVariables false
set_option linter.unusedSimpArgs false
set_option maxRecDepth 100000
namespace Go.Proofs.Ytmnmbkcdjpidgaa
open Go Go.Abs Go.Toll Go.RowKit
variable {gl : Globs} {h : AHeap}

theorem run_IndexByte (a : ByteArray) (c : Int) (w : World) :
    Calls Try.prog 73 #[.string a, .int .u8 c] w fun e w' => e = .returned (.int .i64 (Lib.indexByte a.data.toList c.toNat.toUInt8)) ∧ w' = w := by
  go_enter Try.func73, Try.ntmps73
  go_wp2
  rw [run_callFunc_extern Try.func74 (by kernel_rfl) (by kernel_rfl) (by kernel_rfl) (e := Extern.BytealgIndexByte.indexByte) (by kernel_rfl), Lib.run_indexByteString]
  simp only [Result.andThen]
  rw [Oper.upon_value]
  go_wp2
  go_ret
  exact ⟨rfl, rfl⟩
theorem stringslite_IndexByte (s : Bytes) (c : Int) : ACalls Try.prog gl 73 [.str s, .int .u8 c] h fun x h' => x = .int .i64 (Lib.indexByte s c.toNat.toUInt8) ∧ h' = h := by
  refine ⟨⟨Try.f73, Try.func73, rfl, rfl⟩, fun J w vs hh hv => ?_⟩
  match vs, hv with
  | [v1, v2], hv =>
    have h1 := hv.2 0 _ v1 rfl rfl
    have h2 := hv.2 1 _ v2 rfl rfl
    cases h1; cases h2
    refine Calls.mono' (run_IndexByte _ _ w) ?_
    rintro e w' ⟨rfl, rfl⟩
    exact ⟨_, _, J, h, rfl, hh, .int _ _, Evo.refl _ _ _, by simp, rfl⟩
  | [], hv => exact absurd hv.1 (by simp)
  | [_], hv => exact absurd hv.1 (by simp)
  | _ :: _ :: _ :: _, hv => exact absurd hv.1 (by simp)
theorem strings_IndexByte (s : Bytes) (c : Int) : ACalls Try.prog gl 72 [.str s, .int .u8 c] h fun x h' => x = .int .i64 (Lib.indexByte s c.toNat.toUInt8) ∧ h' = h := by
  refine ACalls.body Try.f72 _ mixed Try.func72 rfl rfl (by simp [Try.ntmps72]) ?_
  simp
  refine callS.pure _ (fun _ => stringslite_IndexByte s c) ?_
  simp
theorem plate_Like (a b : UInt8) : ACalls Try.prog gl 67 [.int .u8 a.toNat, .int .u8 b.toNat] h fun v h' => v = .bool (likeB a b) ∧ h' = h := by
  refine ACalls.data (.bool _) (ACalls.body Try.f67 _ mixed Try.func67 rfl rfl (by simp [Try.ntmps67]) ?_)
  simp [-aops_cons]
  rw [aops_cons]; simp [-aops_cons]
  rw [aops_cons]; simp [-aops_cons, aset_nil, aset_cons]
  rw [aops_cons]; simp [-aops_cons, aset_nil, aset_cons]
  rw [aops_cons]; simp [-aops_cons, aset_nil, aset_cons]
  rw [aops_cons]; simp [-aops_cons, aset_nil, aset_cons]
  rw [aops_cons]; simp [-aops_cons, aset_nil, aset_cons]
  rw [aops_cons]; simp [-aops_cons, aset_nil, aset_cons]
  rw [aops_cons]; simp [-aops_cons, aset_nil, aset_cons]
  rw [aops_cons]; simp [-aops_cons, aset_nil, aset_cons]
  rw [show [(AV.int IntKind.u8 48, AV.str [79, 68, 81]), (AV.int IntKind.u8 49, AV.str [73]), (AV.int IntKind.u8 50, AV.str [90]), (AV.int IntKind.u8 53, AV.str [83]), (AV.int IntKind.u8 56, AV.str [66]), (AV.int IntKind.u8 54, AV.str [71]), (AV.int IntKind.u8 85, AV.str [86])] = likeT from rfl]
  have k : ∀ a : UInt8, (alook likeT (.int .u8 a.toNat)).getD (.str []) = .str (lookS a) := fun a => by
    rw [likeT_look]
    split <;> simp [*]
  have hk : ∀ a1 b1, (a1, b1) ∈ likeT → ∃ n, a1 = .int .u8 n := by
    intro a1 b1 hm
    simp [likeT] at hm
    rcases hm with ⟨rfl, _⟩ | ⟨rfl, _⟩ | ⟨rfl, _⟩ | ⟨rfl, _⟩ | ⟨rfl, _⟩ | ⟨rfl, _⟩ | ⟨rfl, _⟩ <;> exact ⟨_, rfl⟩
  generalize likeT = T at *
  simp [k]
  refine ⟨fun a1 b1 hm => by obtain ⟨n, rfl⟩ := hk a1 b1 hm; simp [cok], ?_⟩
  refine callS.pure _ (fun _ => strings_IndexByte _ _) ?_
  simp [k, like_look]
  refine ⟨fun q => ⟨q, fun a1 b1 hm => by obtain ⟨n, rfl⟩ := hk a1 b1 hm; simp [cok]⟩, ?_⟩
  refine callS.pure _ (fun _ => strings_IndexByte _ _) ?_
  simp [k]
theorem ref10_Like (a b : UInt8) : ACalls Try.prog gl 69 [.int .u8 a.toNat, .int .u8 b.toNat] h fun v h' => v = .bool (likeB a b) ∧ h' = h := by
  refine ACalls.data (.bool _) (ACalls.body Try.f69 _ mixed Try.func69 rfl rfl (by simp [Try.ntmps69]) ?_)
  simp
  rw [show [(48 : UInt8), 79, 48, 68, 48, 81, 49, 73, 50, 90, 53, 83, 56, 66, 54, 71, 85, 86] = flatB from rfl]
  have hfl : flatB.length = 18 := rfl
  refine AWP.up mixed 9 (fun i fr h' => fr 0 = .int .u8 a.toNat ∧ fr 1 = .int .u8 b.toNat ∧ fr 5 = .str flatB ∧ fr 6 = .int .i64 (2 * i : Nat) ∧ likeB a b = ((pairL.drop i).any fun p => (p.1 == a && p.2 == b) || (p.1 == b && p.2 == a)) ∧ ∃ g, h' = h ++ g) 0 (by omega)
    ⟨by simp, by simp, by simp, by simp, by simp [likeB], [], by simp⟩ ?_
  rintro i fr h' hi ⟨e0, e1, e5, e6, hf, g, rfl⟩
  rcases Nat.lt_or_ge i 9 with hlt | hge
  · obtain ⟨p, q, hp, hq, hpq⟩ := flat_at hlt
    have hp' := (List.getElem?_eq_some_iff.1 hp).2
    have hq' := (List.getElem?_eq_some_iff.1 hq).2
    rw [drop_get hpq] at hf
    have h1 : 2 * i < 18 := by omega
    have h2 : 2 * i + 1 < 18 := by omega
    have ew : IntKind.i64.wrap ((2 * i : Nat) + 1 : Int) = ((2 * i + 1 : Nat) : Int) := by rw [wrap64_of (by omega) (by omega)]; omega
    have ew2 : IntKind.i64.wrap ((2 * i : Nat) + 2 : Int) = ((2 * (i + 1) : Nat) : Int) := by rw [wrap64_of (by omega) (by omega)]; omega
    have u : ∀ x y : UInt8, ((x.toNat : Int) = (y.toNat : Int)) = (x = y) := fun x y => propext ⟨fun e => UInt8.toNat_inj.1 (by omega), fun e => by rw [e]⟩
    have h3 : ((2 * i : Nat) : Int) < 18 := by omega
    have h4 : (0 : Int) ≤ ((2 * i : Nat) : Int) + 1 := by omega
    have h5 : ((2 * i : Nat) : Int) + 1 < 18 := by omega
    rw [List.any_cons] at hf
    simp [-Int.natCast_mul, e0, e1, e5, e6, hfl, h1, h2, ew, ew2, hp, hp', hq, hq', u, h3, h4, h5]
    refine ⟨?_, fun c => Decidable.not_and_iff_or_not.1 (fun hh => c hh.1 hh.2), ?_, ?_⟩
    · intro c
      exact ⟨c, fun e => ⟨c, e⟩⟩
    · rintro (⟨rfl, rfl⟩ | ⟨rfl, rfl⟩) <;> (rw [hf]; simp)
    · intro c1 c2
      refine ⟨i + 1, by omega, by omega, rfl, ?_⟩
      rw [hf]
      have d1 : (p == a && q == b) = false := by
        rw [Bool.eq_false_iff]; intro hh; simp at hh; exact c1 hh.1 hh.2
      have d2 : (p == b && q == a) = false := by
        rw [Bool.eq_false_iff]; intro hh; simp at hh; exact c2 hh.1 hh.2
      simp only [d1, d2, Bool.or_false, Bool.false_or]
  · obtain rfl : i = 9 := by omega
    have : likeB a b = false := by rw [hf]; rfl
    simp [e0, e1, e5, e6, hfl, this]
end Go.Proofs.Ytmnmbkcdjpidgaa
