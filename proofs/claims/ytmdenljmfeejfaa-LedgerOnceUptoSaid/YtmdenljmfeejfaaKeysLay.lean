/-
  The keys of a map, sorted, laid at this program: no walk, applications of the kit's contracts.
-/
import Derived.Test.YtmdenljmfeejfaaSortLay
import Derived.Test.YtmdenljmfeejfaaAbsKeys
set_option linter.unusedVariables false
set_option linter.unusedSimpArgs false
namespace Go.Proofs.Ytmdenljmfeejfaa
open Go Go.Abs Go.Shelf Go.Proofs

def keys_ren : Ren := ⟨fun | 7 => 41 | 10 => 47 | n => n, fun | 23 => 64 | 26 => 9 | 3 => 3 | 28 => 69 | 0 => 0 | 27 => 68 | 33 => 61 | 4 => 4 | n => n, fun n => n⟩
theorem keys_lays : SlLaysZ.n7 Try.prog keys_ren := {
  mixed := by kernel_rfl,
  f7 := ⟨Try.f41.name, by decide, Try.func41.trans (congrArg some (by kernel_rfl))⟩,
  f10 := ⟨Try.f47.name, by decide, Try.func47.trans (congrArg some (by kernel_rfl))⟩,
  t0 := Try.underlying0,
  a0 := Try.isAgg0,
  z0 := Try.sizeOf0,
  v0 := Try.zeroValue0,
  t4 := Try.underlying4,
  a4 := Try.isAgg4,
  z4 := Try.sizeOf4,
  v4 := Try.zeroValue4,
  t23 := Try.underlying64,
  a23 := Try.isAgg64,
  z23 := Try.sizeOf64,
  v23 := Try.zeroValue64,
  t26 := Try.underlying9,
  a26 := Try.isAgg9,
  z26 := Try.sizeOf9,
  v26 := Try.zeroValue9,
  t27 := Try.underlying68,
  a27 := Try.isAgg68,
  z27 := Try.sizeOf68,
  v27 := Try.zeroValue68,
  t28 := Try.underlying69,
  a28 := Try.isAgg69,
  z28 := Try.sizeOf69,
  v28 := Try.zeroValue69,
  t33 := Try.underlying61,
  a33 := Try.isAgg61,
  z33 := Try.sizeOf61,
  v33 := Try.zeroValue61
}
def sorted_ren : Ren := ⟨fun | 6 => 40 | 8 => 45 | 9 => 46 | 11 => 49 | 13 => 51 | 12 => 50 | 23 => 61 | 24 => 62 | 14 => 52 | 15 => 53 | 16 => 54 | 17 => 55 | 18 => 56 | 19 => 57 | 20 => 58 | 21 => 59 | 22 => 60 | 25 => 63 | 26 => 64 | 27 => 65 | 28 => 66 | 29 => 67 | 30 => 68 | 31 => 69 | n => n, fun | 26 => 9 | 28 => 69 | 24 => 53 | 0 => 0 | 3 => 3 | 37 => 79 | 48 => 89 | 50 => 91 | 4 => 4 | 40 => 82 | 39 => 81 | 45 => 86 | 5 => 5 | 9 => 9 | 51 => 92 | 55 => 96 | 57 => 98 | 58 => 48 | 33 => 61 | n => n, fun n => n⟩
theorem sorted_lays : SlLaysZ.n6 Try.prog sorted_ren := {
  mixed := by kernel_rfl,
  f6 := ⟨Try.f40.name, by decide, Try.func40.trans (congrArg some (by kernel_rfl))⟩,
  f8 := ⟨Try.f45.name, by decide, Try.func45.trans (congrArg some (by kernel_rfl))⟩,
  f11 := ⟨Try.f49.name, by decide, Try.func49.trans (congrArg some (by kernel_rfl))⟩,
  t0 := Try.underlying0,
  a0 := Try.isAgg0,
  z0 := Try.sizeOf0,
  v0 := Try.zeroValue0,
  t24 := Try.underlying53,
  a24 := Try.isAgg53,
  z24 := Try.sizeOf53,
  v24 := Try.zeroValue53,
  t26 := Try.underlying9,
  a26 := Try.isAgg9,
  z26 := Try.sizeOf9,
  v26 := Try.zeroValue9,
  t28 := Try.underlying69,
  a28 := Try.isAgg69,
  z28 := Try.sizeOf69,
  v28 := Try.zeroValue69,
  i26 := by kernel_rfl
}

theorem maps_Keys {gl : Globs} {h : AHeap} (b : Nat) : ACalls Try.prog gl 41 [.map b] h fun v h' => v = .fn (.func 47) [] [.obj h.length] ∧ h' = h ++ [.pin (.map b)] := keys_abs keys_lays b
theorem slices_Sorted {gl : Globs} {h : AHeap} {α : Type} (enc : α → AV) (b p : Nat) (m : List (List UInt8 × α)) (hp : h[p]? = some (.pin (.map b))) (hb : h[b]? = some (.map (sM enc m))) (hnd : (m.map (·.1)).Nodup) (hlen : ∀ q ∈ m, q.1.length ≤ maxLen) (hsz : m.length ≤ 1000000) :
    ACalls Try.prog gl 40 [.fn (.func 47) [] [.obj p]] h fun v h' => v = .ro ((sortT (m.map (·.1))).map encT) ∧ h' = h := sorted_abs keys_lays sorted_lays sort_lays rfl keys_lays.t26 enc b p m hp hb hnd hlen hsz
end Go.Proofs.Ytmdenljmfeejfaa
