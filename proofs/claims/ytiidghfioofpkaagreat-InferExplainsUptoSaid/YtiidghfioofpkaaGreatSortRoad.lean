/-
  Contracts: roads sorted by their ends.
-/
import Derived.Test.YtiidghfioofpkaaGreatSortFLay
import Derived.Test.YtiidghfioofpkaaGreatTollGraph
set_option linter.unusedVariables false
set_option linter.unusedSimpArgs false
set_option maxRecDepth 100000
namespace Go.Proofs
open Go.Shelf Go.RowKit Go.Lib Go.Sort Go.Toll Go.Abs

def YtiidghfioofpkaaGreat.encRoadV (r : TRoad) : List Value := [.int .i64 r.to, .int .i64 r.min, .int .i64 r.max]
theorem YtiidghfioofpkaaGreat.encV_road : EncV 3 encRoad YtiidghfioofpkaaGreat.encRoadV := by
  refine ⟨by omega, fun _ => rfl, fun _ => rfl, fun x v hv => ?_, fun x c y hy => ?_⟩
  · simp [YtiidghfioofpkaaGreat.encRoadV] at hv
    rcases hv with rfl | rfl | rfl <;> rfl
  · have key : ∀ n : Int, (∀ J O w, VRel J O w (.int .i64 n) (.int .i64 n)) ∧ ∀ J O w v, VRel J O w (.int .i64 n) v → v = .int .i64 n := fun n => ⟨fun J O w => .int _ _, fun J O w v h => by cases h; rfl⟩
    match c, hy with
    | 0, hy => simp at hy; subst hy; exact ⟨_, rfl, key _⟩
    | 1, hy => simp at hy; subst hy; exact ⟨_, rfl, key _⟩
    | 2, hy => simp at hy; subst hy; exact ⟨_, rfl, key _⟩
    | (c + 3), hy => simp at hy
set_option maxHeartbeats 1000000 in
theorem YtiidghfioofpkaaGreat.cmp_road (x y : TRoad) (hx : 0 ≤ x.to ∧ x.to ≤ 1000) (hy : 0 ≤ y.to ∧ y.to ≤ 1000) (W : World) : Calls Tryz.prog 79 #[.agg (YtiidghfioofpkaaGreat.encRoadV x).toArray, .agg (YtiidghfioofpkaaGreat.encRoadV y).toArray] W fun e w' => e = .returned (.int .i64 (x.to - y.to)) ∧ ∃ q os', w' = grow (W.drewN q) os' := by
  have ew : IntKind.i64.wrap (x.to - y.to) = x.to - y.to := wrap64_of (by omega) (by omega)
  unfold YtiidghfioofpkaaGreat.encRoadV
  go_enter Tryz.func79, Tryz.ntmps79
  go_wp2
  go_ret
  refine ⟨by rw [← ew]; rfl, 0, _, by rw [alloc_eq_grow, alloc_eq_grow, grow_grow]; rfl⟩
end Go.Proofs
namespace Go.Proofs.YtiidghfioofpkaaGreat
open Go Go.Abs Go.Toll
variable {gl : Globs} {h : AHeap}
theorem slices_SortRoad (rows : List TRoad) (hr : ∀ r ∈ rows, 0 ≤ r.to ∧ r.to ≤ 1000) (hnd : (rows.map (·.to)).Nodup) (hl : rows.length ≤ 1000000) {lo : Nat} {x : AV} (hx : Ls 3 lo h x (rows.map encRoad)) :
    ACalls Tryz.prog gl 78 [x, .fn (.func 79) [] []] h fun v h' => v = .tup [] ∧ Ls 3 lo h' x ((rows.mergeSort fun a b => decide (a.to ≤ b.to)).map encRoad) ∧ h'.length = h.length ∧ ∀ (b : Nat) (o : AObj), h[b]? = some o → (∀ off len, x ≠ .own b off len) → h'[b]? = some o :=
  sortf_ls sortf_lays 3 sortf_agg sortf_size encRoad encRoadV encV_road (·.to) 79 (enters_of Tryz.func79 (by kernel_rfl) rfl) rows (fun x hx y hy W => cmp_road x y (hr x hx) (hr y hy) W) hnd (by omega) hx
end Go.Proofs.YtiidghfioofpkaaGreat
