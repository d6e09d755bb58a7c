/-
  Soundness of the operations that only compute or read: all of them together.
-/
import Derived.Test.YtcbaojkchiphkaaAbsSound
set_option linter.unusedVariables false
set_option linter.unusedSimpArgs false
namespace Go.Abs
open Go

section
variable {P : Program} {gl : Globs} {J : List Blk} {h : AHeap} {w : World} {O : Nat → Prop} {fr : AFrame}

theorem shows_of_vrels {xs : List AV} {us : List Value} (hl : xs.length = us.length) (hs : ∀ (i : Nat) (x : AV) (v : Value), xs[i]? = some x → us[i]? = some v → VRel J O w x v) : Shows J O w xs us 0 := by
  intro i x hx
  have hi : i < us.length := by rw [← hl]; exact (List.getElem?_eq_some_iff.1 hx).1
  exact ⟨us[i], by rw [Nat.zero_add]; exact List.getElem?_eq_getElem hi, hs i x _ hx (List.getElem?_eq_getElem hi)⟩

theorem flat_ok {d : Nat} {t : TypeId} {bs : List BK} (hf : flat P d t = some bs) : (tinfo P t).ok = true := by
  cases d with
  | zero => simp [flat] at hf
  | succ d =>
    unfold flat at hf
    unfold tinfo
    cases hu : P.underlying t with
    | none => simp [hu] at hf
    | some td =>
      cases hi : P.info? t with
      | none => cases td <;> simp [hu, hi] at hf
      | some i => simp
theorem flat_cells {d : Nat} {t : TypeId} {bs : List BK} (hf : flat P d t = some bs) : (tinfo P t).cells = bs.length := by
  obtain ⟨td, i, hu, hi, e⟩ := tinfo_ok (flat_ok hf)
  rw [e]
  simp only
  cases d with
  | zero => simp [flat] at hf
  | succ d =>
    unfold flat at hf
    rw [hu, hi] at hf
    cases td <;> simp only at hf <;> first | (simp at hf; done) | skip
    all_goals
      repeat (split at hf <;> first | (simp at hf; done) | skip)
      all_goals first
        | (simp at hf; subst hf; simp; omega)
        | (rename_i h1; injection hf with hf; subst hf; rw [List.length_flatMap, List.map_const', List.length_range, List.sum_replicate_nat]; omega)
        | (injection hf with hf; subst hf; simp_all)

theorem vrel_cells {x : AV} {u : Value} (hx : VRel J O w x u) (hna : ∀ cs, x ≠ .agg cs) : acells x = [x] := by
  cases x <;> first | rfl | exact absurd rfl (hna _)

/-- Two values of a type that is made of basic kinds. -/
theorem equal_vals {t : TypeId} {bs : List BK} (hf : flat P 50 t = some bs) {x y : AV} {u v : Value} (hx : VRel J O w x u) (hy : VRel J O w y v) (hax : aggFit (tinfo P t) x) (hay : aggFit (tinfo P t) y)
    (hc : cok bs (acells x) (acells y)) (m : Nat) (hm : 50 ≤ m) : (Op.equalIn m t u v).run P w = .ok (ceq (acells x) (acells y)) w := by
  have hl := cok_len _ _ _ hc
  have hok := flat_ok hf
  have hcells := flat_cells hf
  unfold aggFit at hax hay
  cases hag : (tinfo P t).agg with
  | true =>
    rw [hag] at hax hay
    cases x <;> simp only at hax
    cases y <;> simp only at hay
    rename_i xs ys
    simp only [acells] at hl hc ⊢
    cases hx with
    | agg _ us hl1 ho1 h1 =>
      cases hy with
      | agg _ vs hl2 ho2 h2 =>
        have h0 := equal_flat (P := P) 50 t bs hf xs ys us vs 0 m hm hc (shows_of_vrels hl1 h1) (shows_of_vrels hl2 h2)
        have p1 : ∀ us : List Value, us.length = bs.length → (part t us.toArray 0).run P w = .ok (.agg us.toArray) w := by
          intro us hus
          simp only [part, Sem.run_bind, run_isAgg' hok, hag, Result.andThen_ok, if_true, run_sizeOf' hok, hcells, Sem.run_pure]
          congr 2
          simp [← hus]
        rw [Sem.run_bind, p1 us (by omega), Result.andThen_ok, Sem.run_bind, p1 vs (by omega), Result.andThen_ok] at h0
        exact h0
  | false =>
    rw [hag] at hax hay
    have hnx : ∀ cs, x ≠ .agg cs := by rintro cs rfl; simp at hax
    have hny : ∀ cs, y ≠ .agg cs := by rintro cs rfl; simp at hay
    rw [vrel_cells hx hnx, vrel_cells hy hny] at hc ⊢
    have h0 := equal_flat (P := P) 50 t bs hf [x] [y] [u] [v] 0 m hm hc (shows_of_vrels rfl (VRels.cons hx .nil).2) (shows_of_vrels rfl (VRels.cons hy .nil).2)
    have p1 : ∀ u : Value, (part t [u].toArray 0).run P w = .ok u w := by
      intro u
      simp [part, run_isAgg' hok, hag]
    rw [Sem.run_bind, p1 u, Result.andThen_ok, Sem.run_bind, p1 v, Result.andThen_ok] at h0
    exact h0

theorem run_eql_slices (w : World) (t : TypeId) (x y : Option Addr × Nat × Nat) (b : Bool) (he : ∀ d, (Op.equalIn (d + 1) t (.slice x.1 x.2.1 x.2.2) (.slice y.1 y.2.1 y.2.2)).run P w = .ok b w) :
    (binOp .eql t (.slice x.1 x.2.1 x.2.2) (.slice y.1 y.2.1 y.2.2)).run P w = .ok (.bool b) w ∧ (binOp .neq t (.slice x.1 x.2.1 x.2.2) (.slice y.1 y.2.1 y.2.2)).run P w = .ok (.bool (!b)) w := by
  have h0 : (Op.equal t (.slice x.1 x.2.1 x.2.2) (.slice y.1 y.2.1 y.2.2)).run P w = .ok b w := he 9999
  constructor
  · simp only [binOp, Sem.run_bind, h0, Result.andThen_ok, Sem.run_pure]
  · simp only [binOp, Sem.run_bind, h0, Result.andThen_ok, Sem.run_pure]

theorem abin_sound {op : BinOp} {t : TypeId} {X Y : Operand} {x y : AV} {u v : Value} (hx : VRel J O w x u) (hy : VRel J O w y v) (hok : abinOk P op t x y) :
    ∃ r, (do eqGuard op t X Y u v; binOp op t u v).run P w = .ok r w ∧ VRel J O w (abin op x y) r := by
  unfold abinOk at hok
  split at hok
  · cases hx; cases hy; exact ibin_sound op t X Y _ _ _ _ hok
  · cases hx; cases hy; exact sbin_sound op t X Y _ _ hok
  · cases hx; cases hy
    obtain ⟨ho, hk⟩ := hok
    obtain ⟨d, hu, hd, hok', _⟩ := kind_und hk (by simp)
    have hu' : P.underlying t = some .bool := by cases d <;> simp [tkOf] at hd; exact hu
    simp only [eqGuard_at_bool, Sem.run_bind, Sem.run_pure, Result.andThen_ok]
    rcases ho with rfl | rfl
    · exact ⟨_, run_eql_bool w t _ _ hu', .bool _⟩
    · exact ⟨_, run_neq_bool w t _ _ hu', .bool _⟩
  · rename_i xs ys
    cases hx with
    | agg _ us hl1 ho1 h1 =>
      cases hy with
      | agg _ vs hl2 ho2 h2 =>
        obtain ⟨ho, hg, hag, bs, hf, hc⟩ := hok
        have he := equal_vals (P := P) hf (.agg xs us hl1 ho1 h1) (.agg ys vs hl2 ho2 h2) (by simp [aggFit, hag]) (by simp [aggFit, hag]) hc 10000 (by omega)
        simp only [acells] at he
        rcases ho with rfl | rfl
        · refine ⟨_, ?_, .bool _⟩
          rw [Sem.run_bind, run_eqGuard_agg w _ _ _ _ _ _ hg, Result.andThen_ok, run_eql_struct, he]; rfl
        · refine ⟨_, ?_, .bool _⟩
          rw [Sem.run_bind, run_eqGuard_agg w _ _ _ _ _ _ hg, Result.andThen_ok, run_neq_struct, he]; rfl
  · cases hx; cases hy
    obtain ⟨ho, e, he⟩ := hok
    have hu := (kind_slice he).1
    simp only [eqGuard_at_slice, Sem.run_bind, Sem.run_pure, Result.andThen_ok]
    rcases ho with rfl | rfl
    · exact ⟨_, (run_eql_slices w t (none, 0, 0) (none, 0, 0) true (fun d => by simp only [Op.equalIn, Sem.run_bind, run_underlying hu, Result.andThen_ok]; rfl)).1, .bool _⟩
    · exact ⟨_, (run_eql_slices w t (none, 0, 0) (none, 0, 0) true (fun d => by simp only [Op.equalIn, Sem.run_bind, run_underlying hu, Result.andThen_ok]; rfl)).2, .bool _⟩
  · cases hx; cases hy
    obtain ⟨ho, e, he⟩ := hok
    have hu := (kind_slice he).1
    simp only [eqGuard_at_slice, Sem.run_bind, Sem.run_pure, Result.andThen_ok]
    rcases ho with rfl | rfl
    · exact ⟨_, (run_eql_slices w t (some _, _, _) (none, 0, 0) false (fun d => by simp only [Op.equalIn, Sem.run_bind, run_underlying hu, Result.andThen_ok]; rfl)).1, .bool _⟩
    · exact ⟨_, (run_eql_slices w t (some _, _, _) (none, 0, 0) false (fun d => by simp only [Op.equalIn, Sem.run_bind, run_underlying hu, Result.andThen_ok]; rfl)).2, .bool _⟩
  · exact hok.elim

theorem aun_sound {op : UnOp} {x : AV} {u : Value} (hx : VRel J O w x u) (hok : aunOk op x) : ∃ r, (Op.unary op u).run P w = .ok r w ∧ VRel J O w (aun op x) r := by
  unfold aunOk at hok
  split at hok
  · cases hx; exact ⟨_, by simp [Op.unary, Op.intArith], .int _ _⟩
  · cases hx; exact ⟨_, by simp [Op.unary], .bool _⟩
  · exact hok.elim

theorem aconv_sound {src dst : TypeId} {x : AV} {u : Value} (hx : VRel J O w x u) (hok : aconvOk P src dst x) : ∃ r, (convert src dst u).run P w = .ok r w ∧ VRel J O w (aconv P dst x) r := by
  obtain ⟨hs, hok⟩ := hok
  obtain ⟨ds, is, hds, _, _⟩ := tinfo_ok hs
  split at hok
  · rename_i k k' n hk
    obtain ⟨d, hu, hd, _, _⟩ := kind_und hk (by simp)
    have hu' : P.underlying dst = some (.int k) := by cases d <;> simp [tkOf] at hd; subst hd; exact hu
    cases hx
    refine ⟨_, ?_, by simp only [aconv, hk]; exact .int _ _⟩
    simp only [convert, Sem.run_bind, run_underlying hds, run_underlying hu', Result.andThen_ok]
    cases ds <;> rfl
  · rename_i s hk
    obtain ⟨d, hu, hd, _, _⟩ := kind_und hk (by simp)
    have hu' : P.underlying dst = some .string := by cases d <;> simp [tkOf] at hd; exact hu
    cases hx
    refine ⟨_, ?_, by simp only [aconv, hk]; exact .str _⟩
    simp only [convert, Sem.run_bind, run_underlying hds, run_underlying hu', Result.andThen_ok]
    cases ds <;> rfl
  · exact hok.elim

theorem int_of {x : AV} {v : Value} (hx : VRel J O w x v) (hi : isInt x) : ∃ k, v = .int k (aint x) := by
  unfold isInt at hi
  split at hi
  · cases hx; exact ⟨_, rfl⟩
  · exact hi.elim

theorem run_bounds {isSlice : Bool} {len cap : Nat} (hlc : len ≤ cap) (hs : isSlice = false → len = cap) {lo hi : Option Value} {l' h' : Option Int} (hl : ∀ v ∈ lo, ∃ k n, v = .int k n ∧ l' = some n) (hln : lo = none → l' = none)
    (hh : ∀ v ∈ hi, ∃ k n, v = .int k n ∧ h' = some n) (hhn : hi = none → h' = none) (hok : sliceOk len l' h') :
    (Instr.sliceBounds isSlice len cap lo hi none).run P w = .ok ((l'.map Int.toNat).getD 0, hiOf h' len, cap) w ∧ (l'.map Int.toNat).getD 0 ≤ hiOf h' len ∧ hiOf h' len ≤ len := by
  obtain ⟨h1, h2⟩ := hok
  have hb : hiOf h' len ≤ len := by
    cases h' with
    | none => simp [hiOf]
    | some n => simp only [loOk] at h1; simp [hiOf]; omega
  have ha : (l'.map Int.toNat).getD 0 ≤ hiOf h' len := by
    cases l' with
    | none => simp
    | some n => simp only [loOk] at h2; simp; omega
  refine ⟨?_, ha, hb⟩
  cases hi with
  | none =>
    cases lo with
    | none =>
      rw [hln rfl, hhn rfl]
      simp [Instr.sliceBounds, hiOf]
    | some v =>
      obtain ⟨k, n, rfl, rfl⟩ := hl v rfl
      rw [hhn rfl] at h2 ⊢
      simp only [loOk, hiOf, Option.map_none, Option.getD_none] at h2
      simp [Instr.sliceBounds, hiOf, run_sliceBound w k n len _ h2.1 h2.2]
  | some u =>
    obtain ⟨k, n, rfl, rfl⟩ := hh u rfl
    simp only [loOk] at h1
    cases lo with
    | none =>
      rw [hln rfl]
      simp [Instr.sliceBounds, hiOf, run_sliceBound w k n cap _ h1.1 (by omega)]
    | some v =>
      obtain ⟨k', n', rfl, rfl⟩ := hl v rfl
      simp only [loOk, hiOf, Option.map_some, Option.getD_some] at h2
      simp [Instr.sliceBounds, hiOf, run_sliceBound w k n cap _ h1.1 (by omega), run_sliceBound w k' n' n.toNat _ h2.1 h2.2]
end
end Go.Abs
