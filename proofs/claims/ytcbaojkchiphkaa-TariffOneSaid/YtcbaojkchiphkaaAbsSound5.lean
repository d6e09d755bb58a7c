/-
  Soundness of the operations that only compute or read: structs and arrays made of parts, builtins; all together.
-/
import Derived.Test.YtcbaojkchiphkaaAbsSound4
set_option linter.unusedVariables false
set_option linter.unusedSimpArgs false
namespace Go.Abs
open Go

section
variable {P : Program} {gl : Globs} {J : List Blk} {h : AHeap} {w : World} {O : Nat → Prop} {fr : AFrame}

/-- Numbered parts. -/
def PRels (J : List Blk) (O : Nat → Prop) (w : World) : List (Nat × AV) → List (Nat × Value) → Prop
  | [], [] => True
  | (i, x) :: ps, (j, v) :: qs => i = j ∧ VRel J O w x v ∧ PRels J O w ps qs
  | _, _ => False

theorem fillS_sound {T : TI} {place : Nat → Option (Nat × Nat)} (hp : ∀ i, i < (fieldsOf T).length → place i = some (foff T i, fsz T i)) : ∀ (ps : List (Nat × AV)) (qs : List (Nat × Value)) (cs : List AV) (vs : List Value), PRels J O w ps qs → VRels J O w cs vs →
    (∀ v ∈ vs, v.oneCell' = true) → cs.length = T.cells → buildSOk T ps → ∃ vs', Instr.fill place vs.toArray qs = some vs'.toArray ∧ VRels J O w (abuildS T ps cs) vs' ∧ ∀ v ∈ vs', v.oneCell' = true
  | [], [], cs, vs, _, h1, h2, _, _ => ⟨vs, rfl, h1, h2⟩
  | [], _ :: _, _, _, h, _, _, _, _ => h.elim
  | (_, _) :: _, [], _, _, h, _, _, _, _ => h.elim
  | (i, x) :: ps, (j, v) :: qs, cs, vs, h, h1, h2, hl, hok => by
    obtain ⟨rfl, hv, hps⟩ := h
    obtain ⟨hs, hi, hlen, hle, hok'⟩ := hok
    obtain ⟨hc1, hc2⟩ := cells_sound hv hs
    have hsz : v.cells.size = fsz T i := by rw [← hlen, hc1.1]; simp
    have hvs := h1.1
    obtain ⟨vs', e1, e2, e3⟩ := fillS_sound hp ps qs (splice cs (foff T i) (acells x)) (splice vs (foff T i) v.cells.toList) hps (h1.splice hc1 (by rw [hlen]; omega))
      (fun u hu => (mem_splice hu).elim (h2 u) (hc2 u)) (by rw [length_splice' _ _ _ (by rw [hlen]; omega)]; exact hl) hok'
    refine ⟨vs', ?_, e2, e3⟩
    simp only [Instr.fill, hp i hi]
    rw [if_neg (by simp [hsz]; omega)]
    rw [← e1]
    congr 1
    exact fill_splice (foff T i) v.cells vs (by omega)

theorem fillA_sound {n cells : Nat} {place : Nat → Option (Nat × Nat)} (hp : ∀ i, place i = some (i * n, n)) : ∀ (ps : List (Nat × AV)) (qs : List (Nat × Value)) (cs : List AV) (vs : List Value), PRels J O w ps qs → VRels J O w cs vs →
    (∀ v ∈ vs, v.oneCell' = true) → cs.length = cells → buildAOk n cells ps → ∃ vs', Instr.fill place vs.toArray qs = some vs'.toArray ∧ VRels J O w (abuildA n ps cs) vs' ∧ ∀ v ∈ vs', v.oneCell' = true
  | [], [], cs, vs, _, h1, h2, _, _ => ⟨vs, rfl, h1, h2⟩
  | [], _ :: _, _, _, h, _, _, _, _ => h.elim
  | (_, _) :: _, [], _, _, h, _, _, _, _ => h.elim
  | (i, x) :: ps, (j, v) :: qs, cs, vs, h, h1, h2, hl, hok => by
    obtain ⟨rfl, hv, hps⟩ := h
    obtain ⟨hs, hlen, hle, hok'⟩ := hok
    obtain ⟨hc1, hc2⟩ := cells_sound hv hs
    have hsz : v.cells.size = n := by rw [← hlen, hc1.1]; simp
    have hvs := h1.1
    obtain ⟨vs', e1, e2, e3⟩ := fillA_sound hp ps qs (splice cs (i * n) (acells x)) (splice vs (i * n) v.cells.toList) hps (h1.splice hc1 (by rw [hlen]; omega))
      (fun u hu => (mem_splice hu).elim (h2 u) (hc2 u)) (by rw [length_splice' _ _ _ (by rw [hlen]; omega)]; exact hl) hok'
    refine ⟨vs', ?_, e2, e3⟩
    simp only [Instr.fill, hp i]
    rw [if_neg (by simp [hsz]; omega)]
    rw [← e1]
    congr 1
    exact fill_splice (i * n) v.cells vs (by omega)

theorem mapM_places : ∀ (fs : List Field), (∀ f ∈ fs, (tinfo P f.type).ok = true) → fs.mapM (fun f => (P.info? f.type).map fun i => (f.offset, i.size)) = some (fs.map fun f => (f.offset, P.cellsOf f.type))
  | [], _ => by simp
  | f :: fs, h => by
    obtain ⟨d, i, _, hi, _⟩ := tinfo_ok (h f (by simp))
    have := mapM_places fs (fun g hg => h g (by simp [hg]))
    simp [List.mapM_cons, hi, this, Program.cellsOf]

theorem build_yields {t : TypeId} {ps : List (Nat × AV)} {qs : Array (Nat × Value)} (hps : PRels J O w ps qs.toList) (hok : buildOk P t ps) : Yields1 P J O w (Instr.build t qs) (buildV P t ps) := by
  obtain ⟨hz, hzl, hok⟩ := hok
  unfold buildV
  split at hok
  · rename_i fl hk
    obtain ⟨hb, hall⟩ := hok
    obtain ⟨d, hu, hd, htok, hag⟩ := kind_und hk (by simp)
    cases d with
    | struct fields =>
      simp only [tkOf, TK.struct.injEq] at hd
      obtain ⟨z, hz1, hz2, hz3, hz4⟩ := run_zeroValue' htok hz w
      have hzr := vrels_ofV1 (J := J) (O := O) (w := w) hz2
      rw [← hz3] at hzr
      have hfo : fieldsOf (tinfo P t) = fl := by simp [fieldsOf, hk]
      have hpl : ∀ i, i < (fieldsOf (tinfo P t)).length → ((fields.toList.map fun f => (f.offset, P.cellsOf f.type)).toArray)[i]? = some (foff (tinfo P t) i, fsz (tinfo P t) i) := by
        intro i hi
        rw [hfo, ← hd] at hi
        simp only [List.length_map, Array.length_toList] at hi
        simp [foff, fsz, hfo, ← hd, List.getD, Array.getElem?_eq_getElem hi]
      obtain ⟨vs', e1, e2, e3⟩ := fillS_sound hpl ps qs.toList _ z.cells.toList hps hzr hz2 (by rw [hzl]) hb
      have hbuilt : P.built t qs.toList = some vs'.toArray := by
        obtain ⟨d', i, hd', hi, e⟩ := tinfo_ok htok
        have hzz : ∃ zz, i.zero = some zz ∧ zz = z := by
          simp only [zeroValue, typeInfo, Sem.run_bind, run_program, Result.andThen_ok, hi, Sem.run_pure] at hz1
          cases hq : i.zero with
          | none => simp [hq] at hz1
          | some zz => simp [hq] at hz1; exact ⟨zz, rfl, hz1⟩
        obtain ⟨zz, hzz, rfl⟩ := hzz
        have hm := mapM_places (P := P) fields.toList (fun f hf => hall (f.offset, P.cellsOf f.type, f.type) (by rw [← hd]; exact List.mem_map.2 ⟨f, hf, rfl⟩))
        simp only [Program.built, hi, hu, hzz, hm]
        have ez : zz.cells.toList.toArray = zz.cells := by simp
        rw [ez] at e1
        exact e1
      refine ⟨_, run_build w t qs _ hbuilt, .agg _ _ e2.1 e3 e2.2⟩
    | _ => simp [tkOf] at hd
  · rename_i n e hk
    obtain ⟨he, hb⟩ := hok
    obtain ⟨hu, htok⟩ := kind_array hk
    obtain ⟨z, hz1, hz2, hz3, hz4⟩ := run_zeroValue' htok hz w
    have hzr := vrels_ofV1 (J := J) (O := O) (w := w) hz2
    rw [← hz3] at hzr
    obtain ⟨de, ie, hde, hie, eqe⟩ := tinfo_ok he
    have hce : (tinfo P e).cells = ie.size := by rw [eqe]
    obtain ⟨vs', e1, e2, e3⟩ := fillA_sound (place := fun i => some (i * ie.size, ie.size)) (n := (tinfo P e).cells) (fun i => by rw [hce]) ps qs.toList _ z.cells.toList hps hzr hz2 (by rw [hzl]) hb
    have hbuilt : P.built t qs.toList = some vs'.toArray := by
      obtain ⟨d', i, hd', hi, e⟩ := tinfo_ok htok
      have hzz : ∃ zz, i.zero = some zz ∧ zz = z := by
        simp only [zeroValue, typeInfo, Sem.run_bind, run_program, Result.andThen_ok, hi, Sem.run_pure] at hz1
        cases hq : i.zero with
        | none => simp [hq] at hz1
        | some zz => simp [hq] at hz1; exact ⟨zz, rfl, hz1⟩
      obtain ⟨zz, hzz, rfl⟩ := hzz
      simp only [Program.built, hi, hu, hzz, hie]
      simpa using e1
    refine ⟨_, run_build w t qs _ hbuilt, .agg _ _ e2.1 e3 e2.2⟩
  · exact hok.elim

theorem len_yields (hh : HRel gl h J w) {t ty : TypeId} {x : AV} {u : Value} (hx : VRel J (Own h J) w x u) (hok : lenOk h (tinfo P t).kind x) : Yields1 P J (Own h J) w (Builtin.len_ #[t] ty #[u]) (.int .i64 (alen h x)) := by
  unfold lenOk at hok
  split at hok
  · rename_i s hk
    obtain ⟨hu, _⟩ := kind_string hk
    cases hx
    refine ⟨_, run_len_string w t ty _ hu, ?_⟩
    have : (⟨s.toArray⟩ : ByteArray).size = s.length := by simp [ByteArray.size]
    simp only [goInt, this]
    exact .int _ _
  · rename_i e es hk
    obtain ⟨hu, _⟩ := kind_slice hk
    cases hx
    · exact ⟨_, by simp [Builtin.len_, run_underlying hu, goInt]; rfl, .int _ _⟩
    · exact ⟨_, by simp [Builtin.len_, run_underlying hu, goInt]; rfl, .int _ _⟩
  · rename_i e b off len hk
    obtain ⟨hu, _⟩ := kind_slice hk
    cases hx
    exact ⟨_, by simp [Builtin.len_, run_underlying hu, goInt]; rfl, .int _ _⟩
  · rename_i e hk
    obtain ⟨hu, _⟩ := kind_slice hk
    cases hx
    exact ⟨_, by simp [Builtin.len_, run_underlying hu, goInt]; rfl, .int _ _⟩
  · rename_i e hk
    obtain ⟨hu, _⟩ := kind_slice hk
    cases hx
    exact ⟨_, by simp [Builtin.len_, run_underlying hu, goInt]; rfl, .int _ _⟩
  · rename_i k e b hk
    obtain ⟨hu, _⟩ := kind_map hk
    obtain ⟨r, es, clock, rfl, h1, h2, h3⟩ := map_of hh hx hok
    have hg : (getObj r).run P w = .ok (.map es clock) w := run_getObj' h1 (by intros; simp)
    refine ⟨_, ?_, .int _ _⟩
    simp [Builtin.len_, run_underlying hu, hg, goInt, alen, h2]
  · rename_i k e hk
    obtain ⟨hu, _⟩ := kind_map hk
    cases hx
    exact ⟨_, by simp [Builtin.len_, run_underlying hu, goInt]; rfl, .int _ _⟩
  · exact hok.elim

theorem minV (x y : Int) : (if y < x then y else x) = min x y := by rw [Int.min_def]; split <;> split <;> omega
theorem maxV (x y : Int) : (if y > x then y else x) = max x y := by rw [Int.max_def]; split <;> split <;> omega

theorem builtin_yields (hh : HRel gl h J w) {b : Builtin} {ts : List TypeId} {ty : TypeId} {cs : Array Bool} {xs : List AV} {us : List Value} (hx : VRels J (Own h J) w xs us) (hok : builtinOk P h b ts xs) :
    ∃ v, (builtin b ts.toArray ty cs us.toArray).run P w = .ok (.value v) w ∧ VRel J (Own h J) w (builtinV h b xs) v := by
  have hl := hx.1
  unfold builtinOk at hok
  split at hok
  · rename_i x
    split at hok
    · rename_i t
      obtain ⟨u, rfl⟩ := List.length_eq_one_iff.1 (hl.symm.trans rfl)
      obtain ⟨v, h1, h2⟩ := len_yields (P := P) (ty := ty) hh (hx.2 0 x u rfl rfl) hok
      exact ⟨v, by simp only [builtin, Sem.run_bind]; rw [show (Builtin.len_ [t].toArray ty [u].toArray).run P w = .ok v w from h1]; rfl, h2⟩
    · exact hok.elim
  all_goals first
    | exact hok.elim
    | skip
  · rename_i k x k' y
    match us, hl with
    | [u1, u2], _ =>
      have r1 := hx.2 0 _ u1 rfl rfl
      have r2 := hx.2 1 _ u2 rfl rfl
      cases r1; cases r2
      refine ⟨.int k (min x y), ?_, .int _ _⟩
      simp only [builtin, Builtin.min_, List.foldlM_cons, List.foldlM_nil, Builtin.min2, Sem.run_bind, Sem.run_pure, Result.andThen_ok, minV]
  · rename_i k x k' y
    match us, hl with
    | [u1, u2], _ =>
      have r1 := hx.2 0 _ u1 rfl rfl
      have r2 := hx.2 1 _ u2 rfl rfl
      cases r1; cases r2
      refine ⟨.int k (max x y), ?_, .int _ _⟩
      simp only [builtin, Builtin.max_, List.foldlM_cons, List.foldlM_nil, Builtin.max2, Sem.run_bind, Sem.run_pure, Result.andThen_ok, maxV]
  · rename_i k x k' y k'' z
    match us, hl with
    | [u1, u2, u3], _ =>
      have r1 := hx.2 0 _ u1 rfl rfl
      have r2 := hx.2 1 _ u2 rfl rfl
      have r3 := hx.2 2 _ u3 rfl rfl
      cases r1; cases r2; cases r3
      refine ⟨.int k (min (min x y) z), ?_, .int _ _⟩
      simp only [builtin, Builtin.min_, List.foldlM_cons, List.foldlM_nil, Builtin.min2, Sem.run_bind, Sem.run_pure, Result.andThen_ok, minV]
  · rename_i k x k' y k'' z
    match us, hl with
    | [u1, u2, u3], _ =>
      have r1 := hx.2 0 _ u1 rfl rfl
      have r2 := hx.2 1 _ u2 rfl rfl
      have r3 := hx.2 2 _ u3 rfl rfl
      cases r1; cases r2; cases r3
      refine ⟨.int k (max (max x y) z), ?_, .int _ _⟩
      simp only [builtin, Builtin.max_, List.foldlM_cons, List.foldlM_nil, Builtin.max2, Sem.run_bind, Sem.run_pure, Result.andThen_ok, maxV]
end
end Go.Abs
