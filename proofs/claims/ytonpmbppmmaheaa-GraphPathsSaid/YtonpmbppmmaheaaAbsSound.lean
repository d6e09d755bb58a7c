/-
  Soundness of the operations that only compute or read.
  Soundness of the operations that only compute or read: all of them together.
  Soundness of the operations that only compute or read: addresses, loads, indices, maps, cuts, builtins.
  Maps: a key is looked for.
  Soundness of the operations that only compute or read: the last of them, and all together.
  Soundness of the operations that only compute or read: structs and arrays made of parts, builtins; all together.
  All operations that only compute or read.
-/
import Derived.Test.YtonpmbppmmaheaaAbsCore
set_option linter.unusedVariables false
set_option linter.unusedSimpArgs false

section 
section
namespace Go.Abs
open Go

section
variable {P : Program} {gl : Globs} {J : List Blk} {h : AHeap} {w : World} {O : Nat → Prop} {fr : AFrame}

theorem str_val (s : List UInt8) : (⟨s.toArray⟩ : ByteArray).toList = s := ByteArray.toList_mk s
theorem str_append (a b : List UInt8) : (⟨a.toArray⟩ : ByteArray) ++ ⟨b.toArray⟩ = ⟨(a ++ b).toArray⟩ := by
  apply ByteArray.ext
  simp

theorem ibin_sound (op : BinOp) (t : TypeId) (X Y : Operand) (k k' : IntKind) (a b : Int) (hok : ibinOk op k k' b) :
    ∃ r, (do eqGuard op t X Y (.int k a) (.int k' b); binOp op t (.int k a) (.int k' b)).run P w = .ok r w ∧ VRel J O w (ibin op k a b) r := by
  simp only [eqGuard_at_int, Sem.run_bind, Sem.run_pure, Result.andThen_ok]
  cases op <;> simp only [ibinOk] at hok
  case shl =>
    refine ⟨_, ?_, .int _ _⟩
    simp only [binOp_shl, Op.shift]
    rw [if_neg (by omega)]; rfl
  case shr =>
    refine ⟨_, ?_, .int _ _⟩
    simp only [binOp_shr, Op.shift]
    rw [if_neg (by omega)]; rfl
  case quo =>
    obtain ⟨rfl, hb⟩ := hok
    refine ⟨_, ?_, .int _ _⟩
    simp only [binOp_quo, Op.intDiv]
    rw [if_neg hb]; rfl
  case rem =>
    obtain ⟨rfl, hb⟩ := hok
    refine ⟨_, ?_, .int _ _⟩
    simp only [binOp_rem, Op.intDiv]
    rw [if_neg hb]; rfl
  all_goals
    subst hok
    first
      | exact ⟨_, by simp only [binOp_add, binOp_sub, binOp_mul, binOp_and, binOp_or, binOp_xor, binOp_andNot, binOp_eql, binOp_neq, binOp_lss, binOp_leq, binOp_gtr, binOp_geq]; rfl, .int _ _⟩
      | exact ⟨_, by simp only [binOp_add, binOp_sub, binOp_mul, binOp_and, binOp_or, binOp_xor, binOp_andNot, binOp_eql, binOp_neq, binOp_lss, binOp_leq, binOp_gtr, binOp_geq]; rfl, .bool _⟩

theorem sbin_sound (op : BinOp) (t : TypeId) (X Y : Operand) (a b : List UInt8) (hok : sbinOk op a b) :
    ∃ r, (do eqGuard op t X Y (.string ⟨a.toArray⟩) (.string ⟨b.toArray⟩); binOp op t (.string ⟨a.toArray⟩) (.string ⟨b.toArray⟩)).run P w = .ok r w ∧ VRel J O w (sbin op a b) r := by
  simp only [eqGuard_at_string, Sem.run_bind, Sem.run_pure, Result.andThen_ok]
  cases op <;> simp only [sbinOk] at hok
  case add =>
    refine ⟨_, ?_, .str _⟩
    have : ¬ (((⟨a.toArray⟩ : ByteArray).size + (⟨b.toArray⟩ : ByteArray).size : Nat) : Int) > IntKind.i64.max := by
      simp [ByteArray.size]; omega
    simp only [binOp_string_add, Op.stringOp, if_neg this, str_append, Sem.run_pure]
  all_goals
    refine ⟨_, ?_, .bool _⟩
    simp [binOp, Op.stringOp, str_val]

/-! ### Comparable types -/

theorem flat_basic {d : Nat} {t : TypeId} {bs : List BK} (hf : flat P (d + 1) t = some bs) (hn : ∀ fs, P.underlying t ≠ some (.struct fs)) (hn' : ∀ n e, P.underlying t ≠ some (.array n e)) :
    (∃ k, P.underlying t = some (.int k) ∧ bs = [.int]) ∨ (P.underlying t = some .string ∧ bs = [.str]) ∨ (P.underlying t = some .bool ∧ bs = [.bool]) := by
  unfold flat at hf
  split at hf
  · rename_i k i h1 h2
    split at hf <;> simp at hf
    exact .inl ⟨k, h1, hf.symm⟩
  · rename_i i h1 h2
    split at hf <;> simp at hf
    exact .inr (.inl ⟨h1, hf.symm⟩)
  · rename_i i h1 h2
    split at hf <;> simp at hf
    exact .inr (.inr ⟨h1, hf.symm⟩)
  · rename_i fs i h1 h2; exact absurd h1 (hn fs)
  · rename_i n e i h1 h2; exact absurd h1 (hn' n e)
  · simp at hf

theorem cok_len : ∀ (bs : List BK) (xs ys : List AV), cok bs xs ys → xs.length = bs.length ∧ ys.length = bs.length
  | [], [], [], _ => ⟨rfl, rfl⟩
  | _ :: bs, _ :: xs, _ :: ys, h => by
    simp only [cok] at h
    have := cok_len bs xs ys h.2
    simp [this]
  | [], [], _ :: _, h => by simp [cok] at h
  | [], _ :: _, _, h => by simp [cok] at h
  | _ :: _, [], _, h => by simp [cok] at h
  | _ :: _, _ :: _, [], h => by simp [cok] at h

theorem cok_append {b1 b2 : List BK} : ∀ {xs ys : List AV}, cok (b1 ++ b2) xs ys → cok b1 (xs.take b1.length) (ys.take b1.length) ∧ cok b2 (xs.drop b1.length) (ys.drop b1.length) := by
  induction b1 with
  | nil => intro xs ys h; simpa [cok] using h
  | cons b b1 ih =>
    intro xs ys h
    cases xs with
    | nil => simp [cok] at h
    | cons x xs =>
      cases ys with
      | nil => simp [cok] at h
      | cons y ys =>
        simp only [List.cons_append, cok] at h
        have := ih h.2
        simp [cok, h.1, this.1, this.2]

theorem ceq_append : ∀ (n : Nat) (xs ys : List AV), n ≤ xs.length → n ≤ ys.length → ceq xs ys = (ceq (xs.take n) (ys.take n) && ceq (xs.drop n) (ys.drop n))
  | 0, xs, ys, _, _ => by simp [ceq]
  | n + 1, [], _, h, _ => by simp at h
  | n + 1, _ :: _, [], _, h => by simp at h
  | n + 1, x :: xs, y :: ys, h1, h2 => by
    simp only [List.length_cons] at h1 h2
    simp only [ceq, List.take_succ_cons, List.drop_succ_cons]
    rw [ceq_append n xs ys (by omega) (by omega), Bool.and_assoc]

/-- The part of a list of values that begins somewhere shows a list of abstract values. -/
def Shows (J : List Blk) (O : Nat → Prop) (w : World) (xs : List AV) (us : List Value) (off : Nat) : Prop :=
  ∀ i x, xs[i]? = some x → ∃ u, us[off + i]? = some u ∧ VRel J O w x u

theorem shows_take {xs : List AV} {us : List Value} {off n : Nat} (hs : Shows J O w xs us off) : Shows J O w (xs.take n) us off := by
  intro i x hx
  rw [List.getElem?_take] at hx
  split at hx
  · exact hs i x hx
  · simp at hx
theorem shows_drop {xs : List AV} {us : List Value} {off n : Nat} (hs : Shows J O w xs us off) : Shows J O w (xs.drop n) us (off + n) := by
  intro i x hx
  rw [List.getElem?_drop] at hx
  obtain ⟨u, h1, h2⟩ := hs _ x hx
  exact ⟨u, by rw [Nat.add_assoc]; exact h1, h2⟩

theorem run_isAgg_of {t : TypeId} {d : TypeDesc} (hd : P.underlying t = some d) (w : World) : (isAgg t).run P w = .ok (aggOf d) w := by
  simp only [isAgg, Sem.run_bind, run_underlying hd, Result.andThen_ok]
  cases d <;> rfl

def eqArr (d : Nat) (e : TypeId) (n : Nat) (xs ys : Array Value) : List Nat → Sem Bool
  | [] => pure true
  | i :: l => do
    let a ← part e xs (i * n)
    let b ← part e ys (i * n)
    let r ← Op.equalIn d e a b
    if (!r) = true then pure false else eqArr d e n xs ys l

theorem run_equalIn_array (w : World) (d : Nat) (t e : TypeId) (len n : Nat) (xs ys : Array Value) (ht : P.underlying t = some (.array len e)) (hn : (sizeOf e).run P w = .ok n w) :
    (Op.equalIn (d + 1) t (.agg xs) (.agg ys)).run P w = (eqArr d e n xs ys (List.range len)).run P w := by
  simp only [Op.equalIn, Sem.run_bind, run_underlying ht, Result.andThen_ok, hn]
  simp only [Std.Legacy.Range.forIn_eq_forIn_range', Std.Legacy.Range.size, Nat.sub_zero, Nat.add_sub_cancel, Nat.div_one, ← List.range_eq_range']
  generalize List.range len = fs
  clear ht hn
  induction fs generalizing w with
  | nil => simp [eqArr]
  | cons f fs ih =>
    simp only [List.forIn_cons, eqArr, Sem.run_bind]
    generalize (part e xs (f * n)).run P w = r1
    cases r1 with
    | ok a w1 =>
      simp only [Result.andThen_ok]
      generalize (part e ys (f * n)).run P w1 = r2
      cases r2 with
      | ok b w2 =>
        simp only [Result.andThen_ok]
        generalize (Op.equalIn d e a b).run P w2 = r3
        cases r3 with
        | ok r w3 =>
          cases r
          · simp only [Result.andThen_ok, Bool.not_false, if_true, Sem.run_pure]
          · simp only [Result.andThen_ok, Bool.not_true, Bool.false_eq_true, if_false, Sem.run_pure]
            exact ih w3
        | halt x w3 => simp [Result.andThen]
      | halt x w2 => simp [Result.andThen]
    | halt x w1 => simp [Result.andThen]

/-- '==' at a type that is made of basic kinds. -/
theorem equal_flat : ∀ (d : Nat) (t : TypeId) (bs : List BK), flat P d t = some bs → ∀ (xs ys : List AV) (us vs : List Value) (off : Nat) (m : Nat), d ≤ m → cok bs xs ys → Shows J O w xs us off → Shows J O w ys vs off →
    (part t us.toArray off >>= fun a => part t vs.toArray off >>= fun b => Op.equalIn m t a b).run P w = .ok (ceq xs ys) w
  | 0, _, _, hf => by simp [flat] at hf
  | d + 1, t, bs, hf => by
    intro xs ys us vs off m hm hc hxs hys
    obtain ⟨m, rfl⟩ : ∃ m', m = m' + 1 := ⟨m - 1, by omega⟩
    by_cases hst : ∃ fs, P.underlying t = some (.struct fs)
    · obtain ⟨fs, hu⟩ := hst
      have hf' := hf
      unfold flat at hf'
      cases hi : P.info? t with
      | none => simp [hu, hi] at hf'
      | some i =>
      simp only [hu, hi] at hf'
      split at hf'
      · simp at hf'
      rename_i hsi
      split at hf'
      · rename_i r hr
        split at hf'
        · rename_i hlen
          injection hf' with hf'
          subst hf'
          have hl := cok_len _ _ _ hc
          have hp1 : (part t us.toArray off).run P w = .ok (.agg (us.toArray.extract off (off + r.length))) w := by
            simp only [part, Sem.run_bind, run_isAgg_of hu, Result.andThen_ok, aggOf, if_true, sizeOf, typeInfo, run_program, hi, Sem.run_pure, hlen]
          have hp2 : (part t vs.toArray off).run P w = .ok (.agg (vs.toArray.extract off (off + r.length))) w := by
            simp only [part, Sem.run_bind, run_isAgg_of hu, Result.andThen_ok, aggOf, if_true, sizeOf, typeInfo, run_program, hi, Sem.run_pure, hlen]
          rw [Sem.run_bind, hp1, Result.andThen_ok, Sem.run_bind, hp2, Result.andThen_ok]
          have hfs : P.fieldsOf t = fs := by simp [Program.fieldsOf, hu]
          rw [run_equalIn_struct w m t _ _ (by rw [hfs]; exact hu) (by simpa using hsi), hfs]
          have e1 : us.toArray.extract off (off + r.length) = ((us.drop off).take r.length).toArray := by
            simp [List.extract_toArray, List.extract_eq_take_drop]
          have e2 : vs.toArray.extract off (off + r.length) = ((vs.drop off).take r.length).toArray := by
            simp [List.extract_toArray, List.extract_eq_take_drop]
          rw [e1, e2]
          have s1 : Shows J O w xs ((us.drop off).take r.length) 0 := by
            intro i x hx
            obtain ⟨u, h1, h2⟩ := hxs i x hx
            have hi' : i < r.length := by
              rw [← hl.1]
              exact (List.getElem?_eq_some_iff.1 hx).1
            exact ⟨u, by rw [Nat.zero_add, List.getElem?_take_of_lt hi', List.getElem?_drop]; exact h1, h2⟩
          have s2 : Shows J O w ys ((vs.drop off).take r.length) 0 := by
            intro i x hx
            obtain ⟨u, h1, h2⟩ := hys i x hx
            have hi' : i < r.length := by
              rw [← hl.2]
              exact (List.getElem?_eq_some_iff.1 hx).1
            exact ⟨u, by rw [Nat.zero_add, List.getElem?_take_of_lt hi', List.getElem?_drop]; exact h1, h2⟩
          generalize (us.drop off).take r.length = us' at s1 ⊢
          generalize (vs.drop off).take r.length = vs' at s2 ⊢
          clear e1 e2 hp1 hp2 hfs hl hxs hys hlen hsi hf hu
          -- the fields, one after the other
          have key : ∀ (l : List Field) (o : Nat) (r : List BK), flatFields (flat P d) o l = some r → ∀ (xs ys : List AV), cok r xs ys → Shows J O w xs us' o → Shows J O w ys vs' o →
              (Op.eqFields m us'.toArray vs'.toArray l).run P w = .ok (ceq xs ys) w := by
            intro l
            induction l with
            | nil =>
              intro o r hr xs ys hc _ _
              simp [flatFields] at hr
              subst hr
              have := cok_len _ _ _ hc
              have hx : xs = [] := by simpa using this.1
              have hy : ys = [] := by simpa using this.2
              subst hx; subst hy
              simp [Op.eqFields, ceq]
            | cons f l ih =>
              intro o r hr xs ys hc hx hy
              unfold flatFields at hr
              split at hr
              · rename_i hname
                split at hr
                · rename_i b hb
                  split at hr
                  · rename_i r' hr'
                    injection hr with hr
                    subst hr
                    have hl := cok_len _ _ _ hc
                    simp only [List.length_append] at hl
                    obtain ⟨c1, c2⟩ := cok_append hc
                    have h1 := equal_flat d f.type b hb (xs.take b.length) (ys.take b.length) us' vs' f.offset m (by omega) c1 (by rw [hname.2]; exact shows_take hx) (by rw [hname.2]; exact shows_take hy)
                    have h2 := ih (o + b.length) r' hr' (xs.drop b.length) (ys.drop b.length) c2 (shows_drop hx) (shows_drop hy)
                    rw [ceq_append b.length xs ys (by omega) (by omega)]
                    simp only [Op.eqFields, if_pos hname.1]
                    simp only [Sem.run_bind] at h1 ⊢
                    generalize (part f.type us'.toArray f.offset).run P w = r1 at h1 ⊢
                    cases r1 with
                    | halt => simp [Result.andThen] at h1
                    | ok a w1 =>
                      simp only [Result.andThen_ok] at h1 ⊢
                      generalize (part f.type vs'.toArray f.offset).run P w1 = r2 at h1 ⊢
                      cases r2 with
                      | halt => simp [Result.andThen] at h1
                      | ok b' w2 =>
                        simp only [Result.andThen_ok] at h1 ⊢
                        rw [h1]
                        simp only [Result.andThen_ok]
                        cases ceq (xs.take b.length) (ys.take b.length) with
                        | false => simp
                        | true => simpa using h2
                  · simp at hr
                · simp at hr
              · simp at hr
          exact key fs.toList 0 r hr xs ys hc s1 s2
        · simp at hf'
      · simp at hf'
    · by_cases har : ∃ n e, P.underlying t = some (.array n e)
      · obtain ⟨len, e, hu⟩ := har
        have hf' := hf
        unfold flat at hf'
        cases hi : P.info? t with
        | none => simp [hu, hi] at hf'
        | some i =>
        simp only [hu, hi] at hf'
        split at hf'
        · rename_i r hr
          split at hf'
          · rename_i hlen
            injection hf' with hf'
            have hsz : (sizeOf e).run P w = .ok r.length w := by
              have h0 := hlen.2
              cases d with
              | zero => simp [flat] at hr
              | succ d =>
                cases hie : P.info? e with
                | none =>
                  unfold flat at hr
                  rw [hie] at hr
                  cases hue : P.underlying e <;> simp [hue] at hr
                | some ie => simp [Program.cellsOf, hie] at h0; simp [sizeOf, typeInfo, hie, h0]
            have hbl : bs.length = i.size := by
              rw [← hf', ← hlen.1, List.length_flatMap, List.map_const', List.length_range, List.sum_replicate_nat]
            have hl := cok_len _ _ _ hc
            have hp : ∀ us : List Value, (part t us.toArray off).run P w = .ok (.agg (us.toArray.extract off (off + bs.length))) w := by
              intro us
              simp only [part, Sem.run_bind, run_isAgg_of hu, Result.andThen_ok, aggOf, if_true, sizeOf, typeInfo, run_program, hi, Sem.run_pure, hbl]
            rw [Sem.run_bind, hp, Result.andThen_ok, Sem.run_bind, hp, Result.andThen_ok, run_equalIn_array w m t e len r.length _ _ hu hsz]
            have e1 : ∀ us : List Value, us.toArray.extract off (off + bs.length) = ((us.drop off).take bs.length).toArray := by
              intro us
              simp [List.extract_toArray, List.extract_eq_take_drop]
            rw [e1, e1]
            have s0 : ∀ (xs : List AV) (us : List Value), xs.length = bs.length → Shows J O w xs us off → Shows J O w xs ((us.drop off).take bs.length) 0 := by
              intro xs us hl hxs i x hx
              obtain ⟨u, h1, h2⟩ := hxs i x hx
              have hi' : i < bs.length := by
                rw [← hl]
                exact (List.getElem?_eq_some_iff.1 hx).1
              exact ⟨u, by rw [Nat.zero_add, List.getElem?_take_of_lt hi', List.getElem?_drop]; exact h1, h2⟩
            have s1 := s0 xs us hl.1 hxs
            have s2 := s0 ys vs hl.2 hys
            generalize (us.drop off).take bs.length = us' at s1 ⊢
            generalize (vs.drop off).take bs.length = vs' at s2 ⊢
            have key : ∀ (k s : Nat) (xs ys : List AV), cok ((List.range' s k).flatMap fun _ => r) xs ys → Shows J O w xs us' (s * r.length) → Shows J O w ys vs' (s * r.length) →
                (eqArr m e r.length us'.toArray vs'.toArray (List.range' s k)).run P w = .ok (ceq xs ys) w := by
              intro k
              induction k with
              | zero =>
                intro s xs ys hc _ _
                have := cok_len _ _ _ hc
                simp at this
                obtain ⟨hx, hy⟩ := this
                subst hx; subst hy
                simp [eqArr, ceq]
              | succ k ih =>
                intro s xs ys hc hx hy
                rw [List.range'_succ, List.flatMap_cons] at hc
                rw [List.range'_succ]
                have hl := cok_len _ _ _ hc
                simp only [List.length_append] at hl
                obtain ⟨c1, c2⟩ := cok_append hc
                have h1 := equal_flat d e r hr (xs.take r.length) (ys.take r.length) us' vs' (s * r.length) m (by omega) c1 (shows_take hx) (shows_take hy)
                have h2 := ih (s + 1) (xs.drop r.length) (ys.drop r.length) c2 (by rw [Nat.add_mul, Nat.one_mul]; exact shows_drop hx) (by rw [Nat.add_mul, Nat.one_mul]; exact shows_drop hy)
                rw [ceq_append r.length xs ys (by omega) (by omega)]
                simp only [eqArr]
                simp only [Sem.run_bind] at h1 ⊢
                generalize (part e us'.toArray (s * r.length)).run P w = r1 at h1 ⊢
                cases r1 with
                | halt => simp [Result.andThen] at h1
                | ok a w1 =>
                  simp only [Result.andThen_ok] at h1 ⊢
                  generalize (part e vs'.toArray (s * r.length)).run P w1 = r2 at h1 ⊢
                  cases r2 with
                  | halt => simp [Result.andThen] at h1
                  | ok b' w2 =>
                    simp only [Result.andThen_ok] at h1 ⊢
                    rw [h1]
                    simp only [Result.andThen_ok]
                    cases ceq (xs.take r.length) (ys.take r.length) with
                    | false => simp
                    | true => simpa using h2
            rw [List.range_eq_range']
            exact key len 0 xs ys (by rw [← List.range_eq_range', hf']; exact hc) (by simpa using s1) (by simpa using s2)
          · simp at hf'
        · simp at hf'
      · have hb := flat_basic hf (fun fs h => hst ⟨fs, h⟩) (fun n e h => har ⟨n, e, h⟩)
        have cell : ∀ (xs : List AV) (us : List Value) (x : AV), xs = [x] → Shows J O w xs us off → ∀ d, P.underlying t = some d → aggOf d = false → ∃ u, (part t us.toArray off).run P w = .ok u w ∧ VRel J O w x u := by
          intro xs us x hx hs d hd hag
          subst hx
          obtain ⟨u, h1, h2⟩ := hs 0 x (by simp)
          refine ⟨u, ?_, h2⟩
          simp only [part, Sem.run_bind, run_isAgg_of hd, Result.andThen_ok, hag, Bool.false_eq_true, if_false]
          have : us.toArray[off]? = some u := by simpa using h1
          rw [this]; rfl
        rcases hb with ⟨k, hu, rfl⟩ | ⟨hu, rfl⟩ | ⟨hu, rfl⟩
        all_goals
          have hl := cok_len _ _ _ hc
          obtain ⟨x, hx1⟩ := List.length_eq_one_iff.1 hl.1
          obtain ⟨y, hy1⟩ := List.length_eq_one_iff.1 hl.2
          subst hx1
          subst hy1
          focus
            simp only [cok, and_true] at hc
            obtain ⟨u, hp1, hr1⟩ := cell _ us x rfl hxs _ hu rfl
            obtain ⟨v, hp2, hr2⟩ := cell _ vs y rfl hys _ hu rfl
            rw [Sem.run_bind, hp1, Result.andThen_ok, Sem.run_bind, hp2, Result.andThen_ok]
            unfold cok1 at hc
            split at hc <;> first | (simp at hc; done) | (rename_i heq; cases heq; done) | skip
            cases hr1; cases hr2
            first
              | (subst hc; rw [run_equalIn_int w m t _ _ _ _ hu]; simp [ceq, ceq1])
              | (rw [run_equalIn_string w m t _ _ hu]; simp [ceq, ceq1, str_val])
              | (rw [run_equalIn_bool w m t _ _ hu]; simp [ceq, ceq1])
end
end Go.Abs
end

section 

namespace Go.Abs
open Go

section
variable {P : Program} {gl : Globs} {J : List Blk} {h : AHeap} {w : World} {O : Nat → Prop} {fr : AFrame}

theorem shows_of_vrels {xs : List AV} {us : List Value} (hl : xs.length = us.length) (hs : ∀ (i : Nat) (x : AV) (v : Value), xs[i]? = some x → us[i]? = some v → VRel J O w x v) : Shows J O w xs us 0 := by
  intro i x hx
  have hi : i < us.length := by rw [← hl]; exact (List.getElem?_eq_some_iff.1 hx).1
  exact ⟨us[i], by rw [Nat.zero_add]; exact List.getElem?_eq_getElem hi, hs i x _ hx (List.getElem?_eq_getElem hi)⟩

theorem flat_ok {d : Nat} {t : TypeId} {bs : List BK} (hf : flat P d t = some bs) : (tinfo P t).ok = true := by
  cases d with
  | zero => simp [flat] at hf
  | succ d =>
    unfold flat at hf
    unfold tinfo
    cases hu : P.underlying t with
    | none => simp [hu] at hf
    | some td =>
      cases hi : P.info? t with
      | none => cases td <;> simp [hu, hi] at hf
      | some i => simp
theorem flat_cells {d : Nat} {t : TypeId} {bs : List BK} (hf : flat P d t = some bs) : (tinfo P t).cells = bs.length := by
  obtain ⟨td, i, hu, hi, e⟩ := tinfo_ok (flat_ok hf)
  rw [e]
  simp only
  cases d with
  | zero => simp [flat] at hf
  | succ d =>
    unfold flat at hf
    rw [hu, hi] at hf
    cases td <;> simp only at hf <;> first | (simp at hf; done) | skip
    all_goals
      repeat (split at hf <;> first | (simp at hf; done) | skip)
      all_goals first
        | (simp at hf; subst hf; simp; omega)
        | (rename_i h1; injection hf with hf; subst hf; rw [List.length_flatMap, List.map_const', List.length_range, List.sum_replicate_nat]; omega)
        | (injection hf with hf; subst hf; simp_all)

theorem vrel_cells {x : AV} {u : Value} (hx : VRel J O w x u) (hna : ∀ cs, x ≠ .agg cs) : acells x = [x] := by
  cases x <;> first | rfl | exact absurd rfl (hna _)

/-- Two values of a type that is made of basic kinds. -/
theorem equal_vals {t : TypeId} {bs : List BK} (hf : flat P 50 t = some bs) {x y : AV} {u v : Value} (hx : VRel J O w x u) (hy : VRel J O w y v) (hax : aggFit (tinfo P t) x) (hay : aggFit (tinfo P t) y)
    (hc : cok bs (acells x) (acells y)) (m : Nat) (hm : 50 ≤ m) : (Op.equalIn m t u v).run P w = .ok (ceq (acells x) (acells y)) w := by
  have hl := cok_len _ _ _ hc
  have hok := flat_ok hf
  have hcells := flat_cells hf
  unfold aggFit at hax hay
  cases hag : (tinfo P t).agg with
  | true =>
    rw [hag] at hax hay
    cases x <;> simp only at hax
    cases y <;> simp only at hay
    rename_i xs ys
    simp only [acells] at hl hc ⊢
    cases hx with
    | agg _ us hl1 ho1 h1 =>
      cases hy with
      | agg _ vs hl2 ho2 h2 =>
        have h0 := equal_flat (P := P) 50 t bs hf xs ys us vs 0 m hm hc (shows_of_vrels hl1 h1) (shows_of_vrels hl2 h2)
        have p1 : ∀ us : List Value, us.length = bs.length → (part t us.toArray 0).run P w = .ok (.agg us.toArray) w := by
          intro us hus
          simp only [part, Sem.run_bind, run_isAgg' hok, hag, Result.andThen_ok, if_true, run_sizeOf' hok, hcells, Sem.run_pure]
          congr 2
          simp [← hus]
        rw [Sem.run_bind, p1 us (by omega), Result.andThen_ok, Sem.run_bind, p1 vs (by omega), Result.andThen_ok] at h0
        exact h0
  | false =>
    rw [hag] at hax hay
    have hnx : ∀ cs, x ≠ .agg cs := by rintro cs rfl; simp at hax
    have hny : ∀ cs, y ≠ .agg cs := by rintro cs rfl; simp at hay
    rw [vrel_cells hx hnx, vrel_cells hy hny] at hc ⊢
    have h0 := equal_flat (P := P) 50 t bs hf [x] [y] [u] [v] 0 m hm hc (shows_of_vrels rfl (VRels.cons hx .nil).2) (shows_of_vrels rfl (VRels.cons hy .nil).2)
    have p1 : ∀ u : Value, (part t [u].toArray 0).run P w = .ok u w := by
      intro u
      simp [part, run_isAgg' hok, hag]
    rw [Sem.run_bind, p1 u, Result.andThen_ok, Sem.run_bind, p1 v, Result.andThen_ok] at h0
    exact h0

theorem run_eql_slices (w : World) (t : TypeId) (x y : Option Addr × Nat × Nat) (b : Bool) (he : ∀ d, (Op.equalIn (d + 1) t (.slice x.1 x.2.1 x.2.2) (.slice y.1 y.2.1 y.2.2)).run P w = .ok b w) :
    (binOp .eql t (.slice x.1 x.2.1 x.2.2) (.slice y.1 y.2.1 y.2.2)).run P w = .ok (.bool b) w ∧ (binOp .neq t (.slice x.1 x.2.1 x.2.2) (.slice y.1 y.2.1 y.2.2)).run P w = .ok (.bool (!b)) w := by
  have h0 : (Op.equal t (.slice x.1 x.2.1 x.2.2) (.slice y.1 y.2.1 y.2.2)).run P w = .ok b w := he 9999
  constructor
  · simp only [binOp, Sem.run_bind, h0, Result.andThen_ok, Sem.run_pure]
  · simp only [binOp, Sem.run_bind, h0, Result.andThen_ok, Sem.run_pure]

theorem abin_sound {op : BinOp} {t : TypeId} {X Y : Operand} {x y : AV} {u v : Value} (hx : VRel J O w x u) (hy : VRel J O w y v) (hok : abinOk P op t x y) :
    ∃ r, (do eqGuard op t X Y u v; binOp op t u v).run P w = .ok r w ∧ VRel J O w (abin op x y) r := by
  unfold abinOk at hok
  split at hok
  · cases hx; cases hy; exact ibin_sound op t X Y _ _ _ _ hok
  · cases hx; cases hy; exact sbin_sound op t X Y _ _ hok
  · cases hx; cases hy
    obtain ⟨ho, hk⟩ := hok
    obtain ⟨d, hu, hd, hok', _⟩ := kind_und hk (by simp)
    have hu' : P.underlying t = some .bool := by cases d <;> simp [tkOf] at hd; exact hu
    simp only [eqGuard_at_bool, Sem.run_bind, Sem.run_pure, Result.andThen_ok]
    rcases ho with rfl | rfl
    · exact ⟨_, run_eql_bool w t _ _ hu', .bool _⟩
    · exact ⟨_, run_neq_bool w t _ _ hu', .bool _⟩
  · rename_i xs ys
    cases hx with
    | agg _ us hl1 ho1 h1 =>
      cases hy with
      | agg _ vs hl2 ho2 h2 =>
        obtain ⟨ho, hg, hag, bs, hf, hc⟩ := hok
        have he := equal_vals (P := P) hf (.agg xs us hl1 ho1 h1) (.agg ys vs hl2 ho2 h2) (by simp [aggFit, hag]) (by simp [aggFit, hag]) hc 10000 (by omega)
        simp only [acells] at he
        rcases ho with rfl | rfl
        · refine ⟨_, ?_, .bool _⟩
          rw [Sem.run_bind, run_eqGuard_agg w _ _ _ _ _ _ hg, Result.andThen_ok, run_eql_struct, he]; rfl
        · refine ⟨_, ?_, .bool _⟩
          rw [Sem.run_bind, run_eqGuard_agg w _ _ _ _ _ _ hg, Result.andThen_ok, run_neq_struct, he]; rfl
  · cases hx; cases hy
    obtain ⟨ho, e, he⟩ := hok
    have hu := (kind_slice he).1
    simp only [eqGuard_at_slice, Sem.run_bind, Sem.run_pure, Result.andThen_ok]
    rcases ho with rfl | rfl
    · exact ⟨_, (run_eql_slices w t (none, 0, 0) (none, 0, 0) true (fun d => by simp only [Op.equalIn, Sem.run_bind, run_underlying hu, Result.andThen_ok]; rfl)).1, .bool _⟩
    · exact ⟨_, (run_eql_slices w t (none, 0, 0) (none, 0, 0) true (fun d => by simp only [Op.equalIn, Sem.run_bind, run_underlying hu, Result.andThen_ok]; rfl)).2, .bool _⟩
  · cases hx; cases hy
    obtain ⟨ho, e, he⟩ := hok
    have hu := (kind_slice he).1
    simp only [eqGuard_at_slice, Sem.run_bind, Sem.run_pure, Result.andThen_ok]
    rcases ho with rfl | rfl
    · exact ⟨_, (run_eql_slices w t (some _, _, _) (none, 0, 0) false (fun d => by simp only [Op.equalIn, Sem.run_bind, run_underlying hu, Result.andThen_ok]; rfl)).1, .bool _⟩
    · exact ⟨_, (run_eql_slices w t (some _, _, _) (none, 0, 0) false (fun d => by simp only [Op.equalIn, Sem.run_bind, run_underlying hu, Result.andThen_ok]; rfl)).2, .bool _⟩
  · exact hok.elim

theorem aun_sound {op : UnOp} {x : AV} {u : Value} (hx : VRel J O w x u) (hok : aunOk op x) : ∃ r, (Op.unary op u).run P w = .ok r w ∧ VRel J O w (aun op x) r := by
  unfold aunOk at hok
  split at hok
  · cases hx; exact ⟨_, by simp [Op.unary, Op.intArith], .int _ _⟩
  · cases hx; exact ⟨_, by simp [Op.unary], .bool _⟩
  · exact hok.elim

theorem aconv_sound {src dst : TypeId} {x : AV} {u : Value} (hx : VRel J O w x u) (hok : aconvOk P src dst x) : ∃ r, (convert src dst u).run P w = .ok r w ∧ VRel J O w (aconv P dst x) r := by
  obtain ⟨hs, hok⟩ := hok
  obtain ⟨ds, is, hds, _, _⟩ := tinfo_ok hs
  split at hok
  · rename_i k k' n hk
    obtain ⟨d, hu, hd, _, _⟩ := kind_und hk (by simp)
    have hu' : P.underlying dst = some (.int k) := by cases d <;> simp [tkOf] at hd; subst hd; exact hu
    cases hx
    refine ⟨_, ?_, by simp only [aconv, hk]; exact .int _ _⟩
    simp only [convert, Sem.run_bind, run_underlying hds, run_underlying hu', Result.andThen_ok]
    cases ds <;> rfl
  · rename_i s hk
    obtain ⟨d, hu, hd, _, _⟩ := kind_und hk (by simp)
    have hu' : P.underlying dst = some .string := by cases d <;> simp [tkOf] at hd; exact hu
    cases hx
    refine ⟨_, ?_, by simp only [aconv, hk]; exact .str _⟩
    simp only [convert, Sem.run_bind, run_underlying hds, run_underlying hu', Result.andThen_ok]
    cases ds <;> rfl
  · exact hok.elim

theorem int_of {x : AV} {v : Value} (hx : VRel J O w x v) (hi : isInt x) : ∃ k, v = .int k (aint x) := by
  unfold isInt at hi
  split at hi
  · cases hx; exact ⟨_, rfl⟩
  · exact hi.elim

theorem run_bounds {isSlice : Bool} {len cap : Nat} (hlc : len ≤ cap) (hs : isSlice = false → len = cap) {lo hi : Option Value} {l' h' : Option Int} (hl : ∀ v ∈ lo, ∃ k n, v = .int k n ∧ l' = some n) (hln : lo = none → l' = none)
    (hh : ∀ v ∈ hi, ∃ k n, v = .int k n ∧ h' = some n) (hhn : hi = none → h' = none) (hok : sliceOk len l' h') :
    (Instr.sliceBounds isSlice len cap lo hi none).run P w = .ok ((l'.map Int.toNat).getD 0, hiOf h' len, cap) w ∧ (l'.map Int.toNat).getD 0 ≤ hiOf h' len ∧ hiOf h' len ≤ len := by
  obtain ⟨h1, h2⟩ := hok
  have hb : hiOf h' len ≤ len := by
    cases h' with
    | none => simp [hiOf]
    | some n => simp only [loOk] at h1; simp [hiOf]; omega
  have ha : (l'.map Int.toNat).getD 0 ≤ hiOf h' len := by
    cases l' with
    | none => simp
    | some n => simp only [loOk] at h2; simp; omega
  refine ⟨?_, ha, hb⟩
  cases hi with
  | none =>
    cases lo with
    | none =>
      rw [hln rfl, hhn rfl]
      simp [Instr.sliceBounds, hiOf]
    | some v =>
      obtain ⟨k, n, rfl, rfl⟩ := hl v rfl
      rw [hhn rfl] at h2 ⊢
      simp only [loOk, hiOf, Option.map_none, Option.getD_none] at h2
      simp [Instr.sliceBounds, hiOf, run_sliceBound w k n len _ h2.1 h2.2]
  | some u =>
    obtain ⟨k, n, rfl, rfl⟩ := hh u rfl
    simp only [loOk] at h1
    cases lo with
    | none =>
      rw [hln rfl]
      simp [Instr.sliceBounds, hiOf, run_sliceBound w k n cap _ h1.1 (by omega)]
    | some v =>
      obtain ⟨k', n', rfl, rfl⟩ := hl v rfl
      simp only [loOk, hiOf, Option.map_some, Option.getD_some] at h2
      simp [Instr.sliceBounds, hiOf, run_sliceBound w k n cap _ h1.1 (by omega), run_sliceBound w k' n' n.toNat _ h2.1 h2.2]
end
end Go.Abs
end

section 

namespace Go.Abs
open Go

section
variable {P : Program} {gl : Globs} {J : List Blk} {h : AHeap} {w : World} {O : Nat → Prop} {fr : AFrame}

/-- An operation that hands back a value and leaves the world alone. -/
def Yields1 (P : Program) (J : List Blk) (O : Nat → Prop) (w : World) (s : Sem Value) (x : AV) : Prop := ∃ v, s.run P w = .ok v w ∧ VRel J O w x v

theorem load_yields (hh : HRel gl h J w) {t : TypeId} {x : AV} {u : Value} (hx : VRel J (Own h J) w x u) (ht : (tinfo P t).ok = true)
    (hok : loadOk P h t x) : Yields1 P J (Own h J) w (Instr.loadAt t u) (loadV P h t x) := by
  unfold loadOk at hok
  unfold loadV
  split at hok
  · rename_i b i c
    obtain ⟨hi, hc⟩ := hok
    have hg : (hcells h b)[i]? = some ((hcells h b).getD i []) := by simp [List.getD, List.getElem?_eq_getElem hi]
    obtain ⟨k, hk, rfl, hl, hr⟩ := erow_ptr hh hx hg
    obtain ⟨v, hv, hvr⟩ := load_sound (P := P) ht hr hc
    exact ⟨v, by simp only [Instr.loadAt, Instr.sureAddr, Sem.run_bind, Sem.run_pure, Result.andThen_ok, hv], hvr⟩
  · rename_i es i c
    obtain ⟨hi, hc⟩ := hok
    have hg : es[i]? = some (es.getD i []) := by simp [List.getD, List.getElem?_eq_getElem hi]
    obtain ⟨a, rfl, hr⟩ := erow_rop hx hg
    obtain ⟨v, hv, hvr⟩ := load_sound (P := P) ht hr hc
    exact ⟨v, by simp only [Instr.loadAt, Instr.sureAddr, Sem.run_bind, Sem.run_pure, Result.andThen_ok, hv], hvr⟩
  · exact hok.elim

theorem kind_struct {t : TypeId} {f : Nat} (hf : f < (fieldsOf (tinfo P t)).length) : ∃ fs fd, P.underlying t = some (.struct fs) ∧ fs[f]? = some fd ∧ foff (tinfo P t) f = fd.offset ∧ fsz (tinfo P t) f = P.cellsOf fd.type ∧ fty (tinfo P t) f = fd.type ∧ (tinfo P t).ok = true := by
  unfold fieldsOf at hf
  split at hf
  · rename_i l hk
    obtain ⟨d, hu, hd, hok, _⟩ := kind_und hk (by simp)
    cases d with
    | struct fs =>
      simp only [tkOf, TK.struct.injEq] at hd
      subst hd
      simp only [List.length_map, Array.length_toList] at hf
      have hg : fs[f]? = some (fs[f]'hf) := Array.getElem?_eq_getElem hf
      refine ⟨fs, fs[f]'hf, hu, hg, ?_⟩
      simp [foff, fsz, fty, fieldsOf, hk, List.getD, hg, hok]
    | _ => simp [tkOf] at hd
  · simp at hf

theorem fieldAddr_yields {s : TypeId} {f : Nat} {x : AV} {u : Value} (hx : VRel J O w x u) (hf : f < (fieldsOf (tinfo P s)).length) (hsz : 0 < fsz (tinfo P s) f) (hty : (tinfo P (fty (tinfo P s) f)).ok = true)
    (hok : faddrOk x) : Yields1 P J O w (Instr.fieldAt s u f) (faddrV P s f x) := by
  unfold faddrOk at hok
  unfold faddrV
  obtain ⟨fs, fd, hu, hg, h1, h2, h3, h4⟩ := kind_struct hf
  have hrun : ∀ a : Addr, (Instr.fieldAt s (.pointer (some a)) f).run P w = .ok (.pointer (some (a.add fd.offset))) w := by
    intro a
    have hc : (sizeOf fd.type).run P w = .ok (tinfo P fd.type).cells w := run_sizeOf' (by rw [← h3]; exact hty) w
    have hne : ¬ ((tinfo P fd.type).cells = 0) := by
      obtain ⟨d, i, hd, hi, e⟩ := tinfo_ok (by rw [← h3]; exact hty : (tinfo P fd.type).ok = true)
      rw [e]
      simp only
      rw [h2] at hsz
      simp [Program.cellsOf, hi] at hsz
      omega
    simp only [Instr.fieldAt, Sem.run_bind, run_underlying hu, Result.andThen_ok, hg, Instr.sureAddr, Sem.run_pure, fieldPlace, hc, Sem.run_ite, if_neg hne]
  split at hok
  · rename_i b i c
    cases hx with
    | ptr _ _ _ k hb =>
      refine ⟨_, hrun _, ?_⟩
      rw [h1, add_mk, show k.base + (i * k.n + c) + fd.offset = k.base + (i * k.n + (c + fd.offset)) by omega]
      exact .ptr _ _ _ k hb
  · rename_i es i c
    cases hx with
    | rop _ _ _ a n g hn hO hl hc ho hh =>
      refine ⟨_, hrun _, ?_⟩
      rw [h1, add_add', show i * n + c + fd.offset = i * n + (c + fd.offset) by omega]
      exact .rop _ _ _ a n g hn hO hl hc ho hh
  · exact hok.elim

theorem field_yields {s : TypeId} {f : Nat} {x : AV} {u : Value} (hx : VRel J O w x u) (hf : f < (fieldsOf (tinfo P s)).length) (hty : (tinfo P (fty (tinfo P s) f)).ok = true)
    (hok : fieldOk P s f x) : Yields1 P J O w (Instr.field s u f) (fieldV P s f x) := by
  unfold fieldOk at hok
  unfold fieldV
  obtain ⟨fs, fd, hu, hg, h1, h2, h3, h4⟩ := kind_struct hf
  split at hok
  · rename_i cs
    rw [h3] at hty hok ⊢
    rw [h1] at hok ⊢
    obtain ⟨vs, rfl, r, hr, hrv⟩ := part_sound (P := P) hty hx hok
    exact ⟨r, by simp only [Instr.field, Sem.run_bind, run_underlying hu, Result.andThen_ok, hg, asAgg, Sem.run_pure, hr], hrv⟩
  · exact hok.elim

theorem kind_array {t : TypeId} {n : Nat} {e : TypeId} (h : (tinfo P t).kind = .array n e) : P.underlying t = some (.array n e) ∧ (tinfo P t).ok = true := by
  obtain ⟨d, hu, hd, hok, _⟩ := kind_und h (by simp)
  cases d <;> simp [tkOf] at hd
  obtain ⟨rfl, rfl⟩ := hd
  exact ⟨hu, hok⟩
theorem kind_string {t : TypeId} (h : (tinfo P t).kind = .string) : P.underlying t = some .string ∧ (tinfo P t).ok = true := by
  obtain ⟨d, hu, hd, hok, _⟩ := kind_und h (by simp)
  cases d <;> simp [tkOf] at hd
  exact ⟨hu, hok⟩
theorem kind_map {t k e : TypeId} (h : (tinfo P t).kind = .map k e) : P.underlying t = some (.map k e) ∧ (tinfo P t).ok = true := by
  obtain ⟨d, hu, hd, hok, _⟩ := kind_und h (by simp)
  cases d <;> simp [tkOf] at hd
  obtain ⟨rfl, rfl⟩ := hd
  exact ⟨hu, hok⟩

theorem hsz_n (hh : HRel gl h J w) {b : Nat} {k : Blk} (hb : J[b]? = some k) (hp : 0 < hsz h b) : ∃ es, h[b]? = some (.cells k.n es) ∧ hsz h b = k.n ∧ hcells h b = es := by
  unfold hsz at hp
  split at hp
  · rename_i n es he
    obtain ⟨hkn, hn, hcap, hlen, _⟩ := hh.obj b k _ hb he
    subst hkn
    exact ⟨es, he, by simp [hsz, he], by simp [hcells, he]⟩
  · simp at hp

theorem indexAddr_yields (hh : HRel gl h J w) {t : TypeId} {x y : AV} {u v : Value} (hx : VRel J (Own h J) w x u) (hy : VRel J (Own h J) w y v) (hi : isInt y) (h0 : 0 ≤ aint y)
    (hok : iaddrOk P h (tinfo P t).kind x (aint y)) : Yields1 P J (Own h J) w (Instr.indexAt t u v) (iaddrV P (tinfo P t).kind x (aint y)) := by
  unfold iaddrOk at hok
  unfold iaddrV
  obtain ⟨k, rfl⟩ := int_of hy hi
  generalize aint y = n at *
  split at hok
  · rename_i e b off len hk
    obtain ⟨he, h1, h2, h3⟩ := hok
    obtain ⟨hu, _⟩ := kind_slice hk
    cases hx with
    | own _ _ _ kb a cap hb ha hlen hcap =>
      have hp : 0 < hsz h b := by
        have h4 : 0 < (hcells h b).length := by omega
        unfold hcells at h4
        unfold hsz
        split at h4
        · rename_i n' es he'
          obtain ⟨hkn, hn, _⟩ := hh.obj b kb _ hb he'
          first | omega | (simp only [he']; omega)
        · simp at h4
      obtain ⟨es, _, hn, _⟩ := hsz_n hh hb hp
      have hsz := run_sizeOf' he w
      rw [← h3, hn] at hsz
      have ha' := ha (by omega)
      refine ⟨_, ?_, .ptr b (off + n.toNat) 0 kb hb⟩
      simp only [Instr.indexAt, asIntOf, Sem.run_bind, Sem.run_pure, Result.andThen_ok, run_underlying hu]
      rw [Sem.run_ite, if_pos ⟨h0, h1⟩]
      simp only [Sem.run_bind, hsz, Result.andThen_ok, Sem.run_pure]
      rw [ha', add_mk, show kb.base + off * kb.n + n.toNat * kb.n = kb.base + ((off + n.toNat) * kb.n + 0) by rw [Nat.add_mul]; omega]
  · rename_i e es hk
    obtain ⟨he, h1, h2⟩ := hok
    obtain ⟨hu, _⟩ := kind_slice hk
    cases hx with
    | roNil => simp at h1; omega
    | ro _ a m cap f hcap hn hO hl hc ho hr =>
      have hlt : n.toNat < es.length := by omega
      have hg : es[n.toNat]? = some (es.getD n.toNat []) := by simp [List.getD, List.getElem?_eq_getElem hlt]
      have hm := hl _ _ hg
      have hsz := run_sizeOf' he w
      rw [← h2, hm] at hsz
      refine ⟨_, ?_, .rop es n.toNat 0 a m f hn hO hl hc ho hr⟩
      simp only [Instr.indexAt, asIntOf, Sem.run_bind, Sem.run_pure, Result.andThen_ok, run_underlying hu]
      rw [Sem.run_ite, if_pos ⟨h0, h1⟩]
      simp only [Sem.run_bind, hsz, Result.andThen_ok, Sem.run_pure, Nat.add_zero]
  · rename_i m e b i c hk
    obtain ⟨he, h1⟩ := hok
    obtain ⟨hu, _⟩ := kind_array hk
    cases hx with
    | ptr _ _ _ kb hb =>
      refine ⟨_, ?_, .ptr b i (c + n.toNat * (tinfo P e).cells) kb hb⟩
      simp only [Instr.indexAt, asIntOf, Instr.sureAddr, Sem.run_bind, Sem.run_pure, Result.andThen_ok, run_underlying hu]
      rw [Sem.run_ite, if_pos ⟨h0, h1⟩]
      simp only [Sem.run_bind, run_sizeOf' he, Result.andThen_ok, Sem.run_pure]
      rw [add_mk, show kb.base + (i * kb.n + c) + n.toNat * (tinfo P e).cells = kb.base + (i * kb.n + (c + n.toNat * (tinfo P e).cells)) by omega]
  · rename_i m e es i c hk
    obtain ⟨he, h1⟩ := hok
    obtain ⟨hu, _⟩ := kind_array hk
    cases hx with
    | rop _ _ _ a q f hn hO hl hc ho hr =>
      refine ⟨_, ?_, .rop es i (c + n.toNat * (tinfo P e).cells) a q f hn hO hl hc ho hr⟩
      simp only [Instr.indexAt, asIntOf, Instr.sureAddr, Sem.run_bind, Sem.run_pure, Result.andThen_ok, run_underlying hu]
      rw [Sem.run_ite, if_pos ⟨h0, h1⟩]
      simp only [Sem.run_bind, run_sizeOf' he, Result.andThen_ok, Sem.run_pure]
      rw [add_add', show i * q + c + n.toNat * (tinfo P e).cells = i * q + (c + n.toNat * (tinfo P e).cells) by omega]
  · exact hok.elim

theorem index_yields {t : TypeId} {x y : AV} {u v : Value} (hx : VRel J O w x u) (hy : VRel J O w y v) (hi : isInt y) (h0 : 0 ≤ aint y)
    (hok : indexOk P (tinfo P t).kind x (aint y)) : Yields1 P J O w (Instr.index t u v) (indexV P (tinfo P t).kind x (aint y)) := by
  unfold indexOk at hok
  unfold indexV
  obtain ⟨k, rfl⟩ := int_of hy hi
  generalize aint y = n at *
  split at hok
  · rename_i s hk
    obtain ⟨hu, _⟩ := kind_string hk
    cases hx
    have hlt : n.toNat < s.length := by omega
    refine ⟨_, ?_, .int _ _⟩
    have e1 : (⟨s.toArray⟩ : ByteArray)[n.toNat]? = some (s[n.toNat]'hlt) := by
      rw [ByteArray.getElem?_lt' _ _ (by simpa [ByteArray.size] using hlt)]
      rfl
    simp only [Instr.index, asIntOf, Sem.run_bind, Sem.run_pure, Result.andThen_ok, run_underlying hu, if_pos h0, e1]
    simp [List.getD, hlt]
  · rename_i m e cs hk
    obtain ⟨he, h1, h2⟩ := hok
    obtain ⟨hu, _⟩ := kind_array hk
    obtain ⟨vs, rfl, r, hr, hrv⟩ := part_sound (P := P) he hx h2
    refine ⟨r, ?_, hrv⟩
    simp only [Instr.index, asIntOf, Sem.run_bind, Sem.run_pure, Result.andThen_ok, run_underlying hu]
    rw [Sem.run_ite, if_pos ⟨h0, h1⟩]
    simp only [Sem.run_bind, run_sizeOf' he, Result.andThen_ok, hr]
  · exact hok.elim

end
end Go.Abs
end
end

section 
section
namespace Go.Abs
open Go

section
variable {P : Program} {gl : Globs} {J : List Blk} {h : AHeap} {w : World} {O : Nat → Prop} {fr : AFrame}

theorem run_checkKey_basic (em : Bool) (m : Nat) (t : TypeId) (v : Value) {d : TypeDesc} (hu : P.underlying t = some d) (hd : (∃ k, d = .int k) ∨ d = .string ∨ d = .bool) :
    (Instr.checkKey em (m + 1) t v).run P w = .ok () w := by
  rcases hd with ⟨k, rfl⟩ | rfl | rfl <;>
  · simp only [Instr.checkKey, Sem.run_bind, run_underlying hu, Result.andThen_ok]
    cases v <;> rfl

theorem check_flat (em : Bool) : ∀ (d : Nat) (t : TypeId) (bs : List BK), flat P d t = some bs → ∀ (xs : List AV) (us : List Value) (off : Nat) (m : Nat), d ≤ m → xs.length = bs.length → Shows J O w xs us off →
    (part t us.toArray off >>= fun a => Instr.checkKey em m t a).run P w = .ok () w
  | 0, _, _, hf => by simp [flat] at hf
  | d + 1, t, bs, hf => by
    intro xs us off m hm hl hxs
    obtain ⟨m, rfl⟩ : ∃ m', m = m' + 1 := ⟨m - 1, by omega⟩
    by_cases hst : ∃ fs, P.underlying t = some (.struct fs)
    · obtain ⟨fs, hu⟩ := hst
      have hf' := hf
      unfold flat at hf'
      cases hi : P.info? t with
      | none => simp [hu, hi] at hf'
      | some i =>
      simp only [hu, hi] at hf'
      split at hf'
      · simp at hf'
      split at hf'
      · rename_i r hr
        split at hf'
        · rename_i hlen
          injection hf' with hf'
          subst hf'
          have hp1 : (part t us.toArray off).run P w = .ok (.agg (us.toArray.extract off (off + r.length))) w := by
            simp only [part, Sem.run_bind, run_isAgg_of hu, Result.andThen_ok, aggOf, if_true, sizeOf, typeInfo, run_program, hi, Sem.run_pure, hlen]
          rw [Sem.run_bind, hp1, Result.andThen_ok]
          have e1 : us.toArray.extract off (off + r.length) = ((us.drop off).take r.length).toArray := by
            simp [List.extract_toArray, List.extract_eq_take_drop]
          rw [e1]
          have s1 : Shows J O w xs ((us.drop off).take r.length) 0 := by
            intro i x hx
            obtain ⟨u, h1, h2⟩ := hxs i x hx
            have hi' : i < r.length := by
              rw [← hl]
              exact (List.getElem?_eq_some_iff.1 hx).1
            exact ⟨u, by rw [Nat.zero_add, List.getElem?_take_of_lt hi', List.getElem?_drop]; exact h1, h2⟩
          generalize (us.drop off).take r.length = us' at s1 ⊢
          simp only [Instr.checkKey, Sem.run_bind, run_underlying hu, Result.andThen_ok]
          rw [← Array.forIn_toList]
          have key : ∀ (l : List Field) (o : Nat) (r : List BK), flatFields (flat P d) o l = some r → ∀ (xs : List AV), xs.length = r.length → Shows J O w xs us' o → ∀ (body : Field → PUnit → Sem (ForInStep PUnit)),
              (∀ f u, f ∈ l → (body f u) = (if f.name ≠ "_" then (do let a ← part f.type us'.toArray f.offset; Instr.checkKey em m f.type a; pure (ForInStep.yield PUnit.unit)) else pure (ForInStep.yield PUnit.unit))) →
              (forIn l PUnit.unit body).run P w = .ok PUnit.unit w := by
            intro l
            induction l with
            | nil => intro o r hr xs hl _ body hb; simp
            | cons f l ih =>
              intro o r hr xs hl hx body hb
              unfold flatFields at hr
              split at hr
              · rename_i hname
                split at hr
                · rename_i b hb'
                  split at hr
                  · rename_i r' hr'
                    injection hr with hr
                    subst hr
                    simp only [List.length_append] at hl
                    have h1 := check_flat em d f.type b hb' (xs.take b.length) us' f.offset m (by omega) (by simp; omega) (by rw [hname.2]; exact shows_take hx)
                    have h2 := ih (o + b.length) r' hr' (xs.drop b.length) (by simp; omega) (shows_drop hx) body (fun f' u hf' => hb f' u (by simp [hf']))
                    simp only [List.forIn_cons, Sem.run_bind]
                    rw [hb f _ (by simp), if_pos hname.1]
                    simp only [Sem.run_bind] at h1 ⊢
                    generalize (part f.type us'.toArray f.offset).run P w = r1 at h1 ⊢
                    cases r1 with
                    | halt => simp [Result.andThen] at h1
                    | ok a w1 =>
                      simp only [Result.andThen_ok] at h1 ⊢
                      rw [h1]
                      simpa using h2
                  · simp at hr
                · simp at hr
              · simp at hr
          have := key fs.toList 0 r hr xs hl s1 (fun f r => if f.name ≠ "_" then (do let a ← part f.type us'.toArray f.offset; Instr.checkKey em m f.type a; pure (ForInStep.yield PUnit.unit)) else pure (ForInStep.yield PUnit.unit)) (fun _ _ _ => rfl)
          rw [this]
          rfl
        · simp at hf'
      · simp at hf'
    · by_cases har : ∃ n e, P.underlying t = some (.array n e)
      · obtain ⟨len, e, hu⟩ := har
        have hf' := hf
        unfold flat at hf'
        cases hi : P.info? t with
        | none => simp [hu, hi] at hf'
        | some i =>
        simp only [hu, hi] at hf'
        split at hf'
        · rename_i r hr
          split at hf'
          · rename_i hlen
            injection hf' with hf'
            have hsz : (sizeOf e).run P w = .ok r.length w := by
              have h0 := hlen.2
              cases d with
              | zero => simp [flat] at hr
              | succ d =>
                cases hie : P.info? e with
                | none =>
                  unfold flat at hr
                  rw [hie] at hr
                  cases hue : P.underlying e <;> simp [hue] at hr
                | some ie => simp [Program.cellsOf, hie] at h0; simp [sizeOf, typeInfo, hie, h0]
            have hbl : bs.length = i.size := by
              rw [← hf', ← hlen.1, List.length_flatMap, List.map_const', List.length_range, List.sum_replicate_nat]
            have hp : (part t us.toArray off).run P w = .ok (.agg (us.toArray.extract off (off + bs.length))) w := by
              simp only [part, Sem.run_bind, run_isAgg_of hu, Result.andThen_ok, aggOf, if_true, sizeOf, typeInfo, run_program, hi, Sem.run_pure, hbl]
            rw [Sem.run_bind, hp, Result.andThen_ok]
            have e1 : us.toArray.extract off (off + bs.length) = ((us.drop off).take bs.length).toArray := by
              simp [List.extract_toArray, List.extract_eq_take_drop]
            rw [e1]
            have s1 : Shows J O w xs ((us.drop off).take bs.length) 0 := by
              intro i x hx
              obtain ⟨u, h1, h2⟩ := hxs i x hx
              have hi' : i < bs.length := by
                rw [← hl]
                exact (List.getElem?_eq_some_iff.1 hx).1
              exact ⟨u, by rw [Nat.zero_add, List.getElem?_take_of_lt hi', List.getElem?_drop]; exact h1, h2⟩
            generalize (us.drop off).take bs.length = us' at s1 ⊢
            simp only [Instr.checkKey, Sem.run_bind, run_underlying hu, Result.andThen_ok]
            simp only [Std.Legacy.Range.forIn_eq_forIn_range', Std.Legacy.Range.size, Nat.sub_zero, Nat.add_sub_cancel, Nat.div_one]
            have key : ∀ (k s : Nat) (xs : List AV), xs.length = k * r.length → Shows J O w xs us' (s * r.length) → ∀ (body : Nat → PUnit → Sem (ForInStep PUnit)),
                (∀ i u, (body i u).run P w = (do let n ← sizeOf e; let a ← part e us'.toArray (i * n); Instr.checkKey em m e a; pure (ForInStep.yield PUnit.unit)).run P w) →
                (forIn (List.range' s k) PUnit.unit body).run P w = .ok PUnit.unit w := by
              intro k
              induction k with
              | zero => intro s xs _ _ body _; simp
              | succ k ih =>
                intro s xs hlx hx body hb
                rw [Nat.add_mul, Nat.one_mul] at hlx
                have h1 := check_flat em d e r hr (xs.take r.length) us' (s * r.length) m (by omega) (by simp; omega) (shows_take hx)
                have h2 := ih (s + 1) (xs.drop r.length) (by simp; omega) (by rw [Nat.add_mul, Nat.one_mul]; exact shows_drop hx) body hb
                rw [List.range'_succ]
                simp only [List.forIn_cons, Sem.run_bind]
                rw [hb s _]
                simp only [Sem.run_bind, hsz, Result.andThen_ok] at h1 ⊢
                generalize (part e us'.toArray (s * r.length)).run P w = r1 at h1 ⊢
                cases r1 with
                | halt => simp [Result.andThen] at h1
                | ok a w1 =>
                  simp only [Result.andThen_ok] at h1 ⊢
                  rw [h1]
                  simpa using h2
            have hb' : bs.length = len * r.length := by rw [hbl, ← hlen.1]
            rw [key len 0 xs (by rw [hl, hb']) (by simpa using s1) _ (fun i u => by simp only [Sem.run_bind, hsz, Result.andThen_ok])]
            rfl
          · simp at hf'
        · simp at hf'
      · have hb := flat_basic hf (fun fs h => hst ⟨fs, h⟩) (fun n e h => har ⟨n, e, h⟩)
        have hd : ∃ dd, P.underlying t = some dd ∧ ((∃ k, dd = .int k) ∨ dd = .string ∨ dd = .bool) ∧ bs.length = 1 := by
          rcases hb with ⟨k, hu, rfl⟩ | ⟨hu, rfl⟩ | ⟨hu, rfl⟩
          · exact ⟨_, hu, .inl ⟨k, rfl⟩, rfl⟩
          · exact ⟨_, hu, .inr (.inl rfl), rfl⟩
          · exact ⟨_, hu, .inr (.inr rfl), rfl⟩
        obtain ⟨dd, hu, hdd, hbl⟩ := hd
        obtain ⟨x, rfl⟩ := List.length_eq_one_iff.1 (hl.trans hbl)
        obtain ⟨u, h1, h2⟩ := hxs 0 x (by simp)
        have hp : (part t us.toArray off).run P w = .ok u w := by
          have hag : aggOf dd = false := by rcases hdd with ⟨k, rfl⟩ | rfl | rfl <;> rfl
          simp only [part, Sem.run_bind, run_isAgg_of hu, Result.andThen_ok, hag, Bool.false_eq_true, if_false]
          have : us.toArray[off]? = some u := by simpa using h1
          rw [this]; rfl
        rw [Sem.run_bind, hp, Result.andThen_ok, run_checkKey_basic em m t u hu hdd]

theorem check_key (em : Bool) {t : TypeId} {k : AV} {v : Value} {kvs : List (AV × AV)} (hk : keysOk P t k kvs) (hv : VRel J O w k v) : (Instr.checkKey em 10000 t v).run P w = .ok () w := by
  obtain ⟨ha, bs, hf, hc, hxx⟩ := hk
  clear hxx
  have hl := (cok_len _ _ _ hc).1
  have hok := flat_ok hf
  have hcells := flat_cells hf
  unfold aggFit at ha
  cases hag : (tinfo P t).agg with
  | true =>
    rw [hag] at ha
    cases k <;> simp only at ha
    rename_i xs
    simp only [acells] at hl
    cases hv with
    | agg _ us hl1 ho1 h1 =>
      have h0 := check_flat (P := P) em 50 t bs hf xs us 0 10000 (by omega) hl (shows_of_vrels hl1 h1)
      have p1 : (part t us.toArray 0).run P w = .ok (.agg us.toArray) w := by
        simp only [part, Sem.run_bind, run_isAgg' hok, hag, Result.andThen_ok, if_true, run_sizeOf' hok, hcells, Sem.run_pure]
        congr 2
        simp [← hl, hl1]
      rwa [Sem.run_bind, p1, Result.andThen_ok] at h0
  | false =>
    rw [hag] at ha
    have hnx : ∀ cs, k ≠ .agg cs := by rintro cs rfl; simp at ha
    rw [vrel_cells hv hnx] at hl
    have h0 := check_flat (P := P) em 50 t bs hf [k] [v] 0 10000 (by omega) hl (shows_of_vrels rfl (VRels.cons hv .nil).2)
    have p1 : (part t [v].toArray 0).run P w = .ok v w := by
      simp [part, run_isAgg' hok, hag]
    rwa [Sem.run_bind, p1, Result.andThen_ok] at h0

/-- The place of a key. -/
def aidx (kvs : List (AV × AV)) (k : AV) : Option Nat := kvs.findIdx? fun p => ceq (acells k) (acells p.1)

theorem cok_trans {bs : List BK} : ∀ {xs ys : List AV}, cok bs xs xs → cok bs ys ys → (∀ (i : Nat) (b : BK) (x y : AV), bs[i]? = some b → xs[i]? = some x → ys[i]? = some y → cok1 b x y) → cok bs xs ys := by
  induction bs with
  | nil =>
    intro xs ys hx hy _
    have h1 := (cok_len _ _ _ hx).1
    have h2 := (cok_len _ _ _ hy).1
    simp at h1 h2
    subst h1; subst h2
    trivial
  | cons b bs ih =>
    intro xs ys hx hy hh
    cases xs with
    | nil => simp [cok] at hx
    | cons x xs =>
      cases ys with
      | nil => simp [cok] at hy
      | cons y ys =>
        simp only [cok] at hx hy ⊢
        exact ⟨hh 0 b x y rfl rfl rfl, ih hx.2 hy.2 fun i b' x' y' h1 h2 h3 => hh (i + 1) b' x' y' (by simpa using h1) (by simpa using h2) (by simpa using h3)⟩

theorem cok1_of {b : BK} {x x' y y' : AV} (h1 : cok1 b x x') (h2 : cok1 b y y') (hk : ∀ k k' n n', x = .int k n → y = .int k' n' → k = k') : cok1 b x y := by
  unfold cok1 at h1
  split at h1 <;> first | (rename_i h; exact h1.elim) | skip
  · unfold cok1 at h2
    split at h2 <;> first | (rename_i h; cases h; done) | exact h2.elim | skip
    · exact hk _ _ _ _ rfl rfl
  · unfold cok1 at h2
    split at h2 <;> first | (rename_i h; cases h; done) | exact h2.elim | trivial
  · unfold cok1 at h2
    split at h2 <;> first | (rename_i h; cases h; done) | exact h2.elim | trivial

theorem sameNow_sound {t : TypeId} {d : TypeDesc} (hu : P.underlying t = some d) {k p : AV} {u v : Value} (hk : VRel J O w k u) (hp : VRel J O w p v) {bs : List BK} (hf : flat P 50 t = some bs) (hak : aggFit (tinfo P t) k) (hap : aggFit (tinfo P t) p)
    (hc : cok bs (acells k) (acells p)) : Instr.sameNow d u v = some (ceq (acells k) (acells p)) ∨ Instr.sameNow d u v = none := by
  cases d with
  | int kd =>
    have hag : (tinfo P t).agg = false := by
      obtain ⟨d', i, hd, hi, e⟩ := tinfo_ok (flat_ok hf)
      rw [e]; rw [hu] at hd; injection hd with hd; subst hd; rfl
    unfold aggFit at hak hap
    rw [hag] at hak hap
    have hnk : ∀ cs, k ≠ .agg cs := by rintro cs rfl; simp at hak
    have hnp : ∀ cs, p ≠ .agg cs := by rintro cs rfl; simp at hap
    rw [vrel_cells hk hnk, vrel_cells hp hnp] at hc ⊢
    obtain ⟨b, rfl⟩ := List.length_eq_one_iff.1 ((cok_len _ _ _ hc).1.symm)
    simp only [cok, and_true] at hc
    unfold cok1 at hc
    split at hc
    · cases hk; cases hp
      subst hc
      left; simp [Instr.sameNow, ceq, ceq1]
    · right; cases hk; cases hp; rfl
    · right; cases hk; cases hp; rfl
    · exact hc.elim
  | string =>
    have hag : (tinfo P t).agg = false := by
      obtain ⟨d', i, hd, hi, e⟩ := tinfo_ok (flat_ok hf)
      rw [e]; rw [hu] at hd; injection hd with hd; subst hd; rfl
    unfold aggFit at hak hap
    rw [hag] at hak hap
    have hnk : ∀ cs, k ≠ .agg cs := by rintro cs rfl; simp at hak
    have hnp : ∀ cs, p ≠ .agg cs := by rintro cs rfl; simp at hap
    rw [vrel_cells hk hnk, vrel_cells hp hnp] at hc ⊢
    obtain ⟨b, rfl⟩ := List.length_eq_one_iff.1 ((cok_len _ _ _ hc).1.symm)
    simp only [cok, and_true] at hc
    unfold cok1 at hc
    split at hc
    · right; cases hk; cases hp; rfl
    · cases hk; cases hp
      left
      simp [Instr.sameNow, ceq, ceq1, beq_toListBytes, str_val]
    · right; cases hk; cases hp; rfl
    · exact hc.elim
  | bool =>
    have hag : (tinfo P t).agg = false := by
      obtain ⟨d', i, hd, hi, e⟩ := tinfo_ok (flat_ok hf)
      rw [e]; rw [hu] at hd; injection hd with hd; subst hd; rfl
    unfold aggFit at hak hap
    rw [hag] at hak hap
    have hnk : ∀ cs, k ≠ .agg cs := by rintro cs rfl; simp at hak
    have hnp : ∀ cs, p ≠ .agg cs := by rintro cs rfl; simp at hap
    rw [vrel_cells hk hnk, vrel_cells hp hnp] at hc ⊢
    obtain ⟨b, rfl⟩ := List.length_eq_one_iff.1 ((cok_len _ _ _ hc).1.symm)
    simp only [cok, and_true] at hc
    unfold cok1 at hc
    split at hc
    · right; cases hk; cases hp; rfl
    · right; cases hk; cases hp; rfl
    · cases hk; cases hp
      left
      simp [Instr.sameNow, ceq, ceq1]
    · exact hc.elim
  | _ => right; cases u <;> cases v <;> rfl

/-- What is found of a key. -/
def foundAt (kvs : List (AV × AV)) (k : AV) (es : List MapEntry) (i : Nat) : Option (Nat × Value) := match aidx kvs k with
  | some j => (es[j]?).map fun e => (i + j, e.val)
  | none => none

theorem foundAt_cons_hit {p : AV × AV} {kvs : List (AV × AV)} {k : AV} {e : MapEntry} {es : List MapEntry} {i : Nat} (h : ceq (acells k) (acells p.1) = true) : foundAt (p :: kvs) k (e :: es) i = some (i, e.val) := by
  simp [foundAt, aidx, List.findIdx?_cons, h]
theorem foundAt_cons_miss {p : AV × AV} {kvs : List (AV × AV)} {k : AV} {e : MapEntry} {es : List MapEntry} {i : Nat} (h : ceq (acells k) (acells p.1) = false) : foundAt (p :: kvs) k (e :: es) i = foundAt kvs k es (i + 1) := by
  simp only [foundAt, aidx, List.findIdx?_cons, h, Bool.false_eq_true, if_false]
  cases hx : kvs.findIdx? (fun p => ceq (acells k) (acells p.1)) with
  | none => simp
  | some j =>
    simp only [Option.map_some, List.getElem?_cons_succ]
    cases es[j]? with
    | none => rfl
    | some e => simp only [Option.map_some, Option.some.injEq, Prod.mk.injEq, and_true]; omega

theorem findAsking_sound {t : TypeId} {k : AV} {u : Value} (hk : VRel J O w k u) : ∀ (kvs : List (AV × AV)) (es : List MapEntry) (i : Nat), keysOk P t k kvs → es.length = kvs.length →
    (∀ (i : Nat) (e : MapEntry) (p : AV × AV), es[i]? = some e → kvs[i]? = some p → VRel J O w p.1 e.key) → (Instr.findAsking t u es i).run P w = .ok (foundAt kvs k es i) w
  | [], [], i, _, _, _ => by simp [Instr.findAsking, foundAt, aidx]
  | [], _ :: _, _, _, h, _ => by simp at h
  | _ :: _, [], _, _, h, _ => by simp at h
  | p :: kvs, e :: es, i, hok, hl, hr => by
    obtain ⟨ha, bs, hf, hc, hall⟩ := hok
    obtain ⟨hap, hcp⟩ := hall p (by simp)
    have he := equal_vals (P := P) hf hk (hr 0 e p rfl rfl) ha hap hcp 10000 (by omega)
    have he' : (Op.equal t u e.key).run P w = .ok (ceq (acells k) (acells p.1)) w := he
    simp only [Instr.findAsking, Sem.run_bind, he', Result.andThen_ok]
    cases hcc : ceq (acells k) (acells p.1) with
    | true => rw [foundAt_cons_hit hcc]; simp
    | false =>
      rw [foundAt_cons_miss hcc]
      simp only [Bool.false_eq_true, if_false]
      exact findAsking_sound hk kvs es (i + 1) ⟨ha, bs, hf, hc, fun q hq => hall q (by simp [hq])⟩ (by simpa using hl) (fun j e' p' h1 h2 => hr (j + 1) e' p' (by simpa using h1) (by simpa using h2))

theorem findNow_sound {t : TypeId} {d : TypeDesc} (hu : P.underlying t = some d) {k : AV} {u : Value} (hk : VRel J O w k u) : ∀ (kvs : List (AV × AV)) (es : List MapEntry) (i : Nat), keysOk P t k kvs → es.length = kvs.length →
    (∀ (i : Nat) (e : MapEntry) (p : AV × AV), es[i]? = some e → kvs[i]? = some p → VRel J O w p.1 e.key) → Instr.findNow d u es i = some (foundAt kvs k es i) ∨ Instr.findNow d u es i = none
  | [], [], i, _, _, _ => by simp [Instr.findNow, foundAt, aidx]
  | [], _ :: _, _, _, h, _ => by simp at h
  | _ :: _, [], _, _, h, _ => by simp at h
  | p :: kvs, e :: es, i, hok, hl, hr => by
    obtain ⟨ha, bs, hf, hc, hall⟩ := hok
    obtain ⟨hap, hcp⟩ := hall p (by simp)
    rcases sameNow_sound hu hk (hr 0 e p rfl rfl) hf ha hap hcp with h1 | h1
    · simp only [Instr.findNow, h1]
      cases hcc : ceq (acells k) (acells p.1) with
      | true => left; rw [foundAt_cons_hit hcc]
      | false =>
        rw [foundAt_cons_miss hcc]
        exact findNow_sound hu hk kvs es (i + 1) ⟨ha, bs, hf, hc, fun q hq => hall q (by simp [hq])⟩ (by simpa using hl) (fun j e' p' h1 h2 => hr (j + 1) e' p' (by simpa using h1) (by simpa using h2))
    · right; simp [Instr.findNow, h1]

theorem findKey_sound {t : TypeId} {k : AV} {u : Value} (hk : VRel J O w k u) {kvs : List (AV × AV)} {es : List MapEntry} (hok : keysOk P t k kvs) (hl : es.length = kvs.length)
    (hr : ∀ (i : Nat) (e : MapEntry) (p : AV × AV), es[i]? = some e → kvs[i]? = some p → VRel J O w p.1 e.key) : (Instr.findKey t u es).run P w = .ok (foundAt kvs k es 0) w := by
  obtain ⟨d, i, hu, _, _⟩ := tinfo_ok (flat_ok hok.2.choose_spec.1)
  simp only [Instr.findKey, Sem.run_bind, run_underlying hu, Result.andThen_ok]
  rcases findNow_sound hu hk kvs es 0 hok hl hr with h1 | h1
  · rw [h1]; rfl
  · rw [h1]; exact findAsking_sound hk kvs es 0 hok hl hr

theorem azero_sound {t : TypeId} (hz : zeroOk (tinfo P t)) : ∃ z, (zeroValue t).run P w = .ok z w ∧ VRel J O w (azero (tinfo P t)) z := by
  obtain ⟨hok, hzok, hl⟩ := hz
  obtain ⟨z, h1, h2, h3, h4⟩ := run_zeroValue' hok hzok w
  refine ⟨z, h1, ?_⟩
  unfold azero
  have hr := vrels_ofV1 (J := J) (O := O) (w := w) h2
  rw [← h3] at hr
  cases hag : (tinfo P t).agg with
  | true =>
    rw [hag] at h4
    cases z <;> simp [isAggV] at h4
    rename_i cs
    have e : cs = cs.toList.toArray := by simp
    simp only [Value.cells] at hr h2
    conv => rhs; rw [e]
    exact .agg _ _ hr.1 h2 hr.2
  | false =>
    rw [hag] at h4
    have hc : z.cells.toList = [z] := by cases z <;> first | rfl | simp [isAggV] at h4
    rw [hc] at h3 hr
    rw [h3]
    exact hr.2 0 _ z (by rw [h3]; rfl) rfl
end
end Go.Abs
end

section 

namespace Go.Abs
open Go

section
variable {P : Program} {gl : Globs} {J : List Blk} {h : AHeap} {w : World} {O : Nat → Prop} {fr : AFrame}

theorem run_getObj' {r : Nat} {o : Obj} (hr : w.heap[r]? = some o) (hn : ∀ c e f, o ≠ .cells c e f) : (getObj r).run P w = .ok o w := by
  simp only [getObj, Sem.run, hr]

theorem map_of (hh : HRel gl h J w) {b : Nat} {v : Value} (hv : VRel J (Own h J) w (.map b) v) (hm : isMap h b = true) :
    ∃ (r : Nat) (es : Array MapEntry) (clock : Nat), v = .map (some r) ∧ w.heap[r]? = some (.map es clock) ∧ es.size = (hmap h b).length ∧
      ∀ (i : Nat) (e : MapEntry) (p : AV × AV), es[i]? = some e → (hmap h b)[i]? = some p → VRel J (Own h J) w p.1 e.key ∧ VRel J (Own h J) w p.2 e.val := by
  unfold isMap at hm
  split at hm
  · rename_i kvs hb
    cases hv with
    | map _ k hk =>
      obtain ⟨es, clock, h1, h2, h3, _⟩ := hh.obj b k _ hk hb
      have e : hmap h b = kvs := by simp [hmap, hb]
      rw [e]
      exact ⟨k.r, es, clock, rfl, h1, h2, h3⟩
  · cases hm

theorem alook_found {kvs : List (AV × AV)} {k : AV} {es : List MapEntry} (hl : es.length = kvs.length) (hr : ∀ (i : Nat) (e : MapEntry) (p : AV × AV), es[i]? = some e → kvs[i]? = some p → VRel J O w p.2 e.val) :
    (alook kvs k = none ∧ foundAt kvs k es 0 = none) ∨ ∃ x i u, alook kvs k = some x ∧ foundAt kvs k es 0 = some (i, u) ∧ VRel J O w x u := by
  unfold alook foundAt aidx
  cases hx : kvs.findIdx? (fun p => ceq (acells k) (acells p.1)) with
  | none =>
    left
    refine ⟨?_, rfl⟩
    rw [List.findIdx?_eq_none_iff] at hx
    simp only [Option.map_eq_none_iff, List.find?_eq_none]
    intro p hp
    simp [hx p hp]
  | some j =>
    right
    have hj := List.findIdx?_eq_some_iff_getElem.1 hx
    obtain ⟨hlt, h1, h2⟩ := hj
    have hf : kvs.find? (fun p => ceq (acells k) (acells p.1)) = some kvs[j] := by
      rw [List.find?_eq_some_iff_getElem]
      exact ⟨h1, j, hlt, rfl, fun i hi => by simpa using h2 i hi⟩
    have he : es[j]? = some (es[j]'(by omega)) := List.getElem?_eq_getElem (by omega)
    refine ⟨kvs[j].2, j, (es[j]'(by omega)).val, by simp [hf], by simp [he], hr j _ _ he (List.getElem?_eq_getElem hlt)⟩

theorem lookup_yields (hh : HRel gl h J w) {t : TypeId} {x k : AV} {u v : Value} (ok : Bool) (hx : VRel J (Own h J) w x u) (hk : VRel J (Own h J) w k v) (hok : lookOk P h (tinfo P t).kind x k) :
    Yields1 P J (Own h J) w (Instr.lookup t u v ok) (lookV P h (tinfo P t).kind x k ok) := by
  unfold lookOk at hok
  unfold lookV
  split at hok
  · rename_i kt et b hkd
    obtain ⟨hu, _⟩ := kind_map hkd
    obtain ⟨hm, hz, hks⟩ := hok
    obtain ⟨r, es, clock, rfl, h1, h2, h3⟩ := map_of hh hx hm
    obtain ⟨z, hz1, hz2⟩ := azero_sound (J := J) (O := Own h J) (w := w) hz
    have hg : (getObj r).run P w = .ok (.map es clock) w := run_getObj' h1 (by intros; simp)
    have hck := check_key (P := P) es.isEmpty hks hk
    have hfk := findKey_sound (P := P) hk hks (es := es.toList) (by simpa using h2) (fun i e p h4 h5 => (h3 i e p (by simpa using h4) h5).1)
    have hal := alook_found (J := J) (O := Own h J) (w := w) (k := k) (kvs := hmap h b) (es := es.toList) (by simpa using h2) (fun i e p h4 h5 => (h3 i e p (by simpa using h4) h5).2)
    rcases hal with ⟨e1, e2⟩ | ⟨y, i, uy, e1, e2, e3⟩
    · simp only [e1, Option.getD_none, Option.isSome_none]
      cases ok with
      | true =>
        refine ⟨_, ?_, .tup [azero (tinfo P et), .bool false] [z, .bool false] rfl (VRels.cons hz2 (VRels.cons (.bool _) .nil)).2⟩
        simp [Instr.lookup, run_underlying hu, hg, hck, hfk, e2, hz1]
      | false =>
        refine ⟨_, ?_, hz2⟩
        simp [Instr.lookup, run_underlying hu, hg, hck, hfk, e2, hz1]
    · simp only [e1, Option.getD_some, Option.isSome_some]
      cases ok with
      | true =>
        refine ⟨_, ?_, .tup [y, .bool true] [uy, .bool true] rfl (VRels.cons e3 (VRels.cons (.bool _) .nil)).2⟩
        simp [Instr.lookup, run_underlying hu, hg, hck, hfk, e2]
      | false =>
        refine ⟨_, ?_, e3⟩
        simp [Instr.lookup, run_underlying hu, hg, hck, hfk, e2]
  · rename_i kt et hkd
    obtain ⟨hu, _⟩ := kind_map hkd
    obtain ⟨hz, hks⟩ := hok
    cases hx
    obtain ⟨z, hz1, hz2⟩ := azero_sound (J := J) (O := Own h J) (w := w) hz
    have hck := check_key (P := P) true hks hk
    have hfk := findKey_sound (P := P) hk hks (es := []) rfl (by simp)
    have hfa : foundAt [] k [] 0 = none := rfl
    rw [hfa] at hfk
    cases ok with
    | true =>
      refine ⟨_, ?_, .tup [azero (tinfo P et), .bool false] [z, .bool false] rfl (VRels.cons hz2 (VRels.cons (.bool _) .nil)).2⟩
      simp [Instr.lookup, run_underlying hu, hck, hfk, hz1]
    | false =>
      refine ⟨_, ?_, hz2⟩
      simp [Instr.lookup, run_underlying hu, hck, hfk, hz1]
  · exact hok.elim

theorem extract_yields {i : Nat} {x : AV} {u : Value} (hx : VRel J O w x u) (hok : extractOk i x) : Yields1 P J O w (Instr.extract u i) (extractV i x) := by
  unfold extractOk at hok
  unfold extractV
  split at hok
  · rename_i l
    cases hx with
    | tup _ vs hl hr =>
      have e1 : l[i]? = some l[i] := List.getElem?_eq_getElem hok
      have e2 : vs[i]? = some (vs[i]'(by omega)) := List.getElem?_eq_getElem (by omega)
      refine ⟨vs[i]'(by omega), ?_, ?_⟩
      · simp [Instr.extract, e2]
      · simpa [List.getD, e1] using hr i _ _ e1 e2
  · exact hok.elim

theorem getD_map_int (o : Option Int) : (o.map Int.toNat).getD 0 = hiOf o 0 := by cases o <;> rfl

theorem slice_yields (hh : HRel gl h J w) {t : TypeId} {x : AV} {u : Value} {lo hi : Option Value} {l' h' : Option Int} (hx : VRel J (Own h J) w x u) (hl : ∀ v ∈ lo, ∃ k n, v = .int k n ∧ l' = some n) (hln : lo = none → l' = none)
    (hhi : ∀ v ∈ hi, ∃ k n, v = .int k n ∧ h' = some n) (hhn : hi = none → h' = none) (hok : sliceTOk P h (tinfo P t).kind x l' h') : Yields1 P J (Own h J) w (Instr.sliceAt t u lo hi none) (aslice x l' h') := by
  unfold sliceTOk at hok
  split at hok
  · rename_i s hk
    obtain ⟨hu, _⟩ := kind_string hk
    cases hx
    obtain ⟨hb, b1, b2⟩ := run_bounds (P := P) (w := w) (isSlice := false) (cap := s.length) (Nat.le_refl _) (fun _ => rfl) hl hln hhi hhn hok
    refine ⟨_, ?_, .str _⟩
    have hsz : (⟨s.toArray⟩ : ByteArray).size = s.length := by simp [ByteArray.size]
    simp only [Instr.sliceAt, Instr.slice, Sem.run_bind, run_underlying hu, Result.andThen_ok, hsz]
    simp only [Option.isSome_none, Bool.false_eq_true, if_false, Sem.run_bind, Sem.run_pure, Result.andThen_ok, hb]
    congr 2
    apply ByteArray.ext
    show _ = ((s.take (hiOf h' s.length)).drop ((l'.map Int.toNat).getD 0)).toArray
    simp only [ByteArray.data_extract, List.extract_toArray, List.extract_eq_take_drop]
    congr 1
    rw [List.drop_take]
  · rename_i e es hk
    obtain ⟨hu, _⟩ := kind_slice hk
    obtain ⟨he, hlen, hsl⟩ := hok
    cases hx with
    | roNil =>
      obtain ⟨hb, b1, b2⟩ := run_bounds (P := P) (w := w) (isSlice := true) (cap := 0) (Nat.le_refl _) (fun _ => rfl) hl hln hhi hhn hsl
      have e1 : (l'.map Int.toNat).getD 0 = 0 := by simp at b2; omega
      have e2 : hiOf h' 0 = 0 := by simpa using b2
      refine ⟨.slice none 0 0, ?_, by simpa [aslice] using VRel.roNil⟩
      have hb' : (Instr.sliceBounds true 0 0 lo hi none).run P w = .ok ((l'.map Int.toNat).getD 0, hiOf h' 0, 0) w := hb
      rw [e1, e2] at hb'
      simp only [Instr.sliceAt, Instr.slice, Sem.run_bind, run_underlying hu, Result.andThen_ok, hb', run_sizeOf' he, Sem.run_pure, if_true, Nat.sub_zero]
    | ro _ a n cap f hcap hn hO hl0 hc h1 hr =>
      obtain ⟨hb, b1, b2⟩ := run_bounds (P := P) (w := w) (isSlice := true) (cap := cap) hcap (by simp) hl hln hhi hhn hsl
      have hrun : (Instr.sliceAt t (.slice (some a) es.length cap) lo hi none).run P w = .ok (.slice (if cap = (l'.map Int.toNat).getD 0 then some a else (some a).map (·.add ((l'.map Int.toNat).getD 0 * (tinfo P e).cells))) (hiOf h' es.length - (l'.map Int.toNat).getD 0) (cap - (l'.map Int.toNat).getD 0)) w := by
        simp only [Instr.sliceAt, Instr.slice, Sem.run_bind, run_underlying hu, Result.andThen_ok, hb, run_sizeOf' he, Sem.run_pure]
      refine ⟨_, hrun, ?_⟩
      generalize hlo : (l'.map Int.toNat).getD 0 = L at *
      simp only [aslice, hlo]
      generalize hiOf h' es.length = H at *
      have hlen' : ((es.take H).drop L).length = H - L := by simp; omega
      by_cases hcl : cap = L
      · have : H - L = 0 := by omega
        rw [if_pos hcl, this]
        have hnil : (es.take H).drop L = [] := List.eq_nil_of_length_eq_zero (by omega)
        rw [hnil]
        exact VRel.ro [] a 1 (cap - L) (fun _ _ => undef) (by simp) (by omega) (.inl rfl) (by simp) (by simp) (by simp) (by simp)
      · rw [if_neg hcl]
        simp only [Option.map_some]
        rw [← hlen']
        by_cases hes : es = []
        · subst hes
          simp only [List.take_nil, List.drop_nil]
          exact VRel.ro [] _ 1 (cap - L) (fun _ _ => undef) (by simp) (by omega) (.inl rfl) (by simp) (by simp) (by simp) (by simp)
        · have hcn : (tinfo P e).cells = n := by
            obtain ⟨y, ys, rfl⟩ := List.exists_cons_of_ne_nil hes
            rw [← hlen y (by simp), hl0 0 y rfl]
          rw [hcn]
          have sub : ∀ (i : Nat) (e : List AV), ((es.take H).drop L)[i]? = some e → es[L + i]? = some e := by
            intro i e hi
            rw [List.getElem?_drop, List.getElem?_take] at hi
            split at hi
            · exact hi
            · cases hi
          refine VRel.ro _ (a.add (L * n)) n (cap - L) (fun i c => f (L + i) c) (by rw [hlen']; omega) hn ?_ ?_ ?_ ?_ ?_
          · right
            rw [add_block]
            exact hO.resolve_left hes
          · intro i e hi; exact hl0 _ e (sub i e hi)
          · intro i e c x hi hx
            rw [add_add', show L * n + (i * n + c) = (L + i) * n + c by rw [Nat.add_mul]; omega]
            exact hc _ e c x (sub i e hi) hx
          · intro i e c x hi hx; exact h1 _ e c x (sub i e hi) hx
          · intro i e c x hi hx; exact hr _ e c x (sub i e hi) hx
  · rename_i e b off len hk
    obtain ⟨hu, _⟩ := kind_slice hk
    obtain ⟨he, h0, h1, hsl⟩ := hok
    cases hx with
    | own _ _ _ kb a cap hb ha hlen hcap =>
      obtain ⟨es, _, hn, _⟩ := hsz_n hh hb h0
      have hcn : (tinfo P e).cells = kb.n := by rw [← h1, hn]
      obtain ⟨hbd, b1, b2⟩ := run_bounds (P := P) (w := w) (isSlice := true) (cap := cap) hlen (by simp) hl hln hhi hhn hsl
      have hrun : (Instr.sliceAt t (.slice (some a) len cap) lo hi none).run P w = .ok (.slice (if cap = (l'.map Int.toNat).getD 0 then some a else (some a).map (·.add ((l'.map Int.toNat).getD 0 * (tinfo P e).cells))) (hiOf h' len - (l'.map Int.toNat).getD 0) (cap - (l'.map Int.toNat).getD 0)) w := by
        simp only [Instr.sliceAt, Instr.slice, Sem.run_bind, run_underlying hu, Result.andThen_ok, hbd, run_sizeOf' he, Sem.run_pure]
      refine ⟨_, hrun, ?_⟩
      generalize hlo : (l'.map Int.toNat).getD 0 = L at *
      simp only [aslice, hlo]
      generalize hiOf h' len = H at *
      by_cases hcl : cap = L
      · rw [if_pos hcl]
        exact .own b (off + L) (H - L) kb a (cap - L) hb (by omega) (by omega) (by omega)
      · rw [if_neg hcl]
        simp only [Option.map_some]
        refine .own b (off + L) (H - L) kb _ (cap - L) hb (fun hpos' => ?_) (by omega) (by omega)
        rw [ha (by omega), hcn, add_mk, show kb.base + off * kb.n + L * kb.n = kb.base + (off + L) * kb.n by rw [Nat.add_mul]; omega]
  · rename_i e hk
    obtain ⟨hu, _⟩ := kind_slice hk
    obtain ⟨he, hsl⟩ := hok
    cases hx
    obtain ⟨hb, b1, b2⟩ := run_bounds (P := P) (w := w) (isSlice := true) (cap := 0) (Nat.le_refl _) (fun _ => rfl) hl hln hhi hhn hsl
    refine ⟨.slice none 0 0, ?_, .nil⟩
    have e2 : hiOf h' 0 = 0 := by omega
    have e1 : (l'.map Int.toNat).getD 0 = 0 := by omega
    simp only [Instr.sliceAt, Instr.slice, Sem.run_bind, run_underlying hu, Result.andThen_ok, hb, run_sizeOf' he, Sem.run_pure, e1, e2, if_true, Nat.sub_zero]
  · rename_i e hk
    obtain ⟨hu, _⟩ := kind_slice hk
    obtain ⟨he, hsl⟩ := hok
    cases hx with
    | e0 a =>
      obtain ⟨hb, b1, b2⟩ := run_bounds (P := P) (w := w) (isSlice := true) (cap := 0) (Nat.le_refl _) (fun _ => rfl) hl hln hhi hhn hsl
      refine ⟨.slice a 0 0, ?_, .e0 a⟩
      have e2 : hiOf h' 0 = 0 := by omega
      have e1 : (l'.map Int.toNat).getD 0 = 0 := by omega
      simp only [Instr.sliceAt, Instr.slice, Sem.run_bind, run_underlying hu, Result.andThen_ok, hb, run_sizeOf' he, Sem.run_pure, e1, e2, if_true, Nat.sub_zero]
  · exact hok.elim

/-! ### Rows of cells written part by part -/

theorem getElem?_splice {α : Type} (e : List α) (c : Nat) (cs : List α) (h : c + cs.length ≤ e.length) (i : Nat) :
    (splice e c cs)[i]? = if c ≤ i ∧ i < c + cs.length then cs[i - c]? else e[i]? := by
  unfold splice
  have hl : (e.take c).length = c := by simp; omega
  by_cases h1 : i < c
  · rw [if_neg (by omega), List.append_assoc, List.getElem?_append_left (by omega), List.getElem?_take_of_lt h1]
  · by_cases h2 : i < c + cs.length
    · rw [if_pos ⟨by omega, h2⟩, List.append_assoc, List.getElem?_append_right (by omega), List.getElem?_append_left (by omega), hl]
    · rw [if_neg (by omega), List.append_assoc, List.getElem?_append_right (by omega), List.getElem?_append_right (by omega), hl, List.getElem?_drop]
      congr 1
      omega
theorem length_splice' {α : Type} (e : List α) (c : Nat) (cs : List α) (h : c + cs.length ≤ e.length) : (splice e c cs).length = e.length := by
  simp [splice]; omega

theorem foldl_set (off : Nat) : ∀ (l : List Value) (k : Nat) (cs : Array Value) (i : Nat),
    ((l.zipIdx k).foldl (fun (cs : Array Value) (p : Value × Nat) => cs.setIfInBounds (off + p.2) p.1) cs)[i]? = if off + k ≤ i ∧ i < off + k + l.length ∧ i < cs.size then l[i - (off + k)]? else cs[i]?
  | [], k, cs, i => by simp; omega
  | v :: l, k, cs, i => by
    simp only [List.zipIdx_cons, List.foldl_cons]
    rw [foldl_set off l (k + 1) (cs.setIfInBounds (off + k) v) i]
    simp only [Array.size_setIfInBounds, List.length_cons]
    by_cases h1 : off + (k + 1) ≤ i ∧ i < off + (k + 1) + l.length ∧ i < cs.size
    · rw [if_pos h1, if_pos (by omega)]
      rw [show i - (off + k) = (i - (off + (k + 1))) + 1 by omega, List.getElem?_cons_succ]
    · rw [if_neg h1]
      by_cases h2 : off + k = i
      · subst h2
        by_cases h3 : off + k < cs.size
        · rw [if_pos (by omega), Array.getElem?_setIfInBounds_self_of_lt h3]
          simp
        · rw [if_neg (by omega)]
          rw [Array.getElem?_eq_none (by simp; omega), Array.getElem?_eq_none (by omega)]
      · rw [if_neg (by omega), Array.getElem?_setIfInBounds_ne h2]

theorem fill_splice (off : Nat) (vs : Array Value) (cs : List Value) (h : off + vs.size ≤ cs.length) :
    (vs.zipIdx.foldl (fun (cs : Array Value) (p : Value × Nat) => cs.setIfInBounds (off + p.2) p.1) cs.toArray) = (splice cs off vs.toList).toArray := by
  apply Array.ext_getElem?
  intro i
  have e : vs.zipIdx.foldl (fun (cs : Array Value) (p : Value × Nat) => cs.setIfInBounds (off + p.2) p.1) cs.toArray = (vs.toList.zipIdx 0).foldl (fun (cs : Array Value) (p : Value × Nat) => cs.setIfInBounds (off + p.2) p.1) cs.toArray := by
    rw [← Array.foldl_toList]
    congr 1
    simp
  rw [e, foldl_set off vs.toList 0 cs.toArray i]
  have hg := getElem?_splice cs off vs.toList (by simpa using h) i
  simp only [List.getElem?_toArray, Array.length_toList, Nat.add_zero] at hg ⊢
  rw [hg]
  by_cases h1 : off ≤ i ∧ i < off + vs.size
  · rw [if_pos ⟨h1.1, h1.2, by simp; omega⟩, if_pos h1]
  · rw [if_neg (by omega), if_neg h1]

theorem VRels.splice {xs ys : List AV} {us vs : List Value} {c : Nat} (h1 : VRels J O w xs us) (h2 : VRels J O w ys vs) (hc : c + ys.length ≤ xs.length) : VRels J O w (splice xs c ys) (splice us c vs) := by
  have hl1 := h1.1
  have hl2 := h2.1
  refine ⟨by rw [length_splice' _ _ _ hc, length_splice' _ _ _ (by omega)]; exact hl1, fun i x v hx hv => ?_⟩
  rw [getElem?_splice _ _ _ hc] at hx
  rw [getElem?_splice _ _ _ (by omega), ← hl2] at hv
  split at hx
  · rename_i h; rw [if_pos h] at hv; exact h2.2 _ _ _ hx hv
  · rename_i h; rw [if_neg h] at hv; exact h1.2 _ _ _ hx hv

theorem mem_splice {α : Type} {e cs : List α} {c : Nat} {x : α} (h : x ∈ splice e c cs) : x ∈ e ∨ x ∈ cs := by
  unfold splice at h
  simp only [List.mem_append] at h
  rcases h with (h | h) | h
  · exact .inl (List.mem_of_mem_take h)
  · exact .inr h
  · exact .inl (List.mem_of_mem_drop h)

/-- The cells of a value. -/
theorem cells_sound {x : AV} {v : Value} (hv : VRel J O w x v) (hs : x.solid = true) : VRels J O w (acells x) v.cells.toList ∧ ∀ u ∈ v.cells.toList, u.oneCell' = true := by
  cases hv <;> first
    | (simp [AV.solid] at hs; done)
    | skip
  case agg cs vs hl h1 hh => simp only [acells, Value.cells]; exact ⟨⟨hl, hh⟩, by simpa using h1⟩
  case lit =>
    rename_i h
    cases v <;> first
      | (simp [Value.oneCell'] at h; done)
      | exact ⟨VRels.cons (.lit _ rfl) .nil, by simp [Value.cells, Value.oneCell']⟩
  all_goals
    refine ⟨VRels.cons ?_ .nil, by simp [Value.cells, Value.oneCell']⟩
    first
      | exact .bool _
      | exact .int _ _
      | exact .str _
      | exact .nil
      | exact .e0 _
      | exact .roNil
      | exact .ro _ _ _ _ _ ‹_› ‹_› ‹_› ‹_› ‹_› ‹_› ‹_›
      | exact .rop _ _ _ _ _ _ ‹_› ‹_› ‹_› ‹_› ‹_› ‹_›
      | exact .own _ _ _ _ _ _ ‹_› ‹_› ‹_› ‹_›
      | exact .ptr _ _ _ _ ‹_›
      | exact .fn _ _ _ _ _ ‹_› ‹_› ‹_› ‹_›
      | exact .map _ _ ‹_›
      | exact .obj _ _ ‹_›
      | exact .iface _ _ _ ‹_›
end
end Go.Abs
end

section 

namespace Go.Abs
open Go

section
variable {P : Program} {gl : Globs} {J : List Blk} {h : AHeap} {w : World} {O : Nat → Prop} {fr : AFrame}

/-- Numbered parts. -/
def PRels (J : List Blk) (O : Nat → Prop) (w : World) : List (Nat × AV) → List (Nat × Value) → Prop
  | [], [] => True
  | (i, x) :: ps, (j, v) :: qs => i = j ∧ VRel J O w x v ∧ PRels J O w ps qs
  | _, _ => False

theorem fillS_sound {T : TI} {place : Nat → Option (Nat × Nat)} (hp : ∀ i, i < (fieldsOf T).length → place i = some (foff T i, fsz T i)) : ∀ (ps : List (Nat × AV)) (qs : List (Nat × Value)) (cs : List AV) (vs : List Value), PRels J O w ps qs → VRels J O w cs vs →
    (∀ v ∈ vs, v.oneCell' = true) → cs.length = T.cells → buildSOk T ps → ∃ vs', Instr.fill place vs.toArray qs = some vs'.toArray ∧ VRels J O w (abuildS T ps cs) vs' ∧ ∀ v ∈ vs', v.oneCell' = true
  | [], [], cs, vs, _, h1, h2, _, _ => ⟨vs, rfl, h1, h2⟩
  | [], _ :: _, _, _, h, _, _, _, _ => h.elim
  | (_, _) :: _, [], _, _, h, _, _, _, _ => h.elim
  | (i, x) :: ps, (j, v) :: qs, cs, vs, h, h1, h2, hl, hok => by
    obtain ⟨rfl, hv, hps⟩ := h
    obtain ⟨hs, hi, hlen, hle, hok'⟩ := hok
    obtain ⟨hc1, hc2⟩ := cells_sound hv hs
    have hsz : v.cells.size = fsz T i := by rw [← hlen, hc1.1]; simp
    have hvs := h1.1
    obtain ⟨vs', e1, e2, e3⟩ := fillS_sound hp ps qs (splice cs (foff T i) (acells x)) (splice vs (foff T i) v.cells.toList) hps (h1.splice hc1 (by rw [hlen]; omega))
      (fun u hu => (mem_splice hu).elim (h2 u) (hc2 u)) (by rw [length_splice' _ _ _ (by rw [hlen]; omega)]; exact hl) hok'
    refine ⟨vs', ?_, e2, e3⟩
    simp only [Instr.fill, hp i hi]
    rw [if_neg (by simp [hsz]; omega)]
    rw [← e1]
    congr 1
    exact fill_splice (foff T i) v.cells vs (by omega)

theorem fillA_sound {n cells : Nat} {place : Nat → Option (Nat × Nat)} (hp : ∀ i, place i = some (i * n, n)) : ∀ (ps : List (Nat × AV)) (qs : List (Nat × Value)) (cs : List AV) (vs : List Value), PRels J O w ps qs → VRels J O w cs vs →
    (∀ v ∈ vs, v.oneCell' = true) → cs.length = cells → buildAOk n cells ps → ∃ vs', Instr.fill place vs.toArray qs = some vs'.toArray ∧ VRels J O w (abuildA n ps cs) vs' ∧ ∀ v ∈ vs', v.oneCell' = true
  | [], [], cs, vs, _, h1, h2, _, _ => ⟨vs, rfl, h1, h2⟩
  | [], _ :: _, _, _, h, _, _, _, _ => h.elim
  | (_, _) :: _, [], _, _, h, _, _, _, _ => h.elim
  | (i, x) :: ps, (j, v) :: qs, cs, vs, h, h1, h2, hl, hok => by
    obtain ⟨rfl, hv, hps⟩ := h
    obtain ⟨hs, hlen, hle, hok'⟩ := hok
    obtain ⟨hc1, hc2⟩ := cells_sound hv hs
    have hsz : v.cells.size = n := by rw [← hlen, hc1.1]; simp
    have hvs := h1.1
    obtain ⟨vs', e1, e2, e3⟩ := fillA_sound hp ps qs (splice cs (i * n) (acells x)) (splice vs (i * n) v.cells.toList) hps (h1.splice hc1 (by rw [hlen]; omega))
      (fun u hu => (mem_splice hu).elim (h2 u) (hc2 u)) (by rw [length_splice' _ _ _ (by rw [hlen]; omega)]; exact hl) hok'
    refine ⟨vs', ?_, e2, e3⟩
    simp only [Instr.fill, hp i]
    rw [if_neg (by simp [hsz]; omega)]
    rw [← e1]
    congr 1
    exact fill_splice (i * n) v.cells vs (by omega)

theorem mapM_places : ∀ (fs : List Field), (∀ f ∈ fs, (tinfo P f.type).ok = true) → fs.mapM (fun f => (P.info? f.type).map fun i => (f.offset, i.size)) = some (fs.map fun f => (f.offset, P.cellsOf f.type))
  | [], _ => by simp
  | f :: fs, h => by
    obtain ⟨d, i, _, hi, _⟩ := tinfo_ok (h f (by simp))
    have := mapM_places fs (fun g hg => h g (by simp [hg]))
    simp [List.mapM_cons, hi, this, Program.cellsOf]

theorem build_yields {t : TypeId} {ps : List (Nat × AV)} {qs : Array (Nat × Value)} (hps : PRels J O w ps qs.toList) (hok : buildOk P t ps) : Yields1 P J O w (Instr.build t qs) (buildV P t ps) := by
  obtain ⟨hz, hzl, hok⟩ := hok
  unfold buildV
  split at hok
  · rename_i fl hk
    obtain ⟨hb, hall⟩ := hok
    obtain ⟨d, hu, hd, htok, hag⟩ := kind_und hk (by simp)
    cases d with
    | struct fields =>
      simp only [tkOf, TK.struct.injEq] at hd
      obtain ⟨z, hz1, hz2, hz3, hz4⟩ := run_zeroValue' htok hz w
      have hzr := vrels_ofV1 (J := J) (O := O) (w := w) hz2
      rw [← hz3] at hzr
      have hfo : fieldsOf (tinfo P t) = fl := by simp [fieldsOf, hk]
      have hpl : ∀ i, i < (fieldsOf (tinfo P t)).length → ((fields.toList.map fun f => (f.offset, P.cellsOf f.type)).toArray)[i]? = some (foff (tinfo P t) i, fsz (tinfo P t) i) := by
        intro i hi
        rw [hfo, ← hd] at hi
        simp only [List.length_map, Array.length_toList] at hi
        simp [foff, fsz, hfo, ← hd, List.getD, Array.getElem?_eq_getElem hi]
      obtain ⟨vs', e1, e2, e3⟩ := fillS_sound hpl ps qs.toList _ z.cells.toList hps hzr hz2 (by rw [hzl]) hb
      have hbuilt : P.built t qs.toList = some vs'.toArray := by
        obtain ⟨d', i, hd', hi, e⟩ := tinfo_ok htok
        have hzz : ∃ zz, i.zero = some zz ∧ zz = z := by
          simp only [zeroValue, typeInfo, Sem.run_bind, run_program, Result.andThen_ok, hi, Sem.run_pure] at hz1
          cases hq : i.zero with
          | none => simp [hq] at hz1
          | some zz => simp [hq] at hz1; exact ⟨zz, rfl, hz1⟩
        obtain ⟨zz, hzz, rfl⟩ := hzz
        have hm := mapM_places (P := P) fields.toList (fun f hf => hall (f.offset, P.cellsOf f.type, f.type) (by rw [← hd]; exact List.mem_map.2 ⟨f, hf, rfl⟩))
        simp only [Program.built, hi, hu, hzz, hm]
        have ez : zz.cells.toList.toArray = zz.cells := by simp
        rw [ez] at e1
        exact e1
      refine ⟨_, run_build w t qs _ hbuilt, .agg _ _ e2.1 e3 e2.2⟩
    | _ => simp [tkOf] at hd
  · rename_i n e hk
    obtain ⟨he, hb⟩ := hok
    obtain ⟨hu, htok⟩ := kind_array hk
    obtain ⟨z, hz1, hz2, hz3, hz4⟩ := run_zeroValue' htok hz w
    have hzr := vrels_ofV1 (J := J) (O := O) (w := w) hz2
    rw [← hz3] at hzr
    obtain ⟨de, ie, hde, hie, eqe⟩ := tinfo_ok he
    have hce : (tinfo P e).cells = ie.size := by rw [eqe]
    obtain ⟨vs', e1, e2, e3⟩ := fillA_sound (place := fun i => some (i * ie.size, ie.size)) (n := (tinfo P e).cells) (fun i => by rw [hce]) ps qs.toList _ z.cells.toList hps hzr hz2 (by rw [hzl]) hb
    have hbuilt : P.built t qs.toList = some vs'.toArray := by
      obtain ⟨d', i, hd', hi, e⟩ := tinfo_ok htok
      have hzz : ∃ zz, i.zero = some zz ∧ zz = z := by
        simp only [zeroValue, typeInfo, Sem.run_bind, run_program, Result.andThen_ok, hi, Sem.run_pure] at hz1
        cases hq : i.zero with
        | none => simp [hq] at hz1
        | some zz => simp [hq] at hz1; exact ⟨zz, rfl, hz1⟩
      obtain ⟨zz, hzz, rfl⟩ := hzz
      simp only [Program.built, hi, hu, hzz, hie]
      simpa using e1
    refine ⟨_, run_build w t qs _ hbuilt, .agg _ _ e2.1 e3 e2.2⟩
  · exact hok.elim

theorem len_yields (hh : HRel gl h J w) {t ty : TypeId} {x : AV} {u : Value} (hx : VRel J (Own h J) w x u) (hok : lenOk h (tinfo P t).kind x) : Yields1 P J (Own h J) w (Builtin.len_ #[t] ty #[u]) (.int .i64 (alen h x)) := by
  unfold lenOk at hok
  split at hok
  · rename_i s hk
    obtain ⟨hu, _⟩ := kind_string hk
    cases hx
    refine ⟨_, run_len_string w t ty _ hu, ?_⟩
    have : (⟨s.toArray⟩ : ByteArray).size = s.length := by simp [ByteArray.size]
    simp only [goInt, this]
    exact .int _ _
  · rename_i e es hk
    obtain ⟨hu, _⟩ := kind_slice hk
    cases hx
    · exact ⟨_, by simp [Builtin.len_, run_underlying hu, goInt]; rfl, .int _ _⟩
    · exact ⟨_, by simp [Builtin.len_, run_underlying hu, goInt]; rfl, .int _ _⟩
  · rename_i e b off len hk
    obtain ⟨hu, _⟩ := kind_slice hk
    cases hx
    exact ⟨_, by simp [Builtin.len_, run_underlying hu, goInt]; rfl, .int _ _⟩
  · rename_i e hk
    obtain ⟨hu, _⟩ := kind_slice hk
    cases hx
    exact ⟨_, by simp [Builtin.len_, run_underlying hu, goInt]; rfl, .int _ _⟩
  · rename_i e hk
    obtain ⟨hu, _⟩ := kind_slice hk
    cases hx
    exact ⟨_, by simp [Builtin.len_, run_underlying hu, goInt]; rfl, .int _ _⟩
  · rename_i k e b hk
    obtain ⟨hu, _⟩ := kind_map hk
    obtain ⟨r, es, clock, rfl, h1, h2, h3⟩ := map_of hh hx hok
    have hg : (getObj r).run P w = .ok (.map es clock) w := run_getObj' h1 (by intros; simp)
    refine ⟨_, ?_, .int _ _⟩
    simp [Builtin.len_, run_underlying hu, hg, goInt, alen, h2]
  · rename_i k e hk
    obtain ⟨hu, _⟩ := kind_map hk
    cases hx
    exact ⟨_, by simp [Builtin.len_, run_underlying hu, goInt]; rfl, .int _ _⟩
  · exact hok.elim

theorem minV (x y : Int) : (if y < x then y else x) = min x y := by rw [Int.min_def]; split <;> split <;> omega
theorem maxV (x y : Int) : (if y > x then y else x) = max x y := by rw [Int.max_def]; split <;> split <;> omega

theorem builtin_yields (hh : HRel gl h J w) {b : Builtin} {ts : List TypeId} {ty : TypeId} {cs : Array Bool} {xs : List AV} {us : List Value} (hx : VRels J (Own h J) w xs us) (hok : builtinOk P h b ts xs) :
    ∃ v, (builtin b ts.toArray ty cs us.toArray).run P w = .ok (.value v) w ∧ VRel J (Own h J) w (builtinV h b xs) v := by
  have hl := hx.1
  unfold builtinOk at hok
  split at hok
  · rename_i x
    split at hok
    · rename_i t
      obtain ⟨u, rfl⟩ := List.length_eq_one_iff.1 (hl.symm.trans rfl)
      obtain ⟨v, h1, h2⟩ := len_yields (P := P) (ty := ty) hh (hx.2 0 x u rfl rfl) hok
      exact ⟨v, by simp only [builtin, Sem.run_bind]; rw [show (Builtin.len_ [t].toArray ty [u].toArray).run P w = .ok v w from h1]; rfl, h2⟩
    · exact hok.elim
  all_goals first
    | exact hok.elim
    | skip
  · rename_i k x k' y
    match us, hl with
    | [u1, u2], _ =>
      have r1 := hx.2 0 _ u1 rfl rfl
      have r2 := hx.2 1 _ u2 rfl rfl
      cases r1; cases r2
      refine ⟨.int k (min x y), ?_, .int _ _⟩
      simp only [builtin, Builtin.min_, List.foldlM_cons, List.foldlM_nil, Builtin.min2, Sem.run_bind, Sem.run_pure, Result.andThen_ok, minV]
  · rename_i k x k' y
    match us, hl with
    | [u1, u2], _ =>
      have r1 := hx.2 0 _ u1 rfl rfl
      have r2 := hx.2 1 _ u2 rfl rfl
      cases r1; cases r2
      refine ⟨.int k (max x y), ?_, .int _ _⟩
      simp only [builtin, Builtin.max_, List.foldlM_cons, List.foldlM_nil, Builtin.max2, Sem.run_bind, Sem.run_pure, Result.andThen_ok, maxV]
  · rename_i k x k' y k'' z
    match us, hl with
    | [u1, u2, u3], _ =>
      have r1 := hx.2 0 _ u1 rfl rfl
      have r2 := hx.2 1 _ u2 rfl rfl
      have r3 := hx.2 2 _ u3 rfl rfl
      cases r1; cases r2; cases r3
      refine ⟨.int k (min (min x y) z), ?_, .int _ _⟩
      simp only [builtin, Builtin.min_, List.foldlM_cons, List.foldlM_nil, Builtin.min2, Sem.run_bind, Sem.run_pure, Result.andThen_ok, minV]
  · rename_i k x k' y k'' z
    match us, hl with
    | [u1, u2, u3], _ =>
      have r1 := hx.2 0 _ u1 rfl rfl
      have r2 := hx.2 1 _ u2 rfl rfl
      have r3 := hx.2 2 _ u3 rfl rfl
      cases r1; cases r2; cases r3
      refine ⟨.int k (max (max x y) z), ?_, .int _ _⟩
      simp only [builtin, Builtin.max_, List.foldlM_cons, List.foldlM_nil, Builtin.max2, Sem.run_bind, Sem.run_pure, Result.andThen_ok, maxV]
end
end Go.Abs
end

section 

namespace Go.Abs
open Go

section
variable {P : Program} {gl : Globs} {J : List Blk} {h : AHeap} {w : World} {O : Nat → Prop} {fr : AFrame} {N : Nat}

theorem vrels_map {J : List Blk} {O : Nat → Prop} {w : World} {a : Act} : ∀ (l : List Operand), (∀ x ∈ l, VRel J O w (ev gl fr x) (a.eval x)) → (∀ x ∈ l, (ev gl fr x).gd = true) → VRels J O w (l.map fun x => (ev gl fr x).core) (l.map a.eval)
  | [], _, _ => .nil
  | x :: l, h1, h2 => VRels.cons ((h1 x (by simp)).core (h2 x (by simp))) (vrels_map l (fun y hy => h1 y (by simp [hy])) (fun y hy => h2 y (by simp [hy])))

theorem prels_map {J : List Blk} {O : Nat → Prop} {w : World} {a : Act} : ∀ (l : List (Nat × Operand)), (∀ p ∈ l, VRel J O w (ev gl fr p.2) (a.eval p.2)) → (∀ p ∈ l, (ev gl fr p.2).gd = true) → PRels J O w (l.map fun p => (p.1, (ev gl fr p.2).core)) (l.map fun p => (p.1, a.eval p.2))
  | [], _, _ => trivial
  | (i, x) :: l, h1, h2 => ⟨rfl, (h1 (i, x) (by simp)).core (h2 (i, x) (by simp)), prels_map l (fun y hy => h1 y (by simp [hy])) (fun y hy => h2 y (by simp [hy]))⟩

/-- The operands that an abstract value looks at. -/
theorem vop_sound {o : Oper} {a : Act} (hh : HRel gl h J w) (hr : ∀ x ∈ o.op.operands, VRel J (Own h J) w (ev gl fr x) (a.eval x)) (hok : vok P gl fr h o.op) :
    ∃ v, (execOp a.eval o).run P w = .ok (.value v) w ∧ VRel J (Own h J) w (vval P gl fr h o.op) v := by
  have of1 : ∀ {s : Sem Value} {x : AV}, Yields1 P J (Own h J) w s x → ∃ v, (s >>= fun v => (pure (Next.value v) : Sem Next)).run P w = .ok (.value v) w ∧ VRel J (Own h J) w x v := by
    rintro s x ⟨v, h1, h2⟩
    exact ⟨v, by simp [h1], h2⟩
  unfold execOp
  cases hop : o.op <;> simp only [hop] at hok hr ⊢ <;> simp only [vok] at hok <;> simp only [vval]
  case move x => exact ⟨_, rfl, (hr x (by simp [Op.operands])).core hok⟩
  case assign x => exact ⟨_, rfl, (hr x (by simp [Op.operands])).core hok⟩
  case pick c x y =>
    obtain ⟨hc, hok⟩ := hok
    have rc := (hr c (by simp [Op.operands])).core hc
    have rx := hr x (by simp [Op.operands])
    have ry := hr y (by simp [Op.operands])
    unfold pickOk at hok
    unfold pickV
    split at hok
    · rename_i t e1
      rw [e1] at rc
      generalize a.eval c = vc at *
      cases rc
      cases t with
      | true =>
        obtain ⟨h1, h2⟩ := hok.1 rfl
        have r := rx.core h1
        generalize (ev gl fr x).core = X at r h2 ⊢
        cases X <;> simp [isBoolV] at h2
        generalize a.eval x = vx at *
        cases r
        exact ⟨_, by simp [asBool, AV.bval], .bool _⟩
      | false =>
        obtain ⟨h1, h2⟩ := hok.2 rfl
        have r := ry.core h1
        generalize (ev gl fr y).core = X at r h2 ⊢
        cases X <;> simp [isBoolV] at h2
        generalize a.eval y = vy at *
        cases r
        exact ⟨_, by simp [asBool, AV.bval], .bool _⟩
    · exact hok.elim
  case build t parts =>
    obtain ⟨hg, hok⟩ := hok
    have hm : ∀ p ∈ parts.toList, VRel J (Own h J) w (ev gl fr p.2) (a.eval p.2) := fun p hp => hr p.2 (by
      simp only [Op.operands, List.mem_toArray]
      exact List.mem_map.2 ⟨p, hp, rfl⟩)
    have := prels_map (a := a) (J := J) (O := Own h J) (w := w) parts.toList hm hg
    exact of1 (build_yields (qs := parts.map fun (i, x) => (i, a.eval x)) (by simpa using this) hok)
  case load t x =>
    obtain ⟨hg, ht, hok⟩ := hok
    exact of1 (load_yields hh ((hr x (by simp [Op.operands])).core hg) ht hok)
  case nilCheck x =>
    obtain ⟨hg, hok⟩ := hok
    have r := (hr x (by simp [Op.operands])).core hg
    unfold nilOk at hok
    split at hok
    · rename_i e
      rw [e] at r ⊢
      generalize a.eval x = v at *
      cases r
      exact ⟨_, rfl, .ptr _ _ _ _ ‹_›⟩
    · rename_i f first caps e
      rw [e] at r ⊢
      generalize a.eval x = v at *
      cases r
      exact ⟨_, rfl, .fn _ _ _ _ _ ‹_› ‹_› ‹_› ‹_›⟩
    · exact hok.elim
  case binOp op t x y yt =>
    obtain ⟨hx, hy, hok⟩ := hok
    exact of1 (abin_sound ((hr x (by simp [Op.operands])).core hx) ((hr y (by simp [Op.operands])).core hy) hok)
  case unOp op t x =>
    obtain ⟨hx, hok⟩ := hok
    exact of1 (aun_sound ((hr x (by simp [Op.operands])).core hx) hok)
  case convert src dst x =>
    obtain ⟨hx, hok⟩ := hok
    exact of1 (aconv_sound ((hr x (by simp [Op.operands])).core hx) hok)
  case makeInterface t x =>
    obtain ⟨hx, ht, hok⟩ := hok
    obtain ⟨d, i, hd, hi, e⟩ := tinfo_ok ht
    refine of1 ⟨.iface t (a.eval x), ?_, .iface t _ _ ((hr x (by simp [Op.operands])).core hx)⟩
    rw [e] at hok
    simp only [Instr.makeInterface, Sem.run_bind, run_underlying hd, Result.andThen_ok]
    cases d <;> first | rfl | (simp [tkOf, ifaceOk] at hok)
  case makeFunc f first caps =>
    obtain ⟨h1, h2⟩ := hok
    have r1 := vrels_map (a := a) (J := J) (O := Own h J) (w := w) (gl := gl) (fr := fr) first.toList (fun x hx => hr x (Array.mem_append.2 (.inl (by simpa using hx)))) h1
    have r2 := vrels_map (a := a) (J := J) (O := Own h J) (w := w) (gl := gl) (fr := fr) caps.toList (fun x hx => hr x (Array.mem_append.2 (.inr (by simpa using hx)))) h2
    refine of1 ⟨.func f (first.map a.eval) (caps.map a.eval), rfl, ?_⟩
    have e1 : first.map a.eval = (first.toList.map a.eval).toArray := by rw [← Array.toList_map, Array.toArray_toList]
    have e2 : caps.map a.eval = (caps.toList.map a.eval).toArray := by rw [← Array.toList_map, Array.toArray_toList]
    rw [e1, e2]
    exact .fn f _ _ _ _ r1.1 r2.1 r1.2 r2.2
  case slice t x lo hi mx =>
    obtain ⟨hx, rfl, hlo, hhi, hok⟩ := hok
    have rx := (hr x (by simp [Op.operands])).core hx
    refine of1 (slice_yields (lo := lo.map a.eval) (hi := hi.map a.eval) hh rx ?_ ?_ ?_ ?_ hok)
    · intro v hv
      cases lo with
      | none => simp at hv
      | some y =>
        simp only [Option.map_some, Option.mem_def, Option.some.injEq] at hv
        subst hv
        simp only [Option.map_some, isIntO] at hlo
        obtain ⟨k, hk⟩ := int_of ((hr y (by simp [Op.operands])).core hlo.1) hlo.2
        exact ⟨k, _, hk, rfl⟩
    · intro hn; cases lo <;> simp_all
    · intro v hv
      cases hi with
      | none => simp at hv
      | some y =>
        simp only [Option.map_some, Option.mem_def, Option.some.injEq] at hv
        subst hv
        simp only [Option.map_some, isIntO] at hhi
        obtain ⟨k, hk⟩ := int_of ((hr y (by simp [Op.operands])).core hhi.1) hhi.2
        exact ⟨k, _, hk, rfl⟩
    · intro hn; cases hi <;> simp_all
  case fieldAddr s x f =>
    obtain ⟨hx, h1, h2, h3, hok⟩ := hok
    exact of1 (fieldAddr_yields ((hr x (by simp [Op.operands])).core hx) h1 h2 h3 hok)
  case field s x f =>
    obtain ⟨hx, h1, h3, hok⟩ := hok
    exact of1 (field_yields ((hr x (by simp [Op.operands])).core hx) h1 h3 hok)
  case indexAddr t x ix =>
    obtain ⟨hx, hy, h1, h2, hok⟩ := hok
    exact of1 (indexAddr_yields hh ((hr x (by simp [Op.operands])).core hx) ((hr ix (by simp [Op.operands])).core hy) h1 h2 hok)
  case index t x ix =>
    obtain ⟨hx, hy, h1, h2, hok⟩ := hok
    exact of1 (index_yields ((hr x (by simp [Op.operands])).core hx) ((hr ix (by simp [Op.operands])).core hy) h1 h2 hok)
  case lookup t x ix ok =>
    obtain ⟨hx, hy, hok⟩ := hok
    exact of1 (lookup_yields hh ok ((hr x (by simp [Op.operands])).core hx) ((hr ix (by simp [Op.operands])).core hy) hok)
  case extract x i =>
    obtain ⟨hx, hok⟩ := hok
    exact of1 (extract_yields ((hr x (by simp [Op.operands])).core hx) hok)
end
end Go.Abs
end
end
