/-
  Soundness of the operations that only compute or read.
-/
import Derived.Test.YtcbaojkchiphkaaAbsOp
set_option linter.unusedVariables false
set_option linter.unusedSimpArgs false
namespace Go.Abs
open Go

section
variable {P : Program} {gl : Globs} {J : List Blk} {h : AHeap} {w : World} {O : Nat → Prop} {fr : AFrame}

theorem str_val (s : List UInt8) : (⟨s.toArray⟩ : ByteArray).toList = s := ByteArray.toList_mk s
theorem str_append (a b : List UInt8) : (⟨a.toArray⟩ : ByteArray) ++ ⟨b.toArray⟩ = ⟨(a ++ b).toArray⟩ := by
  apply ByteArray.ext
  simp

theorem ibin_sound (op : BinOp) (t : TypeId) (X Y : Operand) (k k' : IntKind) (a b : Int) (hok : ibinOk op k k' b) :
    ∃ r, (do eqGuard op t X Y (.int k a) (.int k' b); binOp op t (.int k a) (.int k' b)).run P w = .ok r w ∧ VRel J O w (ibin op k a b) r := by
  simp only [eqGuard_at_int, Sem.run_bind, Sem.run_pure, Result.andThen_ok]
  cases op <;> simp only [ibinOk] at hok
  case shl =>
    refine ⟨_, ?_, .int _ _⟩
    simp only [binOp_shl, Op.shift]
    rw [if_neg (by omega)]; rfl
  case shr =>
    refine ⟨_, ?_, .int _ _⟩
    simp only [binOp_shr, Op.shift]
    rw [if_neg (by omega)]; rfl
  case quo =>
    obtain ⟨rfl, hb⟩ := hok
    refine ⟨_, ?_, .int _ _⟩
    simp only [binOp_quo, Op.intDiv]
    rw [if_neg hb]; rfl
  case rem =>
    obtain ⟨rfl, hb⟩ := hok
    refine ⟨_, ?_, .int _ _⟩
    simp only [binOp_rem, Op.intDiv]
    rw [if_neg hb]; rfl
  all_goals
    subst hok
    first
      | exact ⟨_, by simp only [binOp_add, binOp_sub, binOp_mul, binOp_and, binOp_or, binOp_xor, binOp_andNot, binOp_eql, binOp_neq, binOp_lss, binOp_leq, binOp_gtr, binOp_geq]; rfl, .int _ _⟩
      | exact ⟨_, by simp only [binOp_add, binOp_sub, binOp_mul, binOp_and, binOp_or, binOp_xor, binOp_andNot, binOp_eql, binOp_neq, binOp_lss, binOp_leq, binOp_gtr, binOp_geq]; rfl, .bool _⟩

theorem sbin_sound (op : BinOp) (t : TypeId) (X Y : Operand) (a b : List UInt8) (hok : sbinOk op a b) :
    ∃ r, (do eqGuard op t X Y (.string ⟨a.toArray⟩) (.string ⟨b.toArray⟩); binOp op t (.string ⟨a.toArray⟩) (.string ⟨b.toArray⟩)).run P w = .ok r w ∧ VRel J O w (sbin op a b) r := by
  simp only [eqGuard_at_string, Sem.run_bind, Sem.run_pure, Result.andThen_ok]
  cases op <;> simp only [sbinOk] at hok
  case add =>
    refine ⟨_, ?_, .str _⟩
    have : ¬ (((⟨a.toArray⟩ : ByteArray).size + (⟨b.toArray⟩ : ByteArray).size : Nat) : Int) > IntKind.i64.max := by
      simp [ByteArray.size]; omega
    simp only [binOp_string_add, Op.stringOp, if_neg this, str_append, Sem.run_pure]
  all_goals
    refine ⟨_, ?_, .bool _⟩
    simp [binOp, Op.stringOp, str_val]

/-! ### Comparable types -/

theorem flat_basic {d : Nat} {t : TypeId} {bs : List BK} (hf : flat P (d + 1) t = some bs) (hn : ∀ fs, P.underlying t ≠ some (.struct fs)) (hn' : ∀ n e, P.underlying t ≠ some (.array n e)) :
    (∃ k, P.underlying t = some (.int k) ∧ bs = [.int]) ∨ (P.underlying t = some .string ∧ bs = [.str]) ∨ (P.underlying t = some .bool ∧ bs = [.bool]) := by
  unfold flat at hf
  split at hf
  · rename_i k i h1 h2
    split at hf <;> simp at hf
    exact .inl ⟨k, h1, hf.symm⟩
  · rename_i i h1 h2
    split at hf <;> simp at hf
    exact .inr (.inl ⟨h1, hf.symm⟩)
  · rename_i i h1 h2
    split at hf <;> simp at hf
    exact .inr (.inr ⟨h1, hf.symm⟩)
  · rename_i fs i h1 h2; exact absurd h1 (hn fs)
  · rename_i n e i h1 h2; exact absurd h1 (hn' n e)
  · simp at hf

theorem cok_len : ∀ (bs : List BK) (xs ys : List AV), cok bs xs ys → xs.length = bs.length ∧ ys.length = bs.length
  | [], [], [], _ => ⟨rfl, rfl⟩
  | _ :: bs, _ :: xs, _ :: ys, h => by
    simp only [cok] at h
    have := cok_len bs xs ys h.2
    simp [this]
  | [], [], _ :: _, h => by simp [cok] at h
  | [], _ :: _, _, h => by simp [cok] at h
  | _ :: _, [], _, h => by simp [cok] at h
  | _ :: _, _ :: _, [], h => by simp [cok] at h

theorem cok_append {b1 b2 : List BK} : ∀ {xs ys : List AV}, cok (b1 ++ b2) xs ys → cok b1 (xs.take b1.length) (ys.take b1.length) ∧ cok b2 (xs.drop b1.length) (ys.drop b1.length) := by
  induction b1 with
  | nil => intro xs ys h; simpa [cok] using h
  | cons b b1 ih =>
    intro xs ys h
    cases xs with
    | nil => simp [cok] at h
    | cons x xs =>
      cases ys with
      | nil => simp [cok] at h
      | cons y ys =>
        simp only [List.cons_append, cok] at h
        have := ih h.2
        simp [cok, h.1, this.1, this.2]

theorem ceq_append : ∀ (n : Nat) (xs ys : List AV), n ≤ xs.length → n ≤ ys.length → ceq xs ys = (ceq (xs.take n) (ys.take n) && ceq (xs.drop n) (ys.drop n))
  | 0, xs, ys, _, _ => by simp [ceq]
  | n + 1, [], _, h, _ => by simp at h
  | n + 1, _ :: _, [], _, h => by simp at h
  | n + 1, x :: xs, y :: ys, h1, h2 => by
    simp only [List.length_cons] at h1 h2
    simp only [ceq, List.take_succ_cons, List.drop_succ_cons]
    rw [ceq_append n xs ys (by omega) (by omega), Bool.and_assoc]

/-- The part of a list of values that begins somewhere shows a list of abstract values. -/
def Shows (J : List Blk) (O : Nat → Prop) (w : World) (xs : List AV) (us : List Value) (off : Nat) : Prop :=
  ∀ i x, xs[i]? = some x → ∃ u, us[off + i]? = some u ∧ VRel J O w x u

theorem shows_take {xs : List AV} {us : List Value} {off n : Nat} (hs : Shows J O w xs us off) : Shows J O w (xs.take n) us off := by
  intro i x hx
  rw [List.getElem?_take] at hx
  split at hx
  · exact hs i x hx
  · simp at hx
theorem shows_drop {xs : List AV} {us : List Value} {off n : Nat} (hs : Shows J O w xs us off) : Shows J O w (xs.drop n) us (off + n) := by
  intro i x hx
  rw [List.getElem?_drop] at hx
  obtain ⟨u, h1, h2⟩ := hs _ x hx
  exact ⟨u, by rw [Nat.add_assoc]; exact h1, h2⟩

theorem run_isAgg_of {t : TypeId} {d : TypeDesc} (hd : P.underlying t = some d) (w : World) : (isAgg t).run P w = .ok (aggOf d) w := by
  simp only [isAgg, Sem.run_bind, run_underlying hd, Result.andThen_ok]
  cases d <;> rfl

def eqArr (d : Nat) (e : TypeId) (n : Nat) (xs ys : Array Value) : List Nat → Sem Bool
  | [] => pure true
  | i :: l => do
    let a ← part e xs (i * n)
    let b ← part e ys (i * n)
    let r ← Op.equalIn d e a b
    if (!r) = true then pure false else eqArr d e n xs ys l

theorem run_equalIn_array (w : World) (d : Nat) (t e : TypeId) (len n : Nat) (xs ys : Array Value) (ht : P.underlying t = some (.array len e)) (hn : (sizeOf e).run P w = .ok n w) :
    (Op.equalIn (d + 1) t (.agg xs) (.agg ys)).run P w = (eqArr d e n xs ys (List.range len)).run P w := by
  simp only [Op.equalIn, Sem.run_bind, run_underlying ht, Result.andThen_ok, hn]
  simp only [Std.Legacy.Range.forIn_eq_forIn_range', Std.Legacy.Range.size, Nat.sub_zero, Nat.add_sub_cancel, Nat.div_one, ← List.range_eq_range']
  generalize List.range len = fs
  clear ht hn
  induction fs generalizing w with
  | nil => simp [eqArr]
  | cons f fs ih =>
    simp only [List.forIn_cons, eqArr, Sem.run_bind]
    generalize (part e xs (f * n)).run P w = r1
    cases r1 with
    | ok a w1 =>
      simp only [Result.andThen_ok]
      generalize (part e ys (f * n)).run P w1 = r2
      cases r2 with
      | ok b w2 =>
        simp only [Result.andThen_ok]
        generalize (Op.equalIn d e a b).run P w2 = r3
        cases r3 with
        | ok r w3 =>
          cases r
          · simp only [Result.andThen_ok, Bool.not_false, if_true, Sem.run_pure]
          · simp only [Result.andThen_ok, Bool.not_true, Bool.false_eq_true, if_false, Sem.run_pure]
            exact ih w3
        | halt x w3 => simp [Result.andThen]
      | halt x w2 => simp [Result.andThen]
    | halt x w1 => simp [Result.andThen]

/-- '==' at a type that is made of basic kinds. -/
theorem equal_flat : ∀ (d : Nat) (t : TypeId) (bs : List BK), flat P d t = some bs → ∀ (xs ys : List AV) (us vs : List Value) (off : Nat) (m : Nat), d ≤ m → cok bs xs ys → Shows J O w xs us off → Shows J O w ys vs off →
    (part t us.toArray off >>= fun a => part t vs.toArray off >>= fun b => Op.equalIn m t a b).run P w = .ok (ceq xs ys) w
  | 0, _, _, hf => by simp [flat] at hf
  | d + 1, t, bs, hf => by
    intro xs ys us vs off m hm hc hxs hys
    obtain ⟨m, rfl⟩ : ∃ m', m = m' + 1 := ⟨m - 1, by omega⟩
    by_cases hst : ∃ fs, P.underlying t = some (.struct fs)
    · obtain ⟨fs, hu⟩ := hst
      have hf' := hf
      unfold flat at hf'
      cases hi : P.info? t with
      | none => simp [hu, hi] at hf'
      | some i =>
      simp only [hu, hi] at hf'
      split at hf'
      · simp at hf'
      rename_i hsi
      split at hf'
      · rename_i r hr
        split at hf'
        · rename_i hlen
          injection hf' with hf'
          subst hf'
          have hl := cok_len _ _ _ hc
          have hp1 : (part t us.toArray off).run P w = .ok (.agg (us.toArray.extract off (off + r.length))) w := by
            simp only [part, Sem.run_bind, run_isAgg_of hu, Result.andThen_ok, aggOf, if_true, sizeOf, typeInfo, run_program, hi, Sem.run_pure, hlen]
          have hp2 : (part t vs.toArray off).run P w = .ok (.agg (vs.toArray.extract off (off + r.length))) w := by
            simp only [part, Sem.run_bind, run_isAgg_of hu, Result.andThen_ok, aggOf, if_true, sizeOf, typeInfo, run_program, hi, Sem.run_pure, hlen]
          rw [Sem.run_bind, hp1, Result.andThen_ok, Sem.run_bind, hp2, Result.andThen_ok]
          have hfs : P.fieldsOf t = fs := by simp [Program.fieldsOf, hu]
          rw [run_equalIn_struct w m t _ _ (by rw [hfs]; exact hu) (by simpa using hsi), hfs]
          have e1 : us.toArray.extract off (off + r.length) = ((us.drop off).take r.length).toArray := by
            simp [List.extract_toArray, List.extract_eq_take_drop]
          have e2 : vs.toArray.extract off (off + r.length) = ((vs.drop off).take r.length).toArray := by
            simp [List.extract_toArray, List.extract_eq_take_drop]
          rw [e1, e2]
          have s1 : Shows J O w xs ((us.drop off).take r.length) 0 := by
            intro i x hx
            obtain ⟨u, h1, h2⟩ := hxs i x hx
            have hi' : i < r.length := by
              rw [← hl.1]
              exact (List.getElem?_eq_some_iff.1 hx).1
            exact ⟨u, by rw [Nat.zero_add, List.getElem?_take_of_lt hi', List.getElem?_drop]; exact h1, h2⟩
          have s2 : Shows J O w ys ((vs.drop off).take r.length) 0 := by
            intro i x hx
            obtain ⟨u, h1, h2⟩ := hys i x hx
            have hi' : i < r.length := by
              rw [← hl.2]
              exact (List.getElem?_eq_some_iff.1 hx).1
            exact ⟨u, by rw [Nat.zero_add, List.getElem?_take_of_lt hi', List.getElem?_drop]; exact h1, h2⟩
          generalize (us.drop off).take r.length = us' at s1 ⊢
          generalize (vs.drop off).take r.length = vs' at s2 ⊢
          clear e1 e2 hp1 hp2 hfs hl hxs hys hlen hsi hf hu
          -- the fields, one after the other
          have key : ∀ (l : List Field) (o : Nat) (r : List BK), flatFields (flat P d) o l = some r → ∀ (xs ys : List AV), cok r xs ys → Shows J O w xs us' o → Shows J O w ys vs' o →
              (Op.eqFields m us'.toArray vs'.toArray l).run P w = .ok (ceq xs ys) w := by
            intro l
            induction l with
            | nil =>
              intro o r hr xs ys hc _ _
              simp [flatFields] at hr
              subst hr
              have := cok_len _ _ _ hc
              have hx : xs = [] := by simpa using this.1
              have hy : ys = [] := by simpa using this.2
              subst hx; subst hy
              simp [Op.eqFields, ceq]
            | cons f l ih =>
              intro o r hr xs ys hc hx hy
              unfold flatFields at hr
              split at hr
              · rename_i hname
                split at hr
                · rename_i b hb
                  split at hr
                  · rename_i r' hr'
                    injection hr with hr
                    subst hr
                    have hl := cok_len _ _ _ hc
                    simp only [List.length_append] at hl
                    obtain ⟨c1, c2⟩ := cok_append hc
                    have h1 := equal_flat d f.type b hb (xs.take b.length) (ys.take b.length) us' vs' f.offset m (by omega) c1 (by rw [hname.2]; exact shows_take hx) (by rw [hname.2]; exact shows_take hy)
                    have h2 := ih (o + b.length) r' hr' (xs.drop b.length) (ys.drop b.length) c2 (shows_drop hx) (shows_drop hy)
                    rw [ceq_append b.length xs ys (by omega) (by omega)]
                    simp only [Op.eqFields, if_pos hname.1]
                    simp only [Sem.run_bind] at h1 ⊢
                    generalize (part f.type us'.toArray f.offset).run P w = r1 at h1 ⊢
                    cases r1 with
                    | halt => simp [Result.andThen] at h1
                    | ok a w1 =>
                      simp only [Result.andThen_ok] at h1 ⊢
                      generalize (part f.type vs'.toArray f.offset).run P w1 = r2 at h1 ⊢
                      cases r2 with
                      | halt => simp [Result.andThen] at h1
                      | ok b' w2 =>
                        simp only [Result.andThen_ok] at h1 ⊢
                        rw [h1]
                        simp only [Result.andThen_ok]
                        cases ceq (xs.take b.length) (ys.take b.length) with
                        | false => simp
                        | true => simpa using h2
                  · simp at hr
                · simp at hr
              · simp at hr
          exact key fs.toList 0 r hr xs ys hc s1 s2
        · simp at hf'
      · simp at hf'
    · by_cases har : ∃ n e, P.underlying t = some (.array n e)
      · obtain ⟨len, e, hu⟩ := har
        have hf' := hf
        unfold flat at hf'
        cases hi : P.info? t with
        | none => simp [hu, hi] at hf'
        | some i =>
        simp only [hu, hi] at hf'
        split at hf'
        · rename_i r hr
          split at hf'
          · rename_i hlen
            injection hf' with hf'
            have hsz : (sizeOf e).run P w = .ok r.length w := by
              have h0 := hlen.2
              cases d with
              | zero => simp [flat] at hr
              | succ d =>
                cases hie : P.info? e with
                | none =>
                  unfold flat at hr
                  rw [hie] at hr
                  cases hue : P.underlying e <;> simp [hue] at hr
                | some ie => simp [Program.cellsOf, hie] at h0; simp [sizeOf, typeInfo, hie, h0]
            have hbl : bs.length = i.size := by
              rw [← hf', ← hlen.1, List.length_flatMap, List.map_const', List.length_range, List.sum_replicate_nat]
            have hl := cok_len _ _ _ hc
            have hp : ∀ us : List Value, (part t us.toArray off).run P w = .ok (.agg (us.toArray.extract off (off + bs.length))) w := by
              intro us
              simp only [part, Sem.run_bind, run_isAgg_of hu, Result.andThen_ok, aggOf, if_true, sizeOf, typeInfo, run_program, hi, Sem.run_pure, hbl]
            rw [Sem.run_bind, hp, Result.andThen_ok, Sem.run_bind, hp, Result.andThen_ok, run_equalIn_array w m t e len r.length _ _ hu hsz]
            have e1 : ∀ us : List Value, us.toArray.extract off (off + bs.length) = ((us.drop off).take bs.length).toArray := by
              intro us
              simp [List.extract_toArray, List.extract_eq_take_drop]
            rw [e1, e1]
            have s0 : ∀ (xs : List AV) (us : List Value), xs.length = bs.length → Shows J O w xs us off → Shows J O w xs ((us.drop off).take bs.length) 0 := by
              intro xs us hl hxs i x hx
              obtain ⟨u, h1, h2⟩ := hxs i x hx
              have hi' : i < bs.length := by
                rw [← hl]
                exact (List.getElem?_eq_some_iff.1 hx).1
              exact ⟨u, by rw [Nat.zero_add, List.getElem?_take_of_lt hi', List.getElem?_drop]; exact h1, h2⟩
            have s1 := s0 xs us hl.1 hxs
            have s2 := s0 ys vs hl.2 hys
            generalize (us.drop off).take bs.length = us' at s1 ⊢
            generalize (vs.drop off).take bs.length = vs' at s2 ⊢
            have key : ∀ (k s : Nat) (xs ys : List AV), cok ((List.range' s k).flatMap fun _ => r) xs ys → Shows J O w xs us' (s * r.length) → Shows J O w ys vs' (s * r.length) →
                (eqArr m e r.length us'.toArray vs'.toArray (List.range' s k)).run P w = .ok (ceq xs ys) w := by
              intro k
              induction k with
              | zero =>
                intro s xs ys hc _ _
                have := cok_len _ _ _ hc
                simp at this
                obtain ⟨hx, hy⟩ := this
                subst hx; subst hy
                simp [eqArr, ceq]
              | succ k ih =>
                intro s xs ys hc hx hy
                rw [List.range'_succ, List.flatMap_cons] at hc
                rw [List.range'_succ]
                have hl := cok_len _ _ _ hc
                simp only [List.length_append] at hl
                obtain ⟨c1, c2⟩ := cok_append hc
                have h1 := equal_flat d e r hr (xs.take r.length) (ys.take r.length) us' vs' (s * r.length) m (by omega) c1 (shows_take hx) (shows_take hy)
                have h2 := ih (s + 1) (xs.drop r.length) (ys.drop r.length) c2 (by rw [Nat.add_mul, Nat.one_mul]; exact shows_drop hx) (by rw [Nat.add_mul, Nat.one_mul]; exact shows_drop hy)
                rw [ceq_append r.length xs ys (by omega) (by omega)]
                simp only [eqArr]
                simp only [Sem.run_bind] at h1 ⊢
                generalize (part e us'.toArray (s * r.length)).run P w = r1 at h1 ⊢
                cases r1 with
                | halt => simp [Result.andThen] at h1
                | ok a w1 =>
                  simp only [Result.andThen_ok] at h1 ⊢
                  generalize (part e vs'.toArray (s * r.length)).run P w1 = r2 at h1 ⊢
                  cases r2 with
                  | halt => simp [Result.andThen] at h1
                  | ok b' w2 =>
                    simp only [Result.andThen_ok] at h1 ⊢
                    rw [h1]
                    simp only [Result.andThen_ok]
                    cases ceq (xs.take r.length) (ys.take r.length) with
                    | false => simp
                    | true => simpa using h2
            rw [List.range_eq_range']
            exact key len 0 xs ys (by rw [← List.range_eq_range', hf']; exact hc) (by simpa using s1) (by simpa using s2)
          · simp at hf'
        · simp at hf'
      · have hb := flat_basic hf (fun fs h => hst ⟨fs, h⟩) (fun n e h => har ⟨n, e, h⟩)
        have cell : ∀ (xs : List AV) (us : List Value) (x : AV), xs = [x] → Shows J O w xs us off → ∀ d, P.underlying t = some d → aggOf d = false → ∃ u, (part t us.toArray off).run P w = .ok u w ∧ VRel J O w x u := by
          intro xs us x hx hs d hd hag
          subst hx
          obtain ⟨u, h1, h2⟩ := hs 0 x (by simp)
          refine ⟨u, ?_, h2⟩
          simp only [part, Sem.run_bind, run_isAgg_of hd, Result.andThen_ok, hag, Bool.false_eq_true, if_false]
          have : us.toArray[off]? = some u := by simpa using h1
          rw [this]; rfl
        rcases hb with ⟨k, hu, rfl⟩ | ⟨hu, rfl⟩ | ⟨hu, rfl⟩
        all_goals
          have hl := cok_len _ _ _ hc
          obtain ⟨x, hx1⟩ := List.length_eq_one_iff.1 hl.1
          obtain ⟨y, hy1⟩ := List.length_eq_one_iff.1 hl.2
          subst hx1
          subst hy1
          focus
            simp only [cok, and_true] at hc
            obtain ⟨u, hp1, hr1⟩ := cell _ us x rfl hxs _ hu rfl
            obtain ⟨v, hp2, hr2⟩ := cell _ vs y rfl hys _ hu rfl
            rw [Sem.run_bind, hp1, Result.andThen_ok, Sem.run_bind, hp2, Result.andThen_ok]
            unfold cok1 at hc
            split at hc <;> first | (simp at hc; done) | (rename_i heq; cases heq; done) | skip
            cases hr1; cases hr2
            first
              | (subst hc; rw [run_equalIn_int w m t _ _ _ _ hu]; simp [ceq, ceq1])
              | (rw [run_equalIn_string w m t _ _ hu]; simp [ceq, ceq1, str_val])
              | (rw [run_equalIn_bool w m t _ _ hu]; simp [ceq, ceq1])
end
end Go.Abs
