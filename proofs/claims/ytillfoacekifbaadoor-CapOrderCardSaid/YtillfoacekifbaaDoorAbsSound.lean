/-
  Soundness of the operations that only compute or read.
  Soundness of the operations that only compute or read: all of them together.
  Soundness of the operations that only compute or read: addresses, loads, indices, maps, cuts, builtins.
-/
import Derived.Test.YtillfoacekifbaaDoorAbsOp
set_option linter.unusedVariables false
set_option linter.unusedSimpArgs false

section 

namespace Go.Abs
open Go

section
variable {P : Program} {gl : Globs} {J : List Blk} {h : AHeap} {w : World} {O : Nat → Prop} {fr : AFrame}

theorem str_val (s : List UInt8) : (⟨s.toArray⟩ : ByteArray).toList = s := ByteArray.toList_mk s
theorem str_append (a b : List UInt8) : (⟨a.toArray⟩ : ByteArray) ++ ⟨b.toArray⟩ = ⟨(a ++ b).toArray⟩ := by
  apply ByteArray.ext
  simp

theorem ibin_sound (op : BinOp) (t : TypeId) (X Y : Operand) (k k' : IntKind) (a b : Int) (hok : ibinOk op k k' b) :
    ∃ r, (do eqGuard op t X Y (.int k a) (.int k' b); binOp op t (.int k a) (.int k' b)).run P w = .ok r w ∧ VRel J O w (ibin op k a b) r := by
  simp only [eqGuard_at_int, Sem.run_bind, Sem.run_pure, Result.andThen_ok]
  cases op <;> simp only [ibinOk] at hok
  case shl =>
    refine ⟨_, ?_, .int _ _⟩
    simp only [binOp_shl, Op.shift]
    rw [if_neg (by omega)]; rfl
  case shr =>
    refine ⟨_, ?_, .int _ _⟩
    simp only [binOp_shr, Op.shift]
    rw [if_neg (by omega)]; rfl
  case quo =>
    obtain ⟨rfl, hb⟩ := hok
    refine ⟨_, ?_, .int _ _⟩
    simp only [binOp_quo, Op.intDiv]
    rw [if_neg hb]; rfl
  case rem =>
    obtain ⟨rfl, hb⟩ := hok
    refine ⟨_, ?_, .int _ _⟩
    simp only [binOp_rem, Op.intDiv]
    rw [if_neg hb]; rfl
  all_goals
    subst hok
    first
      | exact ⟨_, by simp only [binOp_add, binOp_sub, binOp_mul, binOp_and, binOp_or, binOp_xor, binOp_andNot, binOp_eql, binOp_neq, binOp_lss, binOp_leq, binOp_gtr, binOp_geq]; rfl, .int _ _⟩
      | exact ⟨_, by simp only [binOp_add, binOp_sub, binOp_mul, binOp_and, binOp_or, binOp_xor, binOp_andNot, binOp_eql, binOp_neq, binOp_lss, binOp_leq, binOp_gtr, binOp_geq]; rfl, .bool _⟩

theorem sbin_sound (op : BinOp) (t : TypeId) (X Y : Operand) (a b : List UInt8) (hok : sbinOk op a b) :
    ∃ r, (do eqGuard op t X Y (.string ⟨a.toArray⟩) (.string ⟨b.toArray⟩); binOp op t (.string ⟨a.toArray⟩) (.string ⟨b.toArray⟩)).run P w = .ok r w ∧ VRel J O w (sbin op a b) r := by
  simp only [eqGuard_at_string, Sem.run_bind, Sem.run_pure, Result.andThen_ok]
  cases op <;> simp only [sbinOk] at hok
  case add =>
    refine ⟨_, ?_, .str _⟩
    have : ¬ (((⟨a.toArray⟩ : ByteArray).size + (⟨b.toArray⟩ : ByteArray).size : Nat) : Int) > IntKind.i64.max := by
      simp [ByteArray.size]; omega
    simp only [binOp_string_add, Op.stringOp, if_neg this, str_append, Sem.run_pure]
  all_goals
    refine ⟨_, ?_, .bool _⟩
    simp [binOp, Op.stringOp, str_val]

/-! ### Comparable types -/

theorem flat_basic {d : Nat} {t : TypeId} {bs : List BK} (hf : flat P (d + 1) t = some bs) (hn : ∀ fs, P.underlying t ≠ some (.struct fs)) (hn' : ∀ n e, P.underlying t ≠ some (.array n e)) :
    (∃ k, P.underlying t = some (.int k) ∧ bs = [.int]) ∨ (P.underlying t = some .string ∧ bs = [.str]) ∨ (P.underlying t = some .bool ∧ bs = [.bool]) := by
  unfold flat at hf
  split at hf
  · rename_i k i h1 h2
    split at hf <;> simp at hf
    exact .inl ⟨k, h1, hf.symm⟩
  · rename_i i h1 h2
    split at hf <;> simp at hf
    exact .inr (.inl ⟨h1, hf.symm⟩)
  · rename_i i h1 h2
    split at hf <;> simp at hf
    exact .inr (.inr ⟨h1, hf.symm⟩)
  · rename_i fs i h1 h2; exact absurd h1 (hn fs)
  · rename_i n e i h1 h2; exact absurd h1 (hn' n e)
  · simp at hf

theorem cok_len : ∀ (bs : List BK) (xs ys : List AV), cok bs xs ys → xs.length = bs.length ∧ ys.length = bs.length
  | [], [], [], _ => ⟨rfl, rfl⟩
  | _ :: bs, _ :: xs, _ :: ys, h => by
    simp only [cok] at h
    have := cok_len bs xs ys h.2
    simp [this]
  | [], [], _ :: _, h => by simp [cok] at h
  | [], _ :: _, _, h => by simp [cok] at h
  | _ :: _, [], _, h => by simp [cok] at h
  | _ :: _, _ :: _, [], h => by simp [cok] at h

theorem cok_append {b1 b2 : List BK} : ∀ {xs ys : List AV}, cok (b1 ++ b2) xs ys → cok b1 (xs.take b1.length) (ys.take b1.length) ∧ cok b2 (xs.drop b1.length) (ys.drop b1.length) := by
  induction b1 with
  | nil => intro xs ys h; simpa [cok] using h
  | cons b b1 ih =>
    intro xs ys h
    cases xs with
    | nil => simp [cok] at h
    | cons x xs =>
      cases ys with
      | nil => simp [cok] at h
      | cons y ys =>
        simp only [List.cons_append, cok] at h
        have := ih h.2
        simp [cok, h.1, this.1, this.2]

theorem ceq_append : ∀ (n : Nat) (xs ys : List AV), n ≤ xs.length → n ≤ ys.length → ceq xs ys = (ceq (xs.take n) (ys.take n) && ceq (xs.drop n) (ys.drop n))
  | 0, xs, ys, _, _ => by simp [ceq]
  | n + 1, [], _, h, _ => by simp at h
  | n + 1, _ :: _, [], _, h => by simp at h
  | n + 1, x :: xs, y :: ys, h1, h2 => by
    simp only [List.length_cons] at h1 h2
    simp only [ceq, List.take_succ_cons, List.drop_succ_cons]
    rw [ceq_append n xs ys (by omega) (by omega), Bool.and_assoc]

/-- The part of a list of values that begins somewhere shows a list of abstract values. -/
def Shows (J : List Blk) (O : Nat → Prop) (w : World) (xs : List AV) (us : List Value) (off : Nat) : Prop :=
  ∀ i x, xs[i]? = some x → ∃ u, us[off + i]? = some u ∧ VRel J O w x u

theorem shows_take {xs : List AV} {us : List Value} {off n : Nat} (hs : Shows J O w xs us off) : Shows J O w (xs.take n) us off := by
  intro i x hx
  rw [List.getElem?_take] at hx
  split at hx
  · exact hs i x hx
  · simp at hx
theorem shows_drop {xs : List AV} {us : List Value} {off n : Nat} (hs : Shows J O w xs us off) : Shows J O w (xs.drop n) us (off + n) := by
  intro i x hx
  rw [List.getElem?_drop] at hx
  obtain ⟨u, h1, h2⟩ := hs _ x hx
  exact ⟨u, by rw [Nat.add_assoc]; exact h1, h2⟩

theorem run_isAgg_of {t : TypeId} {d : TypeDesc} (hd : P.underlying t = some d) (w : World) : (isAgg t).run P w = .ok (aggOf d) w := by
  simp only [isAgg, Sem.run_bind, run_underlying hd, Result.andThen_ok]
  cases d <;> rfl

def eqArr (d : Nat) (e : TypeId) (n : Nat) (xs ys : Array Value) : List Nat → Sem Bool
  | [] => pure true
  | i :: l => do
    let a ← part e xs (i * n)
    let b ← part e ys (i * n)
    let r ← Op.equalIn d e a b
    if (!r) = true then pure false else eqArr d e n xs ys l

theorem run_equalIn_array (w : World) (d : Nat) (t e : TypeId) (len n : Nat) (xs ys : Array Value) (ht : P.underlying t = some (.array len e)) (hn : (sizeOf e).run P w = .ok n w) :
    (Op.equalIn (d + 1) t (.agg xs) (.agg ys)).run P w = (eqArr d e n xs ys (List.range len)).run P w := by
  simp only [Op.equalIn, Sem.run_bind, run_underlying ht, Result.andThen_ok, hn]
  simp only [Std.Legacy.Range.forIn_eq_forIn_range', Std.Legacy.Range.size, Nat.sub_zero, Nat.add_sub_cancel, Nat.div_one, ← List.range_eq_range']
  generalize List.range len = fs
  clear ht hn
  induction fs generalizing w with
  | nil => simp [eqArr]
  | cons f fs ih =>
    simp only [List.forIn_cons, eqArr, Sem.run_bind]
    generalize (part e xs (f * n)).run P w = r1
    cases r1 with
    | ok a w1 =>
      simp only [Result.andThen_ok]
      generalize (part e ys (f * n)).run P w1 = r2
      cases r2 with
      | ok b w2 =>
        simp only [Result.andThen_ok]
        generalize (Op.equalIn d e a b).run P w2 = r3
        cases r3 with
        | ok r w3 =>
          cases r
          · simp only [Result.andThen_ok, Bool.not_false, if_true, Sem.run_pure]
          · simp only [Result.andThen_ok, Bool.not_true, Bool.false_eq_true, if_false, Sem.run_pure]
            exact ih w3
        | halt x w3 => simp [Result.andThen]
      | halt x w2 => simp [Result.andThen]
    | halt x w1 => simp [Result.andThen]

/-- '==' at a type that is made of basic kinds. -/
theorem equal_flat : ∀ (d : Nat) (t : TypeId) (bs : List BK), flat P d t = some bs → ∀ (xs ys : List AV) (us vs : List Value) (off : Nat) (m : Nat), d ≤ m → cok bs xs ys → Shows J O w xs us off → Shows J O w ys vs off →
    (part t us.toArray off >>= fun a => part t vs.toArray off >>= fun b => Op.equalIn m t a b).run P w = .ok (ceq xs ys) w
  | 0, _, _, hf => by simp [flat] at hf
  | d + 1, t, bs, hf => by
    intro xs ys us vs off m hm hc hxs hys
    obtain ⟨m, rfl⟩ : ∃ m', m = m' + 1 := ⟨m - 1, by omega⟩
    by_cases hst : ∃ fs, P.underlying t = some (.struct fs)
    · obtain ⟨fs, hu⟩ := hst
      have hf' := hf
      unfold flat at hf'
      cases hi : P.info? t with
      | none => simp [hu, hi] at hf'
      | some i =>
      simp only [hu, hi] at hf'
      split at hf'
      · simp at hf'
      rename_i hsi
      split at hf'
      · rename_i r hr
        split at hf'
        · rename_i hlen
          injection hf' with hf'
          subst hf'
          have hl := cok_len _ _ _ hc
          have hp1 : (part t us.toArray off).run P w = .ok (.agg (us.toArray.extract off (off + r.length))) w := by
            simp only [part, Sem.run_bind, run_isAgg_of hu, Result.andThen_ok, aggOf, if_true, sizeOf, typeInfo, run_program, hi, Sem.run_pure, hlen]
          have hp2 : (part t vs.toArray off).run P w = .ok (.agg (vs.toArray.extract off (off + r.length))) w := by
            simp only [part, Sem.run_bind, run_isAgg_of hu, Result.andThen_ok, aggOf, if_true, sizeOf, typeInfo, run_program, hi, Sem.run_pure, hlen]
          rw [Sem.run_bind, hp1, Result.andThen_ok, Sem.run_bind, hp2, Result.andThen_ok]
          have hfs : P.fieldsOf t = fs := by simp [Program.fieldsOf, hu]
          rw [run_equalIn_struct w m t _ _ (by rw [hfs]; exact hu) (by simpa using hsi), hfs]
          have e1 : us.toArray.extract off (off + r.length) = ((us.drop off).take r.length).toArray := by
            simp [List.extract_toArray, List.extract_eq_take_drop]
          have e2 : vs.toArray.extract off (off + r.length) = ((vs.drop off).take r.length).toArray := by
            simp [List.extract_toArray, List.extract_eq_take_drop]
          rw [e1, e2]
          have s1 : Shows J O w xs ((us.drop off).take r.length) 0 := by
            intro i x hx
            obtain ⟨u, h1, h2⟩ := hxs i x hx
            have hi' : i < r.length := by
              rw [← hl.1]
              exact (List.getElem?_eq_some_iff.1 hx).1
            exact ⟨u, by rw [Nat.zero_add, List.getElem?_take_of_lt hi', List.getElem?_drop]; exact h1, h2⟩
          have s2 : Shows J O w ys ((vs.drop off).take r.length) 0 := by
            intro i x hx
            obtain ⟨u, h1, h2⟩ := hys i x hx
            have hi' : i < r.length := by
              rw [← hl.2]
              exact (List.getElem?_eq_some_iff.1 hx).1
            exact ⟨u, by rw [Nat.zero_add, List.getElem?_take_of_lt hi', List.getElem?_drop]; exact h1, h2⟩
          generalize (us.drop off).take r.length = us' at s1 ⊢
          generalize (vs.drop off).take r.length = vs' at s2 ⊢
          clear e1 e2 hp1 hp2 hfs hl hxs hys hlen hsi hf hu
          -- the fields, one after the other
          have key : ∀ (l : List Field) (o : Nat) (r : List BK), flatFields (flat P d) o l = some r → ∀ (xs ys : List AV), cok r xs ys → Shows J O w xs us' o → Shows J O w ys vs' o →
              (Op.eqFields m us'.toArray vs'.toArray l).run P w = .ok (ceq xs ys) w := by
            intro l
            induction l with
            | nil =>
              intro o r hr xs ys hc _ _
              simp [flatFields] at hr
              subst hr
              have := cok_len _ _ _ hc
              have hx : xs = [] := by simpa using this.1
              have hy : ys = [] := by simpa using this.2
              subst hx; subst hy
              simp [Op.eqFields, ceq]
            | cons f l ih =>
              intro o r hr xs ys hc hx hy
              unfold flatFields at hr
              split at hr
              · rename_i hname
                split at hr
                · rename_i b hb
                  split at hr
                  · rename_i r' hr'
                    injection hr with hr
                    subst hr
                    have hl := cok_len _ _ _ hc
                    simp only [List.length_append] at hl
                    obtain ⟨c1, c2⟩ := cok_append hc
                    have h1 := equal_flat d f.type b hb (xs.take b.length) (ys.take b.length) us' vs' f.offset m (by omega) c1 (by rw [hname.2]; exact shows_take hx) (by rw [hname.2]; exact shows_take hy)
                    have h2 := ih (o + b.length) r' hr' (xs.drop b.length) (ys.drop b.length) c2 (shows_drop hx) (shows_drop hy)
                    rw [ceq_append b.length xs ys (by omega) (by omega)]
                    simp only [Op.eqFields, if_pos hname.1]
                    simp only [Sem.run_bind] at h1 ⊢
                    generalize (part f.type us'.toArray f.offset).run P w = r1 at h1 ⊢
                    cases r1 with
                    | halt => simp [Result.andThen] at h1
                    | ok a w1 =>
                      simp only [Result.andThen_ok] at h1 ⊢
                      generalize (part f.type vs'.toArray f.offset).run P w1 = r2 at h1 ⊢
                      cases r2 with
                      | halt => simp [Result.andThen] at h1
                      | ok b' w2 =>
                        simp only [Result.andThen_ok] at h1 ⊢
                        rw [h1]
                        simp only [Result.andThen_ok]
                        cases ceq (xs.take b.length) (ys.take b.length) with
                        | false => simp
                        | true => simpa using h2
                  · simp at hr
                · simp at hr
              · simp at hr
          exact key fs.toList 0 r hr xs ys hc s1 s2
        · simp at hf'
      · simp at hf'
    · by_cases har : ∃ n e, P.underlying t = some (.array n e)
      · obtain ⟨len, e, hu⟩ := har
        have hf' := hf
        unfold flat at hf'
        cases hi : P.info? t with
        | none => simp [hu, hi] at hf'
        | some i =>
        simp only [hu, hi] at hf'
        split at hf'
        · rename_i r hr
          split at hf'
          · rename_i hlen
            injection hf' with hf'
            have hsz : (sizeOf e).run P w = .ok r.length w := by
              have h0 := hlen.2
              cases d with
              | zero => simp [flat] at hr
              | succ d =>
                cases hie : P.info? e with
                | none =>
                  unfold flat at hr
                  rw [hie] at hr
                  cases hue : P.underlying e <;> simp [hue] at hr
                | some ie => simp [Program.cellsOf, hie] at h0; simp [sizeOf, typeInfo, hie, h0]
            have hbl : bs.length = i.size := by
              rw [← hf', ← hlen.1, List.length_flatMap, List.map_const', List.length_range, List.sum_replicate_nat]
            have hl := cok_len _ _ _ hc
            have hp : ∀ us : List Value, (part t us.toArray off).run P w = .ok (.agg (us.toArray.extract off (off + bs.length))) w := by
              intro us
              simp only [part, Sem.run_bind, run_isAgg_of hu, Result.andThen_ok, aggOf, if_true, sizeOf, typeInfo, run_program, hi, Sem.run_pure, hbl]
            rw [Sem.run_bind, hp, Result.andThen_ok, Sem.run_bind, hp, Result.andThen_ok, run_equalIn_array w m t e len r.length _ _ hu hsz]
            have e1 : ∀ us : List Value, us.toArray.extract off (off + bs.length) = ((us.drop off).take bs.length).toArray := by
              intro us
              simp [List.extract_toArray, List.extract_eq_take_drop]
            rw [e1, e1]
            have s0 : ∀ (xs : List AV) (us : List Value), xs.length = bs.length → Shows J O w xs us off → Shows J O w xs ((us.drop off).take bs.length) 0 := by
              intro xs us hl hxs i x hx
              obtain ⟨u, h1, h2⟩ := hxs i x hx
              have hi' : i < bs.length := by
                rw [← hl]
                exact (List.getElem?_eq_some_iff.1 hx).1
              exact ⟨u, by rw [Nat.zero_add, List.getElem?_take_of_lt hi', List.getElem?_drop]; exact h1, h2⟩
            have s1 := s0 xs us hl.1 hxs
            have s2 := s0 ys vs hl.2 hys
            generalize (us.drop off).take bs.length = us' at s1 ⊢
            generalize (vs.drop off).take bs.length = vs' at s2 ⊢
            have key : ∀ (k s : Nat) (xs ys : List AV), cok ((List.range' s k).flatMap fun _ => r) xs ys → Shows J O w xs us' (s * r.length) → Shows J O w ys vs' (s * r.length) →
                (eqArr m e r.length us'.toArray vs'.toArray (List.range' s k)).run P w = .ok (ceq xs ys) w := by
              intro k
              induction k with
              | zero =>
                intro s xs ys hc _ _
                have := cok_len _ _ _ hc
                simp at this
                obtain ⟨hx, hy⟩ := this
                subst hx; subst hy
                simp [eqArr, ceq]
              | succ k ih =>
                intro s xs ys hc hx hy
                rw [List.range'_succ, List.flatMap_cons] at hc
                rw [List.range'_succ]
                have hl := cok_len _ _ _ hc
                simp only [List.length_append] at hl
                obtain ⟨c1, c2⟩ := cok_append hc
                have h1 := equal_flat d e r hr (xs.take r.length) (ys.take r.length) us' vs' (s * r.length) m (by omega) c1 (shows_take hx) (shows_take hy)
                have h2 := ih (s + 1) (xs.drop r.length) (ys.drop r.length) c2 (by rw [Nat.add_mul, Nat.one_mul]; exact shows_drop hx) (by rw [Nat.add_mul, Nat.one_mul]; exact shows_drop hy)
                rw [ceq_append r.length xs ys (by omega) (by omega)]
                simp only [eqArr]
                simp only [Sem.run_bind] at h1 ⊢
                generalize (part e us'.toArray (s * r.length)).run P w = r1 at h1 ⊢
                cases r1 with
                | halt => simp [Result.andThen] at h1
                | ok a w1 =>
                  simp only [Result.andThen_ok] at h1 ⊢
                  generalize (part e vs'.toArray (s * r.length)).run P w1 = r2 at h1 ⊢
                  cases r2 with
                  | halt => simp [Result.andThen] at h1
                  | ok b' w2 =>
                    simp only [Result.andThen_ok] at h1 ⊢
                    rw [h1]
                    simp only [Result.andThen_ok]
                    cases ceq (xs.take r.length) (ys.take r.length) with
                    | false => simp
                    | true => simpa using h2
            rw [List.range_eq_range']
            exact key len 0 xs ys (by rw [← List.range_eq_range', hf']; exact hc) (by simpa using s1) (by simpa using s2)
          · simp at hf'
        · simp at hf'
      · have hb := flat_basic hf (fun fs h => hst ⟨fs, h⟩) (fun n e h => har ⟨n, e, h⟩)
        have cell : ∀ (xs : List AV) (us : List Value) (x : AV), xs = [x] → Shows J O w xs us off → ∀ d, P.underlying t = some d → aggOf d = false → ∃ u, (part t us.toArray off).run P w = .ok u w ∧ VRel J O w x u := by
          intro xs us x hx hs d hd hag
          subst hx
          obtain ⟨u, h1, h2⟩ := hs 0 x (by simp)
          refine ⟨u, ?_, h2⟩
          simp only [part, Sem.run_bind, run_isAgg_of hd, Result.andThen_ok, hag, Bool.false_eq_true, if_false]
          have : us.toArray[off]? = some u := by simpa using h1
          rw [this]; rfl
        rcases hb with ⟨k, hu, rfl⟩ | ⟨hu, rfl⟩ | ⟨hu, rfl⟩
        all_goals
          have hl := cok_len _ _ _ hc
          obtain ⟨x, hx1⟩ := List.length_eq_one_iff.1 hl.1
          obtain ⟨y, hy1⟩ := List.length_eq_one_iff.1 hl.2
          subst hx1
          subst hy1
          focus
            simp only [cok, and_true] at hc
            obtain ⟨u, hp1, hr1⟩ := cell _ us x rfl hxs _ hu rfl
            obtain ⟨v, hp2, hr2⟩ := cell _ vs y rfl hys _ hu rfl
            rw [Sem.run_bind, hp1, Result.andThen_ok, Sem.run_bind, hp2, Result.andThen_ok]
            unfold cok1 at hc
            split at hc <;> first | (simp at hc; done) | (rename_i heq; cases heq; done) | skip
            cases hr1; cases hr2
            first
              | (subst hc; rw [run_equalIn_int w m t _ _ _ _ hu]; simp [ceq, ceq1])
              | (rw [run_equalIn_string w m t _ _ hu]; simp [ceq, ceq1, str_val])
              | (rw [run_equalIn_bool w m t _ _ hu]; simp [ceq, ceq1])
end
end Go.Abs
end

section 

namespace Go.Abs
open Go

section
variable {P : Program} {gl : Globs} {J : List Blk} {h : AHeap} {w : World} {O : Nat → Prop} {fr : AFrame}

theorem shows_of_vrels {xs : List AV} {us : List Value} (hl : xs.length = us.length) (hs : ∀ (i : Nat) (x : AV) (v : Value), xs[i]? = some x → us[i]? = some v → VRel J O w x v) : Shows J O w xs us 0 := by
  intro i x hx
  have hi : i < us.length := by rw [← hl]; exact (List.getElem?_eq_some_iff.1 hx).1
  exact ⟨us[i], by rw [Nat.zero_add]; exact List.getElem?_eq_getElem hi, hs i x _ hx (List.getElem?_eq_getElem hi)⟩

theorem flat_ok {d : Nat} {t : TypeId} {bs : List BK} (hf : flat P d t = some bs) : (tinfo P t).ok = true := by
  cases d with
  | zero => simp [flat] at hf
  | succ d =>
    unfold flat at hf
    unfold tinfo
    cases hu : P.underlying t with
    | none => simp [hu] at hf
    | some td =>
      cases hi : P.info? t with
      | none => cases td <;> simp [hu, hi] at hf
      | some i => simp
theorem flat_cells {d : Nat} {t : TypeId} {bs : List BK} (hf : flat P d t = some bs) : (tinfo P t).cells = bs.length := by
  obtain ⟨td, i, hu, hi, e⟩ := tinfo_ok (flat_ok hf)
  rw [e]
  simp only
  cases d with
  | zero => simp [flat] at hf
  | succ d =>
    unfold flat at hf
    rw [hu, hi] at hf
    cases td <;> simp only at hf <;> first | (simp at hf; done) | skip
    all_goals
      repeat (split at hf <;> first | (simp at hf; done) | skip)
      all_goals first
        | (simp at hf; subst hf; simp; omega)
        | (rename_i h1; injection hf with hf; subst hf; rw [List.length_flatMap, List.map_const', List.length_range, List.sum_replicate_nat]; omega)
        | (injection hf with hf; subst hf; simp_all)

theorem vrel_cells {x : AV} {u : Value} (hx : VRel J O w x u) (hna : ∀ cs, x ≠ .agg cs) : acells x = [x] := by
  cases x <;> first | rfl | exact absurd rfl (hna _)

/-- Two values of a type that is made of basic kinds. -/
theorem equal_vals {t : TypeId} {bs : List BK} (hf : flat P 50 t = some bs) {x y : AV} {u v : Value} (hx : VRel J O w x u) (hy : VRel J O w y v) (hax : aggFit (tinfo P t) x) (hay : aggFit (tinfo P t) y)
    (hc : cok bs (acells x) (acells y)) (m : Nat) (hm : 50 ≤ m) : (Op.equalIn m t u v).run P w = .ok (ceq (acells x) (acells y)) w := by
  have hl := cok_len _ _ _ hc
  have hok := flat_ok hf
  have hcells := flat_cells hf
  unfold aggFit at hax hay
  cases hag : (tinfo P t).agg with
  | true =>
    rw [hag] at hax hay
    cases x <;> simp only at hax
    cases y <;> simp only at hay
    rename_i xs ys
    simp only [acells] at hl hc ⊢
    cases hx with
    | agg _ us hl1 ho1 h1 =>
      cases hy with
      | agg _ vs hl2 ho2 h2 =>
        have h0 := equal_flat (P := P) 50 t bs hf xs ys us vs 0 m hm hc (shows_of_vrels hl1 h1) (shows_of_vrels hl2 h2)
        have p1 : ∀ us : List Value, us.length = bs.length → (part t us.toArray 0).run P w = .ok (.agg us.toArray) w := by
          intro us hus
          simp only [part, Sem.run_bind, run_isAgg' hok, hag, Result.andThen_ok, if_true, run_sizeOf' hok, hcells, Sem.run_pure]
          congr 2
          simp [← hus]
        rw [Sem.run_bind, p1 us (by omega), Result.andThen_ok, Sem.run_bind, p1 vs (by omega), Result.andThen_ok] at h0
        exact h0
  | false =>
    rw [hag] at hax hay
    have hnx : ∀ cs, x ≠ .agg cs := by rintro cs rfl; simp at hax
    have hny : ∀ cs, y ≠ .agg cs := by rintro cs rfl; simp at hay
    rw [vrel_cells hx hnx, vrel_cells hy hny] at hc ⊢
    have h0 := equal_flat (P := P) 50 t bs hf [x] [y] [u] [v] 0 m hm hc (shows_of_vrels rfl (VRels.cons hx .nil).2) (shows_of_vrels rfl (VRels.cons hy .nil).2)
    have p1 : ∀ u : Value, (part t [u].toArray 0).run P w = .ok u w := by
      intro u
      simp [part, run_isAgg' hok, hag]
    rw [Sem.run_bind, p1 u, Result.andThen_ok, Sem.run_bind, p1 v, Result.andThen_ok] at h0
    exact h0

theorem run_eql_slices (w : World) (t : TypeId) (x y : Option Addr × Nat × Nat) (b : Bool) (he : ∀ d, (Op.equalIn (d + 1) t (.slice x.1 x.2.1 x.2.2) (.slice y.1 y.2.1 y.2.2)).run P w = .ok b w) :
    (binOp .eql t (.slice x.1 x.2.1 x.2.2) (.slice y.1 y.2.1 y.2.2)).run P w = .ok (.bool b) w ∧ (binOp .neq t (.slice x.1 x.2.1 x.2.2) (.slice y.1 y.2.1 y.2.2)).run P w = .ok (.bool (!b)) w := by
  have h0 : (Op.equal t (.slice x.1 x.2.1 x.2.2) (.slice y.1 y.2.1 y.2.2)).run P w = .ok b w := he 9999
  constructor
  · simp only [binOp, Sem.run_bind, h0, Result.andThen_ok, Sem.run_pure]
  · simp only [binOp, Sem.run_bind, h0, Result.andThen_ok, Sem.run_pure]

theorem abin_sound {op : BinOp} {t : TypeId} {X Y : Operand} {x y : AV} {u v : Value} (hx : VRel J O w x u) (hy : VRel J O w y v) (hok : abinOk P op t x y) :
    ∃ r, (do eqGuard op t X Y u v; binOp op t u v).run P w = .ok r w ∧ VRel J O w (abin op x y) r := by
  unfold abinOk at hok
  split at hok
  · cases hx; cases hy; exact ibin_sound op t X Y _ _ _ _ hok
  · cases hx; cases hy; exact sbin_sound op t X Y _ _ hok
  · cases hx; cases hy
    obtain ⟨ho, hk⟩ := hok
    obtain ⟨d, hu, hd, hok', _⟩ := kind_und hk (by simp)
    have hu' : P.underlying t = some .bool := by cases d <;> simp [tkOf] at hd; exact hu
    simp only [eqGuard_at_bool, Sem.run_bind, Sem.run_pure, Result.andThen_ok]
    rcases ho with rfl | rfl
    · exact ⟨_, run_eql_bool w t _ _ hu', .bool _⟩
    · exact ⟨_, run_neq_bool w t _ _ hu', .bool _⟩
  · rename_i xs ys
    cases hx with
    | agg _ us hl1 ho1 h1 =>
      cases hy with
      | agg _ vs hl2 ho2 h2 =>
        obtain ⟨ho, hg, hag, bs, hf, hc⟩ := hok
        have he := equal_vals (P := P) hf (.agg xs us hl1 ho1 h1) (.agg ys vs hl2 ho2 h2) (by simp [aggFit, hag]) (by simp [aggFit, hag]) hc 10000 (by omega)
        simp only [acells] at he
        rcases ho with rfl | rfl
        · refine ⟨_, ?_, .bool _⟩
          rw [Sem.run_bind, run_eqGuard_agg w _ _ _ _ _ _ hg, Result.andThen_ok, run_eql_struct, he]; rfl
        · refine ⟨_, ?_, .bool _⟩
          rw [Sem.run_bind, run_eqGuard_agg w _ _ _ _ _ _ hg, Result.andThen_ok, run_neq_struct, he]; rfl
  · cases hx; cases hy
    obtain ⟨ho, e, he⟩ := hok
    have hu := (kind_slice he).1
    simp only [eqGuard_at_slice, Sem.run_bind, Sem.run_pure, Result.andThen_ok]
    rcases ho with rfl | rfl
    · exact ⟨_, (run_eql_slices w t (none, 0, 0) (none, 0, 0) true (fun d => by simp only [Op.equalIn, Sem.run_bind, run_underlying hu, Result.andThen_ok]; rfl)).1, .bool _⟩
    · exact ⟨_, (run_eql_slices w t (none, 0, 0) (none, 0, 0) true (fun d => by simp only [Op.equalIn, Sem.run_bind, run_underlying hu, Result.andThen_ok]; rfl)).2, .bool _⟩
  · cases hx; cases hy
    obtain ⟨ho, e, he⟩ := hok
    have hu := (kind_slice he).1
    simp only [eqGuard_at_slice, Sem.run_bind, Sem.run_pure, Result.andThen_ok]
    rcases ho with rfl | rfl
    · exact ⟨_, (run_eql_slices w t (some _, _, _) (none, 0, 0) false (fun d => by simp only [Op.equalIn, Sem.run_bind, run_underlying hu, Result.andThen_ok]; rfl)).1, .bool _⟩
    · exact ⟨_, (run_eql_slices w t (some _, _, _) (none, 0, 0) false (fun d => by simp only [Op.equalIn, Sem.run_bind, run_underlying hu, Result.andThen_ok]; rfl)).2, .bool _⟩
  · exact hok.elim

theorem aun_sound {op : UnOp} {x : AV} {u : Value} (hx : VRel J O w x u) (hok : aunOk op x) : ∃ r, (Op.unary op u).run P w = .ok r w ∧ VRel J O w (aun op x) r := by
  unfold aunOk at hok
  split at hok
  · cases hx; exact ⟨_, by simp [Op.unary, Op.intArith], .int _ _⟩
  · cases hx; exact ⟨_, by simp [Op.unary], .bool _⟩
  · exact hok.elim

theorem aconv_sound {src dst : TypeId} {x : AV} {u : Value} (hx : VRel J O w x u) (hok : aconvOk P src dst x) : ∃ r, (convert src dst u).run P w = .ok r w ∧ VRel J O w (aconv P dst x) r := by
  obtain ⟨hs, hok⟩ := hok
  obtain ⟨ds, is, hds, _, _⟩ := tinfo_ok hs
  split at hok
  · rename_i k k' n hk
    obtain ⟨d, hu, hd, _, _⟩ := kind_und hk (by simp)
    have hu' : P.underlying dst = some (.int k) := by cases d <;> simp [tkOf] at hd; subst hd; exact hu
    cases hx
    refine ⟨_, ?_, by simp only [aconv, hk]; exact .int _ _⟩
    simp only [convert, Sem.run_bind, run_underlying hds, run_underlying hu', Result.andThen_ok]
    cases ds <;> rfl
  · rename_i s hk
    obtain ⟨d, hu, hd, _, _⟩ := kind_und hk (by simp)
    have hu' : P.underlying dst = some .string := by cases d <;> simp [tkOf] at hd; exact hu
    cases hx
    refine ⟨_, ?_, by simp only [aconv, hk]; exact .str _⟩
    simp only [convert, Sem.run_bind, run_underlying hds, run_underlying hu', Result.andThen_ok]
    cases ds <;> rfl
  · exact hok.elim

theorem int_of {x : AV} {v : Value} (hx : VRel J O w x v) (hi : isInt x) : ∃ k, v = .int k (aint x) := by
  unfold isInt at hi
  split at hi
  · cases hx; exact ⟨_, rfl⟩
  · exact hi.elim

theorem run_bounds {isSlice : Bool} {len cap : Nat} (hlc : len ≤ cap) (hs : isSlice = false → len = cap) {lo hi : Option Value} {l' h' : Option Int} (hl : ∀ v ∈ lo, ∃ k n, v = .int k n ∧ l' = some n) (hln : lo = none → l' = none)
    (hh : ∀ v ∈ hi, ∃ k n, v = .int k n ∧ h' = some n) (hhn : hi = none → h' = none) (hok : sliceOk len l' h') :
    (Instr.sliceBounds isSlice len cap lo hi none).run P w = .ok ((l'.map Int.toNat).getD 0, hiOf h' len, cap) w ∧ (l'.map Int.toNat).getD 0 ≤ hiOf h' len ∧ hiOf h' len ≤ len := by
  obtain ⟨h1, h2⟩ := hok
  have hb : hiOf h' len ≤ len := by
    cases h' with
    | none => simp [hiOf]
    | some n => simp only [loOk] at h1; simp [hiOf]; omega
  have ha : (l'.map Int.toNat).getD 0 ≤ hiOf h' len := by
    cases l' with
    | none => simp
    | some n => simp only [loOk] at h2; simp; omega
  refine ⟨?_, ha, hb⟩
  cases hi with
  | none =>
    cases lo with
    | none =>
      rw [hln rfl, hhn rfl]
      simp [Instr.sliceBounds, hiOf]
    | some v =>
      obtain ⟨k, n, rfl, rfl⟩ := hl v rfl
      rw [hhn rfl] at h2 ⊢
      simp only [loOk, hiOf, Option.map_none, Option.getD_none] at h2
      simp [Instr.sliceBounds, hiOf, run_sliceBound w k n len _ h2.1 h2.2]
  | some u =>
    obtain ⟨k, n, rfl, rfl⟩ := hh u rfl
    simp only [loOk] at h1
    cases lo with
    | none =>
      rw [hln rfl]
      simp [Instr.sliceBounds, hiOf, run_sliceBound w k n cap _ h1.1 (by omega)]
    | some v =>
      obtain ⟨k', n', rfl, rfl⟩ := hl v rfl
      simp only [loOk, hiOf, Option.map_some, Option.getD_some] at h2
      simp [Instr.sliceBounds, hiOf, run_sliceBound w k n cap _ h1.1 (by omega), run_sliceBound w k' n' n.toNat _ h2.1 h2.2]
end
end Go.Abs
end

section 

namespace Go.Abs
open Go

section
variable {P : Program} {gl : Globs} {J : List Blk} {h : AHeap} {w : World} {O : Nat → Prop} {fr : AFrame}

/-- An operation that hands back a value and leaves the world alone. -/
def Yields1 (P : Program) (J : List Blk) (O : Nat → Prop) (w : World) (s : Sem Value) (x : AV) : Prop := ∃ v, s.run P w = .ok v w ∧ VRel J O w x v

theorem load_yields (hh : HRel gl h J w) {t : TypeId} {x : AV} {u : Value} (hx : VRel J (Own h J) w x u) (ht : (tinfo P t).ok = true)
    (hok : loadOk P h t x) : Yields1 P J (Own h J) w (Instr.loadAt t u) (loadV P h t x) := by
  unfold loadOk at hok
  unfold loadV
  split at hok
  · rename_i b i c
    obtain ⟨hi, hc⟩ := hok
    have hg : (hcells h b)[i]? = some ((hcells h b).getD i []) := by simp [List.getD, List.getElem?_eq_getElem hi]
    obtain ⟨k, hk, rfl, hl, hr⟩ := erow_ptr hh hx hg
    obtain ⟨v, hv, hvr⟩ := load_sound (P := P) ht hr hc
    exact ⟨v, by simp only [Instr.loadAt, Instr.sureAddr, Sem.run_bind, Sem.run_pure, Result.andThen_ok, hv], hvr⟩
  · rename_i es i c
    obtain ⟨hi, hc⟩ := hok
    have hg : es[i]? = some (es.getD i []) := by simp [List.getD, List.getElem?_eq_getElem hi]
    obtain ⟨a, rfl, hr⟩ := erow_rop hx hg
    obtain ⟨v, hv, hvr⟩ := load_sound (P := P) ht hr hc
    exact ⟨v, by simp only [Instr.loadAt, Instr.sureAddr, Sem.run_bind, Sem.run_pure, Result.andThen_ok, hv], hvr⟩
  · exact hok.elim

theorem kind_struct {t : TypeId} {f : Nat} (hf : f < (fieldsOf (tinfo P t)).length) : ∃ fs fd, P.underlying t = some (.struct fs) ∧ fs[f]? = some fd ∧ foff (tinfo P t) f = fd.offset ∧ fsz (tinfo P t) f = P.cellsOf fd.type ∧ fty (tinfo P t) f = fd.type ∧ (tinfo P t).ok = true := by
  unfold fieldsOf at hf
  split at hf
  · rename_i l hk
    obtain ⟨d, hu, hd, hok, _⟩ := kind_und hk (by simp)
    cases d with
    | struct fs =>
      simp only [tkOf, TK.struct.injEq] at hd
      subst hd
      simp only [List.length_map, Array.length_toList] at hf
      have hg : fs[f]? = some (fs[f]'hf) := Array.getElem?_eq_getElem hf
      refine ⟨fs, fs[f]'hf, hu, hg, ?_⟩
      simp [foff, fsz, fty, fieldsOf, hk, List.getD, hg, hok]
    | _ => simp [tkOf] at hd
  · simp at hf

theorem fieldAddr_yields {s : TypeId} {f : Nat} {x : AV} {u : Value} (hx : VRel J O w x u) (hf : f < (fieldsOf (tinfo P s)).length) (hsz : 0 < fsz (tinfo P s) f) (hty : (tinfo P (fty (tinfo P s) f)).ok = true)
    (hok : faddrOk x) : Yields1 P J O w (Instr.fieldAt s u f) (faddrV P s f x) := by
  unfold faddrOk at hok
  unfold faddrV
  obtain ⟨fs, fd, hu, hg, h1, h2, h3, h4⟩ := kind_struct hf
  have hrun : ∀ a : Addr, (Instr.fieldAt s (.pointer (some a)) f).run P w = .ok (.pointer (some (a.add fd.offset))) w := by
    intro a
    have hc : (sizeOf fd.type).run P w = .ok (tinfo P fd.type).cells w := run_sizeOf' (by rw [← h3]; exact hty) w
    have hne : ¬ ((tinfo P fd.type).cells = 0) := by
      obtain ⟨d, i, hd, hi, e⟩ := tinfo_ok (by rw [← h3]; exact hty : (tinfo P fd.type).ok = true)
      rw [e]
      simp only
      rw [h2] at hsz
      simp [Program.cellsOf, hi] at hsz
      omega
    simp only [Instr.fieldAt, Sem.run_bind, run_underlying hu, Result.andThen_ok, hg, Instr.sureAddr, Sem.run_pure, fieldPlace, hc, Sem.run_ite, if_neg hne]
  split at hok
  · rename_i b i c
    cases hx with
    | ptr _ _ _ k hb =>
      refine ⟨_, hrun _, ?_⟩
      rw [h1, add_mk, show k.base + (i * k.n + c) + fd.offset = k.base + (i * k.n + (c + fd.offset)) by omega]
      exact .ptr _ _ _ k hb
  · rename_i es i c
    cases hx with
    | rop _ _ _ a n g hn hO hl hc ho hh =>
      refine ⟨_, hrun _, ?_⟩
      rw [h1, add_add', show i * n + c + fd.offset = i * n + (c + fd.offset) by omega]
      exact .rop _ _ _ a n g hn hO hl hc ho hh
  · exact hok.elim

theorem field_yields {s : TypeId} {f : Nat} {x : AV} {u : Value} (hx : VRel J O w x u) (hf : f < (fieldsOf (tinfo P s)).length) (hty : (tinfo P (fty (tinfo P s) f)).ok = true)
    (hok : fieldOk P s f x) : Yields1 P J O w (Instr.field s u f) (fieldV P s f x) := by
  unfold fieldOk at hok
  unfold fieldV
  obtain ⟨fs, fd, hu, hg, h1, h2, h3, h4⟩ := kind_struct hf
  split at hok
  · rename_i cs
    rw [h3] at hty hok ⊢
    rw [h1] at hok ⊢
    obtain ⟨vs, rfl, r, hr, hrv⟩ := part_sound (P := P) hty hx hok
    exact ⟨r, by simp only [Instr.field, Sem.run_bind, run_underlying hu, Result.andThen_ok, hg, asAgg, Sem.run_pure, hr], hrv⟩
  · exact hok.elim

theorem kind_array {t : TypeId} {n : Nat} {e : TypeId} (h : (tinfo P t).kind = .array n e) : P.underlying t = some (.array n e) ∧ (tinfo P t).ok = true := by
  obtain ⟨d, hu, hd, hok, _⟩ := kind_und h (by simp)
  cases d <;> simp [tkOf] at hd
  obtain ⟨rfl, rfl⟩ := hd
  exact ⟨hu, hok⟩
theorem kind_string {t : TypeId} (h : (tinfo P t).kind = .string) : P.underlying t = some .string ∧ (tinfo P t).ok = true := by
  obtain ⟨d, hu, hd, hok, _⟩ := kind_und h (by simp)
  cases d <;> simp [tkOf] at hd
  exact ⟨hu, hok⟩
theorem kind_map {t k e : TypeId} (h : (tinfo P t).kind = .map k e) : P.underlying t = some (.map k e) ∧ (tinfo P t).ok = true := by
  obtain ⟨d, hu, hd, hok, _⟩ := kind_und h (by simp)
  cases d <;> simp [tkOf] at hd
  obtain ⟨rfl, rfl⟩ := hd
  exact ⟨hu, hok⟩

theorem hsz_n (hh : HRel gl h J w) {b : Nat} {k : Blk} (hb : J[b]? = some k) (hp : 0 < hsz h b) : ∃ es, h[b]? = some (.cells k.n es) ∧ hsz h b = k.n ∧ hcells h b = es := by
  unfold hsz at hp
  split at hp
  · rename_i n es he
    obtain ⟨hkn, hn, hcap, hlen, _⟩ := hh.obj b k _ hb he
    subst hkn
    exact ⟨es, he, by simp [hsz, he], by simp [hcells, he]⟩
  · simp at hp

theorem indexAddr_yields (hh : HRel gl h J w) {t : TypeId} {x y : AV} {u v : Value} (hx : VRel J (Own h J) w x u) (hy : VRel J (Own h J) w y v) (hi : isInt y) (h0 : 0 ≤ aint y)
    (hok : iaddrOk P h (tinfo P t).kind x (aint y)) : Yields1 P J (Own h J) w (Instr.indexAt t u v) (iaddrV P (tinfo P t).kind x (aint y)) := by
  unfold iaddrOk at hok
  unfold iaddrV
  obtain ⟨k, rfl⟩ := int_of hy hi
  generalize aint y = n at *
  split at hok
  · rename_i e b off len hk
    obtain ⟨he, h1, h2, h3⟩ := hok
    obtain ⟨hu, _⟩ := kind_slice hk
    cases hx with
    | own _ _ _ kb a cap hb ha hlen hcap =>
      have hp : 0 < hsz h b := by
        have h4 : 0 < (hcells h b).length := by omega
        unfold hcells at h4
        unfold hsz
        split at h4
        · rename_i n' es he'
          obtain ⟨hkn, hn, _⟩ := hh.obj b kb _ hb he'
          first | omega | (simp only [he']; omega)
        · simp at h4
      obtain ⟨es, _, hn, _⟩ := hsz_n hh hb hp
      have hsz := run_sizeOf' he w
      rw [← h3, hn] at hsz
      have ha' := ha (by omega)
      refine ⟨_, ?_, .ptr b (off + n.toNat) 0 kb hb⟩
      simp only [Instr.indexAt, asIntOf, Sem.run_bind, Sem.run_pure, Result.andThen_ok, run_underlying hu]
      rw [Sem.run_ite, if_pos ⟨h0, h1⟩]
      simp only [Sem.run_bind, hsz, Result.andThen_ok, Sem.run_pure]
      rw [ha', add_mk, show kb.base + off * kb.n + n.toNat * kb.n = kb.base + ((off + n.toNat) * kb.n + 0) by rw [Nat.add_mul]; omega]
  · rename_i e es hk
    obtain ⟨he, h1, h2⟩ := hok
    obtain ⟨hu, _⟩ := kind_slice hk
    cases hx with
    | roNil => simp at h1; omega
    | ro _ a m cap f hcap hn hO hl hc ho hr =>
      have hlt : n.toNat < es.length := by omega
      have hg : es[n.toNat]? = some (es.getD n.toNat []) := by simp [List.getD, List.getElem?_eq_getElem hlt]
      have hm := hl _ _ hg
      have hsz := run_sizeOf' he w
      rw [← h2, hm] at hsz
      refine ⟨_, ?_, .rop es n.toNat 0 a m f hn hO hl hc ho hr⟩
      simp only [Instr.indexAt, asIntOf, Sem.run_bind, Sem.run_pure, Result.andThen_ok, run_underlying hu]
      rw [Sem.run_ite, if_pos ⟨h0, h1⟩]
      simp only [Sem.run_bind, hsz, Result.andThen_ok, Sem.run_pure, Nat.add_zero]
  · rename_i m e b i c hk
    obtain ⟨he, h1⟩ := hok
    obtain ⟨hu, _⟩ := kind_array hk
    cases hx with
    | ptr _ _ _ kb hb =>
      refine ⟨_, ?_, .ptr b i (c + n.toNat * (tinfo P e).cells) kb hb⟩
      simp only [Instr.indexAt, asIntOf, Instr.sureAddr, Sem.run_bind, Sem.run_pure, Result.andThen_ok, run_underlying hu]
      rw [Sem.run_ite, if_pos ⟨h0, h1⟩]
      simp only [Sem.run_bind, run_sizeOf' he, Result.andThen_ok, Sem.run_pure]
      rw [add_mk, show kb.base + (i * kb.n + c) + n.toNat * (tinfo P e).cells = kb.base + (i * kb.n + (c + n.toNat * (tinfo P e).cells)) by omega]
  · rename_i m e es i c hk
    obtain ⟨he, h1⟩ := hok
    obtain ⟨hu, _⟩ := kind_array hk
    cases hx with
    | rop _ _ _ a q f hn hO hl hc ho hr =>
      refine ⟨_, ?_, .rop es i (c + n.toNat * (tinfo P e).cells) a q f hn hO hl hc ho hr⟩
      simp only [Instr.indexAt, asIntOf, Instr.sureAddr, Sem.run_bind, Sem.run_pure, Result.andThen_ok, run_underlying hu]
      rw [Sem.run_ite, if_pos ⟨h0, h1⟩]
      simp only [Sem.run_bind, run_sizeOf' he, Result.andThen_ok, Sem.run_pure]
      rw [add_add', show i * q + c + n.toNat * (tinfo P e).cells = i * q + (c + n.toNat * (tinfo P e).cells) by omega]
  · exact hok.elim

theorem index_yields {t : TypeId} {x y : AV} {u v : Value} (hx : VRel J O w x u) (hy : VRel J O w y v) (hi : isInt y) (h0 : 0 ≤ aint y)
    (hok : indexOk P (tinfo P t).kind x (aint y)) : Yields1 P J O w (Instr.index t u v) (indexV P (tinfo P t).kind x (aint y)) := by
  unfold indexOk at hok
  unfold indexV
  obtain ⟨k, rfl⟩ := int_of hy hi
  generalize aint y = n at *
  split at hok
  · rename_i s hk
    obtain ⟨hu, _⟩ := kind_string hk
    cases hx
    have hlt : n.toNat < s.length := by omega
    refine ⟨_, ?_, .int _ _⟩
    have e1 : (⟨s.toArray⟩ : ByteArray)[n.toNat]? = some (s[n.toNat]'hlt) := by
      rw [ByteArray.getElem?_lt' _ _ (by simpa [ByteArray.size] using hlt)]
      rfl
    simp only [Instr.index, asIntOf, Sem.run_bind, Sem.run_pure, Result.andThen_ok, run_underlying hu, if_pos h0, e1]
    simp [List.getD, hlt]
  · rename_i m e cs hk
    obtain ⟨he, h1, h2⟩ := hok
    obtain ⟨hu, _⟩ := kind_array hk
    obtain ⟨vs, rfl, r, hr, hrv⟩ := part_sound (P := P) he hx h2
    refine ⟨r, ?_, hrv⟩
    simp only [Instr.index, asIntOf, Sem.run_bind, Sem.run_pure, Result.andThen_ok, run_underlying hu]
    rw [Sem.run_ite, if_pos ⟨h0, h1⟩]
    simp only [Sem.run_bind, run_sizeOf' he, Result.andThen_ok, hr]
  · exact hok.elim

end
end Go.Abs
end
