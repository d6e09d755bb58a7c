/-
  Maps: a key is looked for.
-/
import Derived.Test.YtcbaojkchiphkaaAbsSound3
set_option linter.unusedVariables false
set_option linter.unusedSimpArgs false
namespace Go.Abs
open Go

section
variable {P : Program} {gl : Globs} {J : List Blk} {h : AHeap} {w : World} {O : Nat → Prop} {fr : AFrame}

theorem run_checkKey_basic (em : Bool) (m : Nat) (t : TypeId) (v : Value) {d : TypeDesc} (hu : P.underlying t = some d) (hd : (∃ k, d = .int k) ∨ d = .string ∨ d = .bool) :
    (Instr.checkKey em (m + 1) t v).run P w = .ok () w := by
  rcases hd with ⟨k, rfl⟩ | rfl | rfl <;>
  · simp only [Instr.checkKey, Sem.run_bind, run_underlying hu, Result.andThen_ok]
    cases v <;> rfl

theorem check_flat (em : Bool) : ∀ (d : Nat) (t : TypeId) (bs : List BK), flat P d t = some bs → ∀ (xs : List AV) (us : List Value) (off : Nat) (m : Nat), d ≤ m → xs.length = bs.length → Shows J O w xs us off →
    (part t us.toArray off >>= fun a => Instr.checkKey em m t a).run P w = .ok () w
  | 0, _, _, hf => by simp [flat] at hf
  | d + 1, t, bs, hf => by
    intro xs us off m hm hl hxs
    obtain ⟨m, rfl⟩ : ∃ m', m = m' + 1 := ⟨m - 1, by omega⟩
    by_cases hst : ∃ fs, P.underlying t = some (.struct fs)
    · obtain ⟨fs, hu⟩ := hst
      have hf' := hf
      unfold flat at hf'
      cases hi : P.info? t with
      | none => simp [hu, hi] at hf'
      | some i =>
      simp only [hu, hi] at hf'
      split at hf'
      · simp at hf'
      split at hf'
      · rename_i r hr
        split at hf'
        · rename_i hlen
          injection hf' with hf'
          subst hf'
          have hp1 : (part t us.toArray off).run P w = .ok (.agg (us.toArray.extract off (off + r.length))) w := by
            simp only [part, Sem.run_bind, run_isAgg_of hu, Result.andThen_ok, aggOf, if_true, sizeOf, typeInfo, run_program, hi, Sem.run_pure, hlen]
          rw [Sem.run_bind, hp1, Result.andThen_ok]
          have e1 : us.toArray.extract off (off + r.length) = ((us.drop off).take r.length).toArray := by
            simp [List.extract_toArray, List.extract_eq_take_drop]
          rw [e1]
          have s1 : Shows J O w xs ((us.drop off).take r.length) 0 := by
            intro i x hx
            obtain ⟨u, h1, h2⟩ := hxs i x hx
            have hi' : i < r.length := by
              rw [← hl]
              exact (List.getElem?_eq_some_iff.1 hx).1
            exact ⟨u, by rw [Nat.zero_add, List.getElem?_take_of_lt hi', List.getElem?_drop]; exact h1, h2⟩
          generalize (us.drop off).take r.length = us' at s1 ⊢
          simp only [Instr.checkKey, Sem.run_bind, run_underlying hu, Result.andThen_ok]
          rw [← Array.forIn_toList]
          have key : ∀ (l : List Field) (o : Nat) (r : List BK), flatFields (flat P d) o l = some r → ∀ (xs : List AV), xs.length = r.length → Shows J O w xs us' o → ∀ (body : Field → PUnit → Sem (ForInStep PUnit)),
              (∀ f u, f ∈ l → (body f u) = (if f.name ≠ "_" then (do let a ← part f.type us'.toArray f.offset; Instr.checkKey em m f.type a; pure (ForInStep.yield PUnit.unit)) else pure (ForInStep.yield PUnit.unit))) →
              (forIn l PUnit.unit body).run P w = .ok PUnit.unit w := by
            intro l
            induction l with
            | nil => intro o r hr xs hl _ body hb; simp
            | cons f l ih =>
              intro o r hr xs hl hx body hb
              unfold flatFields at hr
              split at hr
              · rename_i hname
                split at hr
                · rename_i b hb'
                  split at hr
                  · rename_i r' hr'
                    injection hr with hr
                    subst hr
                    simp only [List.length_append] at hl
                    have h1 := check_flat em d f.type b hb' (xs.take b.length) us' f.offset m (by omega) (by simp; omega) (by rw [hname.2]; exact shows_take hx)
                    have h2 := ih (o + b.length) r' hr' (xs.drop b.length) (by simp; omega) (shows_drop hx) body (fun f' u hf' => hb f' u (by simp [hf']))
                    simp only [List.forIn_cons, Sem.run_bind]
                    rw [hb f _ (by simp), if_pos hname.1]
                    simp only [Sem.run_bind] at h1 ⊢
                    generalize (part f.type us'.toArray f.offset).run P w = r1 at h1 ⊢
                    cases r1 with
                    | halt => simp [Result.andThen] at h1
                    | ok a w1 =>
                      simp only [Result.andThen_ok] at h1 ⊢
                      rw [h1]
                      simpa using h2
                  · simp at hr
                · simp at hr
              · simp at hr
          have := key fs.toList 0 r hr xs hl s1 (fun f r => if f.name ≠ "_" then (do let a ← part f.type us'.toArray f.offset; Instr.checkKey em m f.type a; pure (ForInStep.yield PUnit.unit)) else pure (ForInStep.yield PUnit.unit)) (fun _ _ _ => rfl)
          rw [this]
          rfl
        · simp at hf'
      · simp at hf'
    · by_cases har : ∃ n e, P.underlying t = some (.array n e)
      · obtain ⟨len, e, hu⟩ := har
        have hf' := hf
        unfold flat at hf'
        cases hi : P.info? t with
        | none => simp [hu, hi] at hf'
        | some i =>
        simp only [hu, hi] at hf'
        split at hf'
        · rename_i r hr
          split at hf'
          · rename_i hlen
            injection hf' with hf'
            have hsz : (sizeOf e).run P w = .ok r.length w := by
              have h0 := hlen.2
              cases d with
              | zero => simp [flat] at hr
              | succ d =>
                cases hie : P.info? e with
                | none =>
                  unfold flat at hr
                  rw [hie] at hr
                  cases hue : P.underlying e <;> simp [hue] at hr
                | some ie => simp [Program.cellsOf, hie] at h0; simp [sizeOf, typeInfo, hie, h0]
            have hbl : bs.length = i.size := by
              rw [← hf', ← hlen.1, List.length_flatMap, List.map_const', List.length_range, List.sum_replicate_nat]
            have hp : (part t us.toArray off).run P w = .ok (.agg (us.toArray.extract off (off + bs.length))) w := by
              simp only [part, Sem.run_bind, run_isAgg_of hu, Result.andThen_ok, aggOf, if_true, sizeOf, typeInfo, run_program, hi, Sem.run_pure, hbl]
            rw [Sem.run_bind, hp, Result.andThen_ok]
            have e1 : us.toArray.extract off (off + bs.length) = ((us.drop off).take bs.length).toArray := by
              simp [List.extract_toArray, List.extract_eq_take_drop]
            rw [e1]
            have s1 : Shows J O w xs ((us.drop off).take bs.length) 0 := by
              intro i x hx
              obtain ⟨u, h1, h2⟩ := hxs i x hx
              have hi' : i < bs.length := by
                rw [← hl]
                exact (List.getElem?_eq_some_iff.1 hx).1
              exact ⟨u, by rw [Nat.zero_add, List.getElem?_take_of_lt hi', List.getElem?_drop]; exact h1, h2⟩
            generalize (us.drop off).take bs.length = us' at s1 ⊢
            simp only [Instr.checkKey, Sem.run_bind, run_underlying hu, Result.andThen_ok]
            simp only [Std.Legacy.Range.forIn_eq_forIn_range', Std.Legacy.Range.size, Nat.sub_zero, Nat.add_sub_cancel, Nat.div_one]
            have key : ∀ (k s : Nat) (xs : List AV), xs.length = k * r.length → Shows J O w xs us' (s * r.length) → ∀ (body : Nat → PUnit → Sem (ForInStep PUnit)),
                (∀ i u, (body i u).run P w = (do let n ← sizeOf e; let a ← part e us'.toArray (i * n); Instr.checkKey em m e a; pure (ForInStep.yield PUnit.unit)).run P w) →
                (forIn (List.range' s k) PUnit.unit body).run P w = .ok PUnit.unit w := by
              intro k
              induction k with
              | zero => intro s xs _ _ body _; simp
              | succ k ih =>
                intro s xs hlx hx body hb
                rw [Nat.add_mul, Nat.one_mul] at hlx
                have h1 := check_flat em d e r hr (xs.take r.length) us' (s * r.length) m (by omega) (by simp; omega) (shows_take hx)
                have h2 := ih (s + 1) (xs.drop r.length) (by simp; omega) (by rw [Nat.add_mul, Nat.one_mul]; exact shows_drop hx) body hb
                rw [List.range'_succ]
                simp only [List.forIn_cons, Sem.run_bind]
                rw [hb s _]
                simp only [Sem.run_bind, hsz, Result.andThen_ok] at h1 ⊢
                generalize (part e us'.toArray (s * r.length)).run P w = r1 at h1 ⊢
                cases r1 with
                | halt => simp [Result.andThen] at h1
                | ok a w1 =>
                  simp only [Result.andThen_ok] at h1 ⊢
                  rw [h1]
                  simpa using h2
            have hb' : bs.length = len * r.length := by rw [hbl, ← hlen.1]
            rw [key len 0 xs (by rw [hl, hb']) (by simpa using s1) _ (fun i u => by simp only [Sem.run_bind, hsz, Result.andThen_ok])]
            rfl
          · simp at hf'
        · simp at hf'
      · have hb := flat_basic hf (fun fs h => hst ⟨fs, h⟩) (fun n e h => har ⟨n, e, h⟩)
        have hd : ∃ dd, P.underlying t = some dd ∧ ((∃ k, dd = .int k) ∨ dd = .string ∨ dd = .bool) ∧ bs.length = 1 := by
          rcases hb with ⟨k, hu, rfl⟩ | ⟨hu, rfl⟩ | ⟨hu, rfl⟩
          · exact ⟨_, hu, .inl ⟨k, rfl⟩, rfl⟩
          · exact ⟨_, hu, .inr (.inl rfl), rfl⟩
          · exact ⟨_, hu, .inr (.inr rfl), rfl⟩
        obtain ⟨dd, hu, hdd, hbl⟩ := hd
        obtain ⟨x, rfl⟩ := List.length_eq_one_iff.1 (hl.trans hbl)
        obtain ⟨u, h1, h2⟩ := hxs 0 x (by simp)
        have hp : (part t us.toArray off).run P w = .ok u w := by
          have hag : aggOf dd = false := by rcases hdd with ⟨k, rfl⟩ | rfl | rfl <;> rfl
          simp only [part, Sem.run_bind, run_isAgg_of hu, Result.andThen_ok, hag, Bool.false_eq_true, if_false]
          have : us.toArray[off]? = some u := by simpa using h1
          rw [this]; rfl
        rw [Sem.run_bind, hp, Result.andThen_ok, run_checkKey_basic em m t u hu hdd]

theorem check_key (em : Bool) {t : TypeId} {k : AV} {v : Value} {kvs : List (AV × AV)} (hk : keysOk P t k kvs) (hv : VRel J O w k v) : (Instr.checkKey em 10000 t v).run P w = .ok () w := by
  obtain ⟨ha, bs, hf, hc, hxx⟩ := hk
  clear hxx
  have hl := (cok_len _ _ _ hc).1
  have hok := flat_ok hf
  have hcells := flat_cells hf
  unfold aggFit at ha
  cases hag : (tinfo P t).agg with
  | true =>
    rw [hag] at ha
    cases k <;> simp only at ha
    rename_i xs
    simp only [acells] at hl
    cases hv with
    | agg _ us hl1 ho1 h1 =>
      have h0 := check_flat (P := P) em 50 t bs hf xs us 0 10000 (by omega) hl (shows_of_vrels hl1 h1)
      have p1 : (part t us.toArray 0).run P w = .ok (.agg us.toArray) w := by
        simp only [part, Sem.run_bind, run_isAgg' hok, hag, Result.andThen_ok, if_true, run_sizeOf' hok, hcells, Sem.run_pure]
        congr 2
        simp [← hl, hl1]
      rwa [Sem.run_bind, p1, Result.andThen_ok] at h0
  | false =>
    rw [hag] at ha
    have hnx : ∀ cs, k ≠ .agg cs := by rintro cs rfl; simp at ha
    rw [vrel_cells hv hnx] at hl
    have h0 := check_flat (P := P) em 50 t bs hf [k] [v] 0 10000 (by omega) hl (shows_of_vrels rfl (VRels.cons hv .nil).2)
    have p1 : (part t [v].toArray 0).run P w = .ok v w := by
      simp [part, run_isAgg' hok, hag]
    rwa [Sem.run_bind, p1, Result.andThen_ok] at h0

/-- The place of a key. -/
def aidx (kvs : List (AV × AV)) (k : AV) : Option Nat := kvs.findIdx? fun p => ceq (acells k) (acells p.1)

theorem cok_trans {bs : List BK} : ∀ {xs ys : List AV}, cok bs xs xs → cok bs ys ys → (∀ (i : Nat) (b : BK) (x y : AV), bs[i]? = some b → xs[i]? = some x → ys[i]? = some y → cok1 b x y) → cok bs xs ys := by
  induction bs with
  | nil =>
    intro xs ys hx hy _
    have h1 := (cok_len _ _ _ hx).1
    have h2 := (cok_len _ _ _ hy).1
    simp at h1 h2
    subst h1; subst h2
    trivial
  | cons b bs ih =>
    intro xs ys hx hy hh
    cases xs with
    | nil => simp [cok] at hx
    | cons x xs =>
      cases ys with
      | nil => simp [cok] at hy
      | cons y ys =>
        simp only [cok] at hx hy ⊢
        exact ⟨hh 0 b x y rfl rfl rfl, ih hx.2 hy.2 fun i b' x' y' h1 h2 h3 => hh (i + 1) b' x' y' (by simpa using h1) (by simpa using h2) (by simpa using h3)⟩

theorem cok1_of {b : BK} {x x' y y' : AV} (h1 : cok1 b x x') (h2 : cok1 b y y') (hk : ∀ k k' n n', x = .int k n → y = .int k' n' → k = k') : cok1 b x y := by
  unfold cok1 at h1
  split at h1 <;> first | (rename_i h; exact h1.elim) | skip
  · unfold cok1 at h2
    split at h2 <;> first | (rename_i h; cases h; done) | exact h2.elim | skip
    · exact hk _ _ _ _ rfl rfl
  · unfold cok1 at h2
    split at h2 <;> first | (rename_i h; cases h; done) | exact h2.elim | trivial
  · unfold cok1 at h2
    split at h2 <;> first | (rename_i h; cases h; done) | exact h2.elim | trivial

theorem sameNow_sound {t : TypeId} {d : TypeDesc} (hu : P.underlying t = some d) {k p : AV} {u v : Value} (hk : VRel J O w k u) (hp : VRel J O w p v) {bs : List BK} (hf : flat P 50 t = some bs) (hak : aggFit (tinfo P t) k) (hap : aggFit (tinfo P t) p)
    (hc : cok bs (acells k) (acells p)) : Instr.sameNow d u v = some (ceq (acells k) (acells p)) ∨ Instr.sameNow d u v = none := by
  cases d with
  | int kd =>
    have hag : (tinfo P t).agg = false := by
      obtain ⟨d', i, hd, hi, e⟩ := tinfo_ok (flat_ok hf)
      rw [e]; rw [hu] at hd; injection hd with hd; subst hd; rfl
    unfold aggFit at hak hap
    rw [hag] at hak hap
    have hnk : ∀ cs, k ≠ .agg cs := by rintro cs rfl; simp at hak
    have hnp : ∀ cs, p ≠ .agg cs := by rintro cs rfl; simp at hap
    rw [vrel_cells hk hnk, vrel_cells hp hnp] at hc ⊢
    obtain ⟨b, rfl⟩ := List.length_eq_one_iff.1 ((cok_len _ _ _ hc).1.symm)
    simp only [cok, and_true] at hc
    unfold cok1 at hc
    split at hc
    · cases hk; cases hp
      subst hc
      left; simp [Instr.sameNow, ceq, ceq1]
    · right; cases hk; cases hp; rfl
    · right; cases hk; cases hp; rfl
    · exact hc.elim
  | string =>
    have hag : (tinfo P t).agg = false := by
      obtain ⟨d', i, hd, hi, e⟩ := tinfo_ok (flat_ok hf)
      rw [e]; rw [hu] at hd; injection hd with hd; subst hd; rfl
    unfold aggFit at hak hap
    rw [hag] at hak hap
    have hnk : ∀ cs, k ≠ .agg cs := by rintro cs rfl; simp at hak
    have hnp : ∀ cs, p ≠ .agg cs := by rintro cs rfl; simp at hap
    rw [vrel_cells hk hnk, vrel_cells hp hnp] at hc ⊢
    obtain ⟨b, rfl⟩ := List.length_eq_one_iff.1 ((cok_len _ _ _ hc).1.symm)
    simp only [cok, and_true] at hc
    unfold cok1 at hc
    split at hc
    · right; cases hk; cases hp; rfl
    · cases hk; cases hp
      left
      simp [Instr.sameNow, ceq, ceq1, beq_toListBytes, str_val]
    · right; cases hk; cases hp; rfl
    · exact hc.elim
  | bool =>
    have hag : (tinfo P t).agg = false := by
      obtain ⟨d', i, hd, hi, e⟩ := tinfo_ok (flat_ok hf)
      rw [e]; rw [hu] at hd; injection hd with hd; subst hd; rfl
    unfold aggFit at hak hap
    rw [hag] at hak hap
    have hnk : ∀ cs, k ≠ .agg cs := by rintro cs rfl; simp at hak
    have hnp : ∀ cs, p ≠ .agg cs := by rintro cs rfl; simp at hap
    rw [vrel_cells hk hnk, vrel_cells hp hnp] at hc ⊢
    obtain ⟨b, rfl⟩ := List.length_eq_one_iff.1 ((cok_len _ _ _ hc).1.symm)
    simp only [cok, and_true] at hc
    unfold cok1 at hc
    split at hc
    · right; cases hk; cases hp; rfl
    · right; cases hk; cases hp; rfl
    · cases hk; cases hp
      left
      simp [Instr.sameNow, ceq, ceq1]
    · exact hc.elim
  | _ => right; cases u <;> cases v <;> rfl

/-- What is found of a key. -/
def foundAt (kvs : List (AV × AV)) (k : AV) (es : List MapEntry) (i : Nat) : Option (Nat × Value) := match aidx kvs k with
  | some j => (es[j]?).map fun e => (i + j, e.val)
  | none => none

theorem foundAt_cons_hit {p : AV × AV} {kvs : List (AV × AV)} {k : AV} {e : MapEntry} {es : List MapEntry} {i : Nat} (h : ceq (acells k) (acells p.1) = true) : foundAt (p :: kvs) k (e :: es) i = some (i, e.val) := by
  simp [foundAt, aidx, List.findIdx?_cons, h]
theorem foundAt_cons_miss {p : AV × AV} {kvs : List (AV × AV)} {k : AV} {e : MapEntry} {es : List MapEntry} {i : Nat} (h : ceq (acells k) (acells p.1) = false) : foundAt (p :: kvs) k (e :: es) i = foundAt kvs k es (i + 1) := by
  simp only [foundAt, aidx, List.findIdx?_cons, h, Bool.false_eq_true, if_false]
  cases hx : kvs.findIdx? (fun p => ceq (acells k) (acells p.1)) with
  | none => simp
  | some j =>
    simp only [Option.map_some, List.getElem?_cons_succ]
    cases es[j]? with
    | none => rfl
    | some e => simp only [Option.map_some, Option.some.injEq, Prod.mk.injEq, and_true]; omega

theorem findAsking_sound {t : TypeId} {k : AV} {u : Value} (hk : VRel J O w k u) : ∀ (kvs : List (AV × AV)) (es : List MapEntry) (i : Nat), keysOk P t k kvs → es.length = kvs.length →
    (∀ (i : Nat) (e : MapEntry) (p : AV × AV), es[i]? = some e → kvs[i]? = some p → VRel J O w p.1 e.key) → (Instr.findAsking t u es i).run P w = .ok (foundAt kvs k es i) w
  | [], [], i, _, _, _ => by simp [Instr.findAsking, foundAt, aidx]
  | [], _ :: _, _, _, h, _ => by simp at h
  | _ :: _, [], _, _, h, _ => by simp at h
  | p :: kvs, e :: es, i, hok, hl, hr => by
    obtain ⟨ha, bs, hf, hc, hall⟩ := hok
    obtain ⟨hap, hcp⟩ := hall p (by simp)
    have he := equal_vals (P := P) hf hk (hr 0 e p rfl rfl) ha hap hcp 10000 (by omega)
    have he' : (Op.equal t u e.key).run P w = .ok (ceq (acells k) (acells p.1)) w := he
    simp only [Instr.findAsking, Sem.run_bind, he', Result.andThen_ok]
    cases hcc : ceq (acells k) (acells p.1) with
    | true => rw [foundAt_cons_hit hcc]; simp
    | false =>
      rw [foundAt_cons_miss hcc]
      simp only [Bool.false_eq_true, if_false]
      exact findAsking_sound hk kvs es (i + 1) ⟨ha, bs, hf, hc, fun q hq => hall q (by simp [hq])⟩ (by simpa using hl) (fun j e' p' h1 h2 => hr (j + 1) e' p' (by simpa using h1) (by simpa using h2))

theorem findNow_sound {t : TypeId} {d : TypeDesc} (hu : P.underlying t = some d) {k : AV} {u : Value} (hk : VRel J O w k u) : ∀ (kvs : List (AV × AV)) (es : List MapEntry) (i : Nat), keysOk P t k kvs → es.length = kvs.length →
    (∀ (i : Nat) (e : MapEntry) (p : AV × AV), es[i]? = some e → kvs[i]? = some p → VRel J O w p.1 e.key) → Instr.findNow d u es i = some (foundAt kvs k es i) ∨ Instr.findNow d u es i = none
  | [], [], i, _, _, _ => by simp [Instr.findNow, foundAt, aidx]
  | [], _ :: _, _, _, h, _ => by simp at h
  | _ :: _, [], _, _, h, _ => by simp at h
  | p :: kvs, e :: es, i, hok, hl, hr => by
    obtain ⟨ha, bs, hf, hc, hall⟩ := hok
    obtain ⟨hap, hcp⟩ := hall p (by simp)
    rcases sameNow_sound hu hk (hr 0 e p rfl rfl) hf ha hap hcp with h1 | h1
    · simp only [Instr.findNow, h1]
      cases hcc : ceq (acells k) (acells p.1) with
      | true => left; rw [foundAt_cons_hit hcc]
      | false =>
        rw [foundAt_cons_miss hcc]
        exact findNow_sound hu hk kvs es (i + 1) ⟨ha, bs, hf, hc, fun q hq => hall q (by simp [hq])⟩ (by simpa using hl) (fun j e' p' h1 h2 => hr (j + 1) e' p' (by simpa using h1) (by simpa using h2))
    · right; simp [Instr.findNow, h1]

theorem findKey_sound {t : TypeId} {k : AV} {u : Value} (hk : VRel J O w k u) {kvs : List (AV × AV)} {es : List MapEntry} (hok : keysOk P t k kvs) (hl : es.length = kvs.length)
    (hr : ∀ (i : Nat) (e : MapEntry) (p : AV × AV), es[i]? = some e → kvs[i]? = some p → VRel J O w p.1 e.key) : (Instr.findKey t u es).run P w = .ok (foundAt kvs k es 0) w := by
  obtain ⟨d, i, hu, _, _⟩ := tinfo_ok (flat_ok hok.2.choose_spec.1)
  simp only [Instr.findKey, Sem.run_bind, run_underlying hu, Result.andThen_ok]
  rcases findNow_sound hu hk kvs es 0 hok hl hr with h1 | h1
  · rw [h1]; rfl
  · rw [h1]; exact findAsking_sound hk kvs es 0 hok hl hr

theorem azero_sound {t : TypeId} (hz : zeroOk (tinfo P t)) : ∃ z, (zeroValue t).run P w = .ok z w ∧ VRel J O w (azero (tinfo P t)) z := by
  obtain ⟨hok, hzok, hl⟩ := hz
  obtain ⟨z, h1, h2, h3, h4⟩ := run_zeroValue' hok hzok w
  refine ⟨z, h1, ?_⟩
  unfold azero
  have hr := vrels_ofV1 (J := J) (O := O) (w := w) h2
  rw [← h3] at hr
  cases hag : (tinfo P t).agg with
  | true =>
    rw [hag] at h4
    cases z <;> simp [isAggV] at h4
    rename_i cs
    have e : cs = cs.toList.toArray := by simp
    simp only [Value.cells] at hr h2
    conv => rhs; rw [e]
    exact .agg _ _ hr.1 h2 hr.2
  | false =>
    rw [hag] at h4
    have hc : z.cells.toList = [z] := by cases z <;> first | rfl | simp [isAggV] at h4
    rw [hc] at h3 hr
    rw [h3]
    exact hr.2 0 _ z (by rw [h3]; rfl) rfl
end
end Go.Abs
