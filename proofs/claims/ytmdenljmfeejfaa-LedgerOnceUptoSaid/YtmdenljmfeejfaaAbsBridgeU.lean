/-
  From a statement's arguments to abstract values, where what is read is of bounded bulk.
-/
import Derived.Test.YtmdenljmfeejfaaAbsBridge
set_option linter.unusedVariables false
set_option linter.unusedSimpArgs false
namespace Go.Abs
open Go Go.ChangeShapes Go.WideShapes Go.RowKit

/-- The same with at most N elements in each slice. -/
def Sh.okN (N : Nat) : Sh → List AV → Prop
  | .sl e, es => ∃ l : List (List AV), es = [.ro l] ∧ l.length ≤ N ∧ ∀ x ∈ l, e.okN N x
  | .st f, es => f.okN N es
  | .cons a r, es => ∃ x y, es = x ++ y ∧ x.length = a.n ∧ a.okN N x ∧ r.okN N y
  | _, _ => True
/-- How much a reading holds: no part more than the whole. -/
structure BulkOk {H : Type} (B : DataW H → Nat) : Prop where
  sl : ∀ elems spare, elems.length ≤ B (.slice elems spare)
  el : ∀ elems spare d, d ∈ elems → B d ≤ B (.slice elems spare)
  ag : ∀ parts d, d ∈ parts → B d ≤ B (.agg parts)

section
variable {H : Type} {enc : TypeId × Value → H} {P : Program} {w : World} {O : Nat → Prop} {J : List Blk}
theorem trod_structU {t : TypeId} {fs : Array Field} {fuel : Nat} {cs : List Value} {x : DataW H × List MemPlace} (ht : P.underlying t = some (.struct fs)) (h : DataW.trod enc P w 0 (fun _ => true) true fuel t cs = some x) :
    ∃ (xs : List (DataW H × List MemPlace)) (n : Nat), cs.length = P.cellsOf t ∧ (fs.toList.mapM fun f => DataW.trod enc P w 0 (fun _ => true) true n f.type ((cs.drop f.offset).take (P.cellsOf f.type))) = some xs ∧ x.1 = .agg (xs.map (·.1)) := by
  cases fuel with
  | zero => simp [DataW.trod] at h
  | succ n =>
    unfold DataW.trod at h
    rw [ht] at h
    split at h <;> simp_all
    obtain ⟨hl, xs, hp, hd⟩ := h
    exact ⟨xs, ⟨n, hp⟩, by rw [← hd]⟩

/-- What a reading gives. -/
theorem trod_cellsU (hO : ∀ r, r < w.heap.size → ¬ O r) (sh : Sh) :
    (∀ (t : TypeId) (cs : List Value) (fuel : Nat) (x : DataW H × List MemPlace), sh.isTy = true → sh.is P t [] 0 = true → DataW.trod enc P w 0 (fun _ => true) true fuel t cs = some x →
      ∃ es, sh.ok es ∧ CRel J O w es cs ∧ es.length = sh.n ∧ ∀ B : DataW H → Nat, BulkOk B → ∀ N, B x.1 ≤ N → sh.okN N es) ∧
    (∀ (fs : List Field) (o : Nat) (cs : List Value) (n : Nat) (xs : List (DataW H × List MemPlace)), sh.is P 0 fs o = true → sh.isTy = false →
      (fs.mapM fun f => DataW.trod enc P w 0 (fun _ => true) true n f.type ((cs.drop f.offset).take (P.cellsOf f.type))) = some xs → cs.length = o + sh.n →
      ∃ es, sh.ok es ∧ CRel J O w es (cs.drop o) ∧ es.length = sh.n ∧ ∀ B : DataW H → Nat, BulkOk B → ∀ N, (∀ y ∈ xs, B y.1 ≤ N) → sh.okN N es) := by
  induction sh with
  | bool =>
    refine ⟨fun t cs fuel x _ hi h => ?_, fun _ _ _ _ _ _ h => by simp [Sh.isTy] at h⟩
    simp only [Sh.is] at hi
    split at hi <;> try simp at hi
    rename_i ht
    obtain ⟨b, rfl, _⟩ := DataW.trod_bool ht h
    exact ⟨_, ⟨b, rfl⟩, .one (.bool b) rfl, rfl, fun _ _ _ _ => trivial⟩
  | int k =>
    refine ⟨fun t cs fuel x _ hi h => ?_, fun _ _ _ _ _ _ h => by simp [Sh.isTy] at h⟩
    simp only [Sh.is] at hi
    split at hi <;> try simp at hi
    rename_i ht
    subst hi
    obtain ⟨n, rfl, _, hw⟩ := DataW.trod_int ht h
    exact ⟨_, ⟨n, rfl, hw⟩, .one (.int _ n) rfl, rfl, fun _ _ _ _ => trivial⟩
  | str =>
    refine ⟨fun t cs fuel x _ hi h => ?_, fun _ _ _ _ _ _ h => by simp [Sh.isTy] at h⟩
    simp only [Sh.is] at hi
    split at hi <;> try simp at hi
    rename_i ht
    obtain ⟨s, rfl, _, hw⟩ := DataW.trod_string ht h
    refine ⟨_, ⟨s.data.toList, rfl, by rw [Array.length_toList]; exact hw⟩, .one ?_ rfl, rfl, fun _ _ _ _ => trivial⟩
    exact VRel.str _
  | sl e ih =>
    refine ⟨fun t cs fuel x _ hi h => ?_, fun _ _ _ _ _ _ h => by simp [Sh.isTy] at h⟩
    simp only [Sh.is] at hi
    split at hi <;> try simp at hi
    rename_i u ht
    obtain ⟨⟨hi, hn⟩, hpos⟩ := hi
    have hty : e.isTy = true := by
      cases e <;> simp [Sh.isTy]
      · simp [Sh.n] at hpos
      · simp [Sh.is] at hi
    rcases DataW.trod_slice ht h with ⟨rfl, _⟩ | ⟨a, len, cap, elems, rest, n, rfl, rfl, hxx, hb, hl, hc, hlen, he, _, _⟩
    · exact ⟨_, ⟨[], rfl, Nat.zero_le _, by simp⟩, .one .roNil rfl, rfl, fun _ _ _ _ => ⟨[], rfl, Nat.zero_le _, by simp⟩⟩
    · have key : ∀ i : Fin len, ∃ es : List AV, e.ok es ∧ ∃ cs, w.cells? 0 (a.add (i * P.cellsOf u)) (P.cellsOf u) = some cs ∧ CRel J O w es cs ∧ es.length = e.n ∧ ∀ B : DataW H → Nat, BulkOk B → ∀ N, B (elems[i.1]'(by rw [hlen]; exact i.2)).1 ≤ N → e.okN N es := by
        intro i
        have h1 := he i i.2
        rw [List.getElem?_eq_getElem (by rw [hlen]; exact i.2)] at h1
        obtain ⟨cs, hc1, hc2⟩ := Option.bind_eq_some_iff.1 h1
        obtain ⟨es, p, q, r, s⟩ := ih.1 _ _ _ _ hty hi hc2
        exact ⟨es, p, cs, hc1, q, r, s⟩
      obtain ⟨g, hg⟩ := Classical.axiomOfChoice key
      let es := (List.finRange len).map g
      have hes : es.length = len := by simp [es]
      have hget : ∀ (i : Nat) (x : List AV), es[i]? = some x → ∃ hi : i < len, x = g ⟨i, hi⟩ := by
        intro i x hx
        have hi : i < len := by
          rcases Nat.lt_or_ge i len with h | h
          · exact h
          · simp [List.getElem?_eq_none (by omega : es.length ≤ i)] at hx
        refine ⟨hi, ?_⟩
        simp [es, hi] at hx
        exact hx.symm
      have hcell : ∀ (i : Nat) (x : List AV) (c : Nat) (y : AV), es[i]? = some x → x[c]? = some y → ∃ v, w.cell? (a.add (i * e.n + c)) = some v ∧ VRel J O w y v ∧ v.oneCell' = true := by
        intro i x c y hx hy
        obtain ⟨hi, rfl⟩ := hget i x hx
        obtain ⟨_, cs, hcs, ⟨q1, q2⟩, r, _⟩ := hg ⟨i, hi⟩
        obtain ⟨_, s1, s2⟩ := World.cells?_some hcs
        have hcl : c < (g ⟨i, hi⟩).length := by
          rcases Nat.lt_or_ge c (g ⟨i, hi⟩).length with h | h
          · exact h
          · simp [List.getElem?_eq_none h] at hy
        obtain ⟨v, hv⟩ : ∃ v, cs[c]? = some v := ⟨cs[c]'(by omega), List.getElem?_eq_getElem (by omega)⟩
        have h3 := s2 c (by omega)
        rw [hv, ← hn] at h3
        refine ⟨v, ?_, q2 c y v hy hv⟩
        rw [← h3, show (a.add (i * e.n)).add c = a.add (i * e.n + c) from add_add' _ _ _]
      refine ⟨[.ro es], ⟨es, rfl, by omega, fun x hx => ?_⟩, .one ?_ rfl, rfl, fun B hB N hN => ⟨es, rfl, ?_, fun y hy => ?_⟩⟩
      · obtain ⟨i, hi⟩ := List.getElem?_of_mem hx
        obtain ⟨hi', rfl⟩ := hget i x hi
        exact (hg ⟨i, hi'⟩).1
      · rw [← hes]
        refine VRel.ro es a e.n cap (fun i c => (w.cell? (a.add (i * e.n + c))).getD undef) (by omega) hpos ?_ ?_ ?_ ?_ ?_
        · by_cases h0 : es = []
          · exact .inl h0
          · right
            have h0' : 0 < len := by
              rcases Nat.eq_zero_or_pos len with h | h
              · exact absurd (List.length_eq_zero_iff.1 (hes.trans h)) h0
              · exact h
            obtain ⟨_, cs, hcs, _⟩ := hg ⟨0, h0'⟩
            have := World.cells?_block hcs (by omega)
            have hbl : a.block < w.heap.size := by simpa [add_block] using this
            exact ⟨hbl, hO _ hbl⟩
        · intro i x hx
          obtain ⟨hi, rfl⟩ := hget i x hx
          exact (hg ⟨i, hi⟩).2.choose_spec.2.2.1
        · intro i x c y hx hy
          obtain ⟨v, hv, _⟩ := hcell i x c y hx hy
          simp [hv]
        · intro i x c y hx hy
          obtain ⟨v, hv, _, h1⟩ := hcell i x c y hx hy
          simp [hv, h1]
        · intro i x c y hx hy
          obtain ⟨v, hv, h1, _⟩ := hcell i x c y hx hy
          simp [hv, h1]
      · have := hB.sl (elems.map (·.1)) (rest.map (·.1))
        simp only [List.length_map] at this
        rw [hxx] at hN
        simp only at hN
        omega
      · rw [hxx] at hN
        obtain ⟨i, hi⟩ := List.getElem?_of_mem hy
        obtain ⟨hi', rfl⟩ := hget i y hi
        refine (hg ⟨i, hi'⟩).2.choose_spec.2.2.2 B hB N (Nat.le_trans (hB.el _ _ _ ?_) hN)
        exact List.mem_map.2 ⟨_, List.getElem_mem _, rfl⟩
  | st f ih =>
    refine ⟨fun t cs fuel x _ hi h => ?_, fun _ _ _ _ _ _ h => by simp [Sh.isTy] at h⟩
    simp only [Sh.is] at hi
    split at hi <;> try simp at hi
    rename_i fs ht
    obtain ⟨⟨hty, hi⟩, hn⟩ := hi
    obtain ⟨xs, n, hl, hm, hx⟩ := trod_structU ht h
    obtain ⟨es, p, q, r, s⟩ := ih.2 fs.toList 0 cs n xs hi hty hm (by omega)
    refine ⟨es, p, by simpa using q, r, fun B hB N hN => s B hB N fun y hy => Nat.le_trans (hB.ag (xs.map (·.1)) _ (List.mem_map.2 ⟨y, hy, rfl⟩)) (by rw [← hx]; exact hN)⟩
  | none =>
    refine ⟨fun _ _ _ _ h => by simp [Sh.isTy] at h, fun fs o cs n xs hi _ hm hl => ?_⟩
    refine ⟨[], rfl, ⟨?_, by simp⟩, rfl, fun _ _ _ _ => trivial⟩
    simp [Sh.n] at hl
    simp [hl]
  | cons a r iha ihr =>
    refine ⟨fun _ _ _ _ h => by simp [Sh.isTy] at h, fun fs o cs n xs hi _ hm hl => ?_⟩
    cases fs with
    | nil => simp [Sh.is] at hi
    | cons f fs' =>
      simp only [Sh.is, Bool.and_eq_true, decide_eq_true_eq, Bool.not_eq_true'] at hi
      obtain ⟨⟨⟨⟨⟨ho, ha⟩, hn⟩, hr⟩, hta⟩, htr⟩ := hi
      obtain ⟨y, ys, hy, hys, rfl⟩ := mapM_cons_some hm
      simp only [Sh.n] at hl
      obtain ⟨e1, p1, q1, r1, s1⟩ := iha.1 _ _ _ _ hta ha hy
      obtain ⟨e2, p2, q2, r2, s2⟩ := ihr.2 fs' (o + a.n) cs n ys hr htr hys (by omega)
      refine ⟨e1 ++ e2, ⟨e1, e2, rfl, p1, p2⟩, ?_, by simp [Sh.n, r1, r2], fun B hB N hN => ⟨e1, e2, rfl, r1, s1 B hB N (hN y (by simp)), s2 B hB N fun z hz => hN z (by simp [hz])⟩⟩
      have := q1.append q2
      rw [ho, ← hn, ← List.drop_drop, List.take_append_drop] at this
      exact this

def okArgN (N : Nat) (sh : Sh) (x : AV) : Prop := match sh with | .st f => ∃ es, x = .agg es ∧ f.okN N es | sh => sh.okN N [x]
def okArgsN (N : Nat) : List Sh → List AV → Prop
  | [], _ => True
  | sh :: shs, xs => ∃ x r, xs = x :: r ∧ okArgN N sh x ∧ okArgsN N shs r
theorem trod_argU (hO : ∀ r, r < w.heap.size → ¬ O r) {r : Reach} {b0 : Nat} (sh : Sh) {t : TypeId} {v : Value} {d : DataW H} {ps : List MemPlace} (hty : sh.isTy = true) (hi : sh.is P t [] 0 = true)
    (hval : Value.okWide P w r b0 t v) (hd : DataW.Trod enc P w 0 (fun _ => true) true t v d ps) : ∃ x, okArg sh x ∧ VRel J O w x v ∧ ∀ B : DataW H → Nat, BulkOk B → ∀ N, B d ≤ N → okArgN N sh x := by
  obtain ⟨fuel, hf⟩ := hd
  obtain ⟨es, p, q, hn, hs⟩ := (trod_cellsU (J := J) hO sh).1 _ _ _ _ hty hi hf
  have one : sh.n = 1 → v.oneCell' = true → sh.ok es → ∃ x, sh.ok [x] ∧ VRel J O w x v ∧ ∀ B : DataW H → Nat, BulkOk B → ∀ N, B d ≤ N → sh.okN N [x] := by
    intro h1 h2 h3
    rw [h1] at hn
    obtain ⟨x, rfl⟩ := List.length_eq_one_iff.1 hn
    have hc : v.cells.toList = [v] := by cases v <;> simp [Value.oneCell'] at h2 <;> rfl
    rw [hc] at q
    exact ⟨x, h3, (q.2 0 x v rfl rfl).1, hs⟩
  cases sh with
  | bool =>
    simp only [Sh.is] at hi
    split at hi <;> try simp at hi
    rename_i ht
    refine one rfl ?_ p
    cases v <;> simp [Value.okWide, Cell.okWide, Cell.ok, ht] at hval <;> rfl
  | int k =>
    simp only [Sh.is] at hi
    split at hi <;> try simp at hi
    rename_i ht
    refine one rfl ?_ p
    cases v <;> simp [Value.okWide, Cell.okWide, Cell.ok, ht] at hval <;> rfl
  | str =>
    simp only [Sh.is] at hi
    split at hi <;> try simp at hi
    rename_i ht
    refine one rfl ?_ p
    cases v <;> simp [Value.okWide, Cell.okWide, Cell.ok, ht] at hval <;> rfl
  | sl e =>
    simp only [Sh.is] at hi
    split at hi <;> try simp at hi
    rename_i u ht
    exact one rfl (okWide_slice ht hval) p
  | st f =>
    simp only [Sh.is] at hi
    split at hi <;> try simp at hi
    rename_i fs ht
    simp only [Value.okWide, ht] at hval
    obtain ⟨cs, rfl, _, _⟩ := hval
    refine ⟨.agg es, ⟨es, rfl, p⟩, ?_, fun B hB N hN => ⟨es, rfl, hs B hB N hN⟩⟩
    have : (Value.agg cs) = .agg cs.toList.toArray := by simp
    rw [this]
    refine .agg es cs.toList q.1 ?_ (fun i x v hx hv => (q.2 i x v hx hv).1)
    intro v hv
    obtain ⟨i, hi⟩ := List.getElem?_of_mem hv
    have hlt : i < es.length := by
      rcases Nat.lt_or_ge i es.length with h | h
      · exact h
      · rw [q.1] at h; simp [Value.cells] at h; simp [Nat.not_lt.2 h] at hi
    exact (q.2 i _ v (List.getElem?_eq_getElem hlt) hi).2
  | none => simp [Sh.isTy] at hty
  | cons a b => simp [Sh.isTy] at hty

theorem trod_argsU (hO : ∀ r, r < w.heap.size → ¬ O r) {r : Reach} {b0 : Nat} : ∀ (shs : List Sh) {ts : List TypeId} {vs : List Value} {ds : List (DataW H)} {ps : List MemPlace}, isArgs P shs ts = true →
    (∀ (j : Nat) t v, ts[j]? = some t → vs[j]? = some v → Value.okWide P w r b0 t v) → DataW.TrodAll enc P w 0 (fun _ => true) true ts vs ds ps →
    ∃ xs, okArgs shs xs ∧ VRels J O w xs vs ∧ ∀ B : DataW H → Nat, BulkOk B → ∀ N, (∀ d ∈ ds, B d ≤ N) → okArgsN N shs xs
  | [], [], vs, ds, ps, _, _, h => by
    obtain ⟨rfl, rfl, rfl⟩ := trodAll_nil h
    exact ⟨[], rfl, .nil, fun _ _ _ _ => trivial⟩
  | sh :: shs, t :: ts, vs, ds, ps, hi, hval, h => by
    obtain ⟨v, vs1, d, ds1, a, b, rfl, rfl, rfl, h1, h2⟩ := trodAll_cons h
    simp only [isArgs, Bool.and_eq_true] at hi
    obtain ⟨x, p, q, s⟩ := trod_argU (J := J) hO sh hi.1.1 hi.1.2 (hval 0 t v rfl rfl) h1
    obtain ⟨xs, p', q', s'⟩ := trod_argsU hO shs hi.2 (fun j t v ht hv => hval (j + 1) t v (by simpa using ht) (by simpa using hv)) h2
    exact ⟨x :: xs, ⟨x, xs, rfl, p, p'⟩, .cons q q', fun B hB N hN => ⟨x, xs, rfl, s B hB N (hN _ (by simp)), s' B hB N fun d hd => hN d (by simp [hd])⟩⟩
  | [], _ :: _, _, _, _, hi, _, _ => by simp [isArgs] at hi
  | _ :: _, [], _, _, _, hi, _, _ => by simp [isArgs] at hi
end
section
variable {H : Type} {enc : TypeId × Value → H} {P : Program} {W W' : World}
/-- THE CONTRACT OF A LAW that returns true, out of its walk over the abstract state. -/
theorem law_contractU {gl : Globs} {f : FuncId} {fn : Func} {s : ChangeSpec} {apart fresh handsOn again : Bool} {tb : TypeId} (shs : List Sh)
    (K : Kids P (· < P.types.size)) (hz : ∀ t e, t < P.types.size → P.underlying t = some (.slice e) → 0 < P.cellsOf e)
    (hsh : isArgs P shs fn.params.toList = true) (hT : ∀ t ∈ fn.params.toList, t < P.types.size) (hr : fn.resultTypes = #[tb]) (hb : P.underlying tb = some .bool)
    (hvars : s.vars = []) (hfn : ∀ ds : List (DataW H), ds.length = fn.params.toList.length → s.fn H ds = { results := [.lit (.bool true)], args := ds })
    (hgl : ∀ g cs, gl g = some cs → VRel [] (Own [] []) W (.rop [cs] 0 0) (.pointer (some ⟨g, 0, none⟩)))
    (base : Nat) (args : Array Value) (ds gs : List (DataW H)) (before : List MemPlace)
    (hlaw : ∀ xs, okArgs shs xs → (∀ B : DataW H → Nat, BulkOk B → ∀ N, (∀ d ∈ ds, B d ≤ N) → okArgsN N shs xs) → ACalls P gl f xs [] fun x h' => x = .bool true)
    (hval : ∀ (j : Nat) t v, fn.params[j]? = some t → args[j]? = some v → Value.okWide P W .any base t v)
    (hW : DataW.Whole enc P fn.params.toList s.vars apart W args.toList ds gs before) :
    Calls P f args W fun e W' => ∃ v, e = .returned v ∧ s.post enc P fn apart fresh handsOn again W args v W' := by
  have hW0 := hW
  obtain ⟨p, q, hA, hV, rfl, hfz, hnd⟩ := hW
  have hO : ∀ r, r < W.heap.size → ¬ Own [] [] r := by rintro r _ ⟨b, k, o, h, _⟩; simp at h
  rw [hvars] at hV
  obtain ⟨rfl, rfl⟩ := trodVars_none hV
  obtain ⟨xs, hx, hv, hN⟩ := trod_argsU (J := []) hO shs hsh (fun j t v ht hv => hval j t v (by simpa using ht) (by simpa using hv)) hA
  have hh : HRel gl [] [] W := ⟨rfl, by intro b b' k; simp, by intro b k; simp, by intro b k; simp, hgl⟩
  have hc := (hlaw xs hx hN).2 [] W args.toList hh hv
  simp only [Array.toArray_toList] at hc
  refine Calls.mono' hc ?_
  rintro e W' ⟨x, v, J', h', rfl, _, hxv, he, rfl⟩
  obtain rfl : v = .bool true := by cases hxv; rfl
  refine ⟨_, rfl, ?_⟩
  have hold : ∀ r, r < W.heap.size → W'.heap[r]? = W.heap[r]? := fun r hr => (he.keep r hr (hO r hr)).1
  have hlen := (trodAll_length hA).2
  have hfn' := hfn (ds ++ []) (by simpa using hlen)
  rw [List.append_nil] at hfn' hW0
  have hlt : ∀ p' ∈ p, p'.block < W.heap.size := fun p' hp => DataW.TrodAll.lt hA p' hp
  have hkept : ∀ may, W.keptBut W' may := by
    intro may
    refine ⟨he.os, he.output, fun i hi => ?_⟩
    rw [hold i hi]
    cases W.heap[i]? with
    | none => rfl
    | some o => cases o <;> simp
  have hfz' : ∀ p' ∈ p, ∀ b off, p' = .cell b off → W'.frozen? ⟨b, off, none⟩ = W.frozen? ⟨b, off, none⟩ := by
    rintro p' hp b off rfl
    have := hold b (hlt _ hp)
    simp [World.frozen?, this]
  have hagain : ∀ sp : Nat → Bool, (∀ p' ∈ p, sp p'.block = true) → DataW.TrodAll enc P W' 0 sp true fn.params.toList args.toList ds p := fun sp hsp => read_again K hz hold hT hA hsp
  have hres : ∀ (b : Nat) (sp : Nat → Bool) (hd : Bool), DataW.TrodAll enc P W' b sp hd fn.resultTypes.toList ((Value.bool true).resultList fn.resultTypes.size) [.lit (.bool true)] [] := by
    intro b sp hd
    rw [hr]
    exact trodAll_cons_mk (shut_bool hb _) trodAll_mk0
  refine ⟨ds, [], p, [], p, [], hW0, ?_, ?_, ?_, ?_, fun _ => ?_⟩
  · rw [List.append_nil, hfn']; exact hres _ _ _
  · rw [List.append_nil, hfn']
    exact hagain _ fun p' hp => by simpa using hlt p' hp
  · rw [List.append_nil, hfn', hvars]; rfl
  · exact hkept _
  · refine ⟨?_, [.lit (.bool true)] ++ ds, [], [] ++ p ++ [], ⟨[] ++ p, [], trodAll_append (hagain (fun _ => true) fun _ _ => rfl) (hres 0 (fun _ => true) true), by rw [hvars]; rfl, rfl, ?_, ?_⟩, ?_⟩
    · exact ok_one hr rfl (okWide_bool_mk hb _)
    · intro b off hp
      have hp' : MemPlace.cell b off ∈ p := by simpa using hp
      rw [hfz' _ hp' b off rfl]
      exact hfz b off (by simpa using hp')
    · intro ha
      simpa using hnd ha
    · intro p' hp _
      simpa using hp
end
/-! ### Parts of what is bounded -/
theorem okN_cons {N : Nat} {a r : Sh} {v : AV} {vs : List AV} (h : (Sh.cons a r).okN N (v :: vs)) (ha : a.n = 1) : a.okN N [v] ∧ r.okN N vs := by
  obtain ⟨x, y, e, hx, h1, h2⟩ := h
  rw [ha] at hx
  obtain ⟨z, rfl⟩ := List.length_eq_one_iff.1 hx
  simp at e
  obtain ⟨rfl, rfl⟩ := e
  exact ⟨h1, h2⟩
theorem okN_sl {N : Nat} {e : Sh} {l : List (List AV)} (h : (Sh.sl e).okN N [.ro l]) : l.length ≤ N ∧ ∀ x ∈ l, e.okN N x := by
  obtain ⟨m, e1, h1, h2⟩ := h
  simp at e1
  subst e1
  exact ⟨h1, h2⟩
theorem okArgsN_head {N : Nat} {sh : Sh} {shs : List Sh} {x : AV} {xs : List AV} (h : okArgsN N (sh :: shs) (x :: xs)) : okArgN N sh x := by
  obtain ⟨a, b, e, h1, _⟩ := h
  injection e with e1 _
  subst e1
  exact h1
theorem okArgsN_tail {N : Nat} {sh : Sh} {shs : List Sh} {x : AV} {xs : List AV} (h : okArgsN N (sh :: shs) (x :: xs)) : okArgsN N shs xs := by
  obtain ⟨a, b, e, _, h1⟩ := h
  injection e with _ e1
  subst e1
  exact h1
end Go.Abs
