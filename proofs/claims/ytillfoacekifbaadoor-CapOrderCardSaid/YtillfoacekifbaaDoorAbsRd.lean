/-
  A slice that reads as a list of elements, shared or of a block of the call's own: one set of facts for both.
-/
import Derived.Test.YtillfoacekifbaaDoorAbsSimp
set_option linter.unusedVariables false
set_option linter.unusedSimpArgs false
namespace Go.Abs
open Go

/-- A slice that reads as these elements of n cells. -/
def Rd (n : Nat) (h : AHeap) (x : AV) (es : List (List AV)) : Prop :=
  (x = .ro es ∨ ∃ b off all, x = .own b off es.length ∧ h[b]? = some (.cells n all) ∧ off + es.length ≤ all.length ∧ ∀ i, i < es.length → all[off + i]? = es[i]?) ∧ ∀ e ∈ es, e.length = n

variable {P : Program} {n : Nat} {h : AHeap} {x : AV} {es : List (List AV)}
theorem Rd.append (r : Rd n h x es) (g : AHeap) : Rd n (h ++ g) x es := by
  obtain ⟨r, hn⟩ := r
  refine ⟨?_, hn⟩
  rcases r with rfl | ⟨b, off, all, rfl, hb, he⟩
  · exact .inl rfl
  · refine .inr ⟨b, off, all, rfl, ?_, he⟩
    rw [List.getElem?_append_left (List.getElem?_eq_some_iff.1 hb).1]; exact hb
theorem Rd.ro (hn : ∀ e ∈ es, e.length = n) : Rd n h (.ro es) es := ⟨.inl rfl, hn⟩
theorem Rd.own {b : Nat} (hb : h[b]? = some (.cells n es)) (hn : ∀ e ∈ es, e.length = n) : Rd n h (.own b 0 es.length) es :=
  ⟨.inr ⟨b, 0, es, rfl, hb, by omega, fun i _ => by simp⟩, hn⟩
theorem Rd.core (r : Rd n h x es) : x.core = x := by
  rcases r.1 with rfl | ⟨b, off, all, rfl, _⟩ <;> rfl
theorem Rd.gd (r : Rd n h x es) : x.gd = true := by
  rcases r.1 with rfl | ⟨b, off, all, rfl, _⟩ <;> rfl
theorem Rd.alen (r : Rd n h x es) : alen h x = es.length := by
  rcases r.1 with rfl | ⟨b, off, all, rfl, _⟩ <;> rfl
theorem Rd.lenOk (r : Rd n h x es) {e : TypeId} : lenOk h (.slice e) x ↔ True := by
  rcases r.1 with rfl | ⟨b, off, all, rfl, _⟩ <;> simp [Go.Abs.lenOk]
theorem Rd.iaddrOk (r : Rd n h x es) {e : TypeId} (ho : (tinfo P e).ok = true) (hn : (tinfo P e).cells = n) {i : Int} (h0 : 0 ≤ i) (hi : i < es.length) : iaddrOk P h (.slice e) x i ↔ True := by
  obtain ⟨k, rfl⟩ := Int.eq_ofNat_of_zero_le h0
  have hk : k < es.length := by omega
  rcases r with ⟨rfl | ⟨b, off, all, rfl, hb, hl, he⟩, hn'⟩
  · simp [Go.Abs.iaddrOk, ho, hk]
    rw [hn]; exact hn' _ (List.getElem_mem hk)
  · simp only [Go.Abs.iaddrOk, hcells, hsz, hb, ho, hn]
    simp; omega
theorem Rd.load (r : Rd n h x es) {e : TypeId} {i : Int} (h0 : 0 ≤ i) (hi : i < es.length) :
    (∃ b k, iaddrV P (.slice e) x i = .ptr b k 0 ∧ (hcells h b)[k]? = es[i.toNat]?) ∨ iaddrV P (.slice e) x i = .rop es i.toNat 0 := by
  obtain ⟨k, rfl⟩ := Int.eq_ofNat_of_zero_le h0
  have hk : k < es.length := by omega
  rcases r with ⟨rfl | ⟨b, off, all, rfl, hb, hl, he⟩, hn'⟩
  · right; simp [iaddrV]
  · left
    refine ⟨b, off + k, by simp [iaddrV], ?_⟩
    simp only [hcells, hb]
    exact he k hk
theorem Rd.icore (r : Rd n h x es) {e : TypeId} {i : Int} (h0 : 0 ≤ i) (hi : i < es.length) : (iaddrV P (.slice e) x i).core = iaddrV P (.slice e) x i := by
  rcases r.load (P := P) (e := e) h0 hi with ⟨b, k, h1, _⟩ | h1 <;> rw [h1] <;> rfl
theorem Rd.igd (r : Rd n h x es) {e : TypeId} {i : Int} (h0 : 0 ≤ i) (hi : i < es.length) : (iaddrV P (.slice e) x i).gd = true := by
  rcases r.load (P := P) (e := e) h0 hi with ⟨b, k, h1, _⟩ | h1 <;> rw [h1] <;> rfl
theorem Rd.loadV (r : Rd n h x es) {e t : TypeId} {i : Int} {y : List AV} (h0 : 0 ≤ i) (hi : i < es.length) (hy : es[i.toNat]? = some y) : Go.Abs.loadV P h t (iaddrV P (.slice e) x i) = acut (tinfo P t) y (0) := by
  rcases r.load (P := P) (e := e) h0 hi with ⟨b, k, h1, h2⟩ | h1 <;> rw [h1]
  · show acut _ ((hcells h b).getD k []) 0 = _
    rw [List.getD_eq_getElem?_getD, h2, hy]; rfl
  · show acut _ (es.getD i.toNat []) 0 = _
    rw [List.getD_eq_getElem?_getD, hy]; rfl
theorem Rd.loadOk (r : Rd n h x es) {e t : TypeId} {i : Int} {y : List AV} (h0 : 0 ≤ i) (hi : i < es.length) (hy : es[i.toNat]? = some y) : Go.Abs.loadOk P h t (iaddrV P (.slice e) x i) ↔ cutOk (tinfo P t) y (0) := by
  rcases r.load (P := P) (e := e) h0 hi with ⟨b, k, h1, h2⟩ | h1 <;> rw [h1]
  · rw [hy] at h2
    have := (List.getElem?_eq_some_iff.1 h2).1
    show (k < (hcells h b).length ∧ cutOk _ ((hcells h b).getD k []) 0) ↔ _
    rw [List.getD_eq_getElem?_getD, h2]
    exact ⟨fun h => h.2, fun h => ⟨this, h⟩⟩
  · have : i.toNat < es.length := (List.getElem?_eq_some_iff.1 hy).1
    show (i.toNat < es.length ∧ cutOk _ (es.getD i.toNat []) 0) ↔ _
    rw [List.getD_eq_getElem?_getD, hy]
    exact ⟨fun h => h.2, fun h => ⟨this, h⟩⟩
theorem Rd.faddrOk (r : Rd n h x es) {e : TypeId} {i : Int} (h0 : 0 ≤ i) (hi : i < es.length) : faddrOk (iaddrV P (.slice e) x i) ↔ True := by
  rcases r.load (P := P) (e := e) h0 hi with ⟨b, k, h1, _⟩ | h1 <;> rw [h1] <;> simp [Go.Abs.faddrOk]
theorem Rd.fcore (r : Rd n h x es) {e s : TypeId} {f : Nat} {i : Int} (h0 : 0 ≤ i) (hi : i < es.length) : (faddrV P s f (iaddrV P (.slice e) x i)).core = faddrV P s f (iaddrV P (.slice e) x i) := by
  rcases r.load (P := P) (e := e) h0 hi with ⟨b, k, h1, _⟩ | h1 <;> rw [h1] <;> rfl
theorem Rd.fgd (r : Rd n h x es) {e s : TypeId} {f : Nat} {i : Int} (h0 : 0 ≤ i) (hi : i < es.length) : (faddrV P s f (iaddrV P (.slice e) x i)).gd = true := by
  rcases r.load (P := P) (e := e) h0 hi with ⟨b, k, h1, _⟩ | h1 <;> rw [h1] <;> rfl
theorem Rd.floadV (r : Rd n h x es) {e s t : TypeId} {f : Nat} {i : Int} {y : List AV} (h0 : 0 ≤ i) (hi : i < es.length) (hy : es[i.toNat]? = some y) : Go.Abs.loadV P h t (faddrV P s f (iaddrV P (.slice e) x i)) = acut (tinfo P t) y (foff (tinfo P s) f) := by
  rcases r.load (P := P) (e := e) h0 hi with ⟨b, k, h1, h2⟩ | h1 <;> rw [h1]
  · show acut _ ((hcells h b).getD k []) (0 + foff (tinfo P s) f) = _
    rw [List.getD_eq_getElem?_getD, h2, hy]; rw [Nat.zero_add]; rfl
  · show acut _ (es.getD i.toNat []) (0 + foff (tinfo P s) f) = _
    rw [List.getD_eq_getElem?_getD, hy]; rw [Nat.zero_add]; rfl
theorem Rd.floadOk (r : Rd n h x es) {e s t : TypeId} {f : Nat} {i : Int} {y : List AV} (h0 : 0 ≤ i) (hi : i < es.length) (hy : es[i.toNat]? = some y) : Go.Abs.loadOk P h t (faddrV P s f (iaddrV P (.slice e) x i)) ↔ cutOk (tinfo P t) y (foff (tinfo P s) f) := by
  rcases r.load (P := P) (e := e) h0 hi with ⟨b, k, h1, h2⟩ | h1 <;> rw [h1]
  · rw [hy] at h2
    have := (List.getElem?_eq_some_iff.1 h2).1
    show (k < (hcells h b).length ∧ cutOk _ ((hcells h b).getD k []) (0 + foff (tinfo P s) f)) ↔ _
    rw [List.getD_eq_getElem?_getD, h2]; rw [Nat.zero_add]
    exact ⟨fun h => h.2, fun h => ⟨this, h⟩⟩
  · have : i.toNat < es.length := (List.getElem?_eq_some_iff.1 hy).1
    show (i.toNat < es.length ∧ cutOk _ (es.getD i.toNat []) (0 + foff (tinfo P s) f)) ↔ _
    rw [List.getD_eq_getElem?_getD, hy]; rw [Nat.zero_add]
    exact ⟨fun h => h.2, fun h => ⟨this, h⟩⟩

/-- A slice of plain data, handed out. -/
theorem Frz.ownD {n b m off len : Nat} {h : AHeap} {es es' : List (List AV)} (hb : h[b]? = some (.cells m es)) (hn : n ≤ b) (hl : off + len ≤ es.length) (he : es' = (es.drop off).take len) (hd : ∀ e ∈ es', ∀ x ∈ e, x.Data) : Frz n h (.own b off len) (.ro es') := by
  have hget : ∀ (i : Nat) (e e' : List AV), es[off + i]? = some e → es'[i]? = some e' → e = e' := by
    intro i e e' h1 h2
    subst he
    rw [List.getElem?_take] at h2
    split at h2
    · rw [List.getElem?_drop, h1] at h2; exact Option.some.inj h2
    · cases h2
  refine .own b off len m es es' hn hb hl (by subst he; simp; omega) (fun i e e' h1 h2 => by rw [hget i e e' h1 h2]) ?_
  intro i e e' c x x' h1 h2 h3 h4
  obtain rfl := hget i e e' h1 h2
  rw [h3] at h4
  obtain rfl := Option.some.inj h4
  exact .data x (hd e (List.mem_of_getElem? h2) x (List.mem_of_getElem? h3))

inductive FrzL (n : Nat) (h : AHeap) : List AV → List AV → Prop
  | nil : FrzL n h [] []
  | cons {x x' : AV} {xs xs' : List AV} (hx : Frz n h x x') (hs : FrzL n h xs xs') : FrzL n h (x :: xs) (x' :: xs')
theorem FrzL.get {n : Nat} {h : AHeap} {xs xs' : List AV} (f : FrzL n h xs xs') : xs'.length = xs.length ∧ ∀ (i : Nat) (x x' : AV), xs[i]? = some x → xs'[i]? = some x' → Frz n h x x' := by
  induction f with
  | nil => exact ⟨rfl, by simp⟩
  | cons hx hs ih =>
    refine ⟨by simp [ih.1], fun i x x' h1 h2 => ?_⟩
    cases i with
    | zero => simp at h1 h2; subst h1; subst h2; exact hx
    | succ i => exact ih.2 i x x' (by simpa using h1) (by simpa using h2)
theorem Frz.agg' {n : Nat} {h : AHeap} {xs xs' : List AV} (f : FrzL n h xs xs') : Frz n h (.agg xs) (.agg xs') := .agg _ _ f.get.1 f.get.2
theorem Frz.tup' {n : Nat} {h : AHeap} {xs xs' : List AV} (f : FrzL n h xs xs') : Frz n h (.tup xs) (.tup xs') := .tup _ _ f.get.1 f.get.2
end Go.Abs
