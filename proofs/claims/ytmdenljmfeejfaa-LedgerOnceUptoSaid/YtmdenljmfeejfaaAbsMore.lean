/-
  A call's result is frozen where it comes back; slices of the call's own that are cut and grow (queues).
-/
import Derived.Test.YtmdenljmfeejfaaAbsList
import Derived.Scope
set_option linter.unusedVariables false
set_option linter.unusedSimpArgs false
namespace Go.Abs
open Go

theorem nodup_get {α : Type} {l : List α} (hn : l.Nodup) {i j : Nat} {a : α} (h1 : l[i]? = some a) (h2 : l[j]? = some a) : i = j := by
  obtain ⟨b1, c1⟩ := List.getElem?_eq_some_iff.1 h1
  obtain ⟨b2, c2⟩ := List.getElem?_eq_some_iff.1 h2
  have hp := List.pairwise_iff_getElem.1 hn
  rcases Nat.lt_trichotomy i j with h | h | h
  · exact absurd (c1.trans c2.symm) (hp i j b1 b2 h)
  · exact h
  · exact absurd (c2.trans c1.symm) (hp j i b2 b1 h)
/-- A block that stands in the heap. -/
theorem at3 {H : AHeap} {b : Nat} {o : AObj} (h : H[b]? = some o) : H[b]? = some o ∧ b < H.length ∧ ∀ hl : b < H.length, H[b] = o := ⟨h, (List.getElem?_eq_some_iff.1 h).1, fun _ => (List.getElem?_eq_some_iff.1 h).2⟩
theorem at_more {H : AHeap} {b : Nat} {o : AObj} (h : H[b]? = some o) (g : AHeap) : (H ++ g)[b]? = some o := by rw [List.getElem?_append_left (lt_of_get h)]; exact h
/-! ### Texts -/
def encT (s : List UInt8) : List AV := [.str s]
def sortT (l : List (List UInt8)) : List (List UInt8) := l.mergeSort fun x y => decide (x ≤ y)

/-- A call that hands back memory of its own, which may be read from now on. -/
theorem ACalls.fresh' {P : Program} {gl : Globs} {f : FuncId} {args : List AV} {h : AHeap} {r : AV} (c : ACalls P gl f args h (fun x h' => (∃ g, h' = h ++ g) ∧ Frz h.length h' x r)) : ACalls P gl f args h (fun x h' => x = r ∧ h' = h) := by
  refine c.trim ?_
  rintro x h' ⟨⟨g, rfl⟩, hf⟩
  exact ⟨_, hf, by simp, fun b o hb ho => .inl (by rwa [List.getElem?_append_left hb] at ho), rfl, by simp⟩
/-- The same; what is told of the result is any property. -/
theorem ACalls.freshR {P : Program} {gl : Globs} {f : FuncId} {args : List AV} {h : AHeap} {R : AV → Prop} (c : ACalls P gl f args h (fun x h' => (∃ g, h' = h ++ g) ∧ ∃ r, Frz h.length h' x r ∧ R r)) : ACalls P gl f args h (fun x h' => R x ∧ h' = h) := by
  refine c.trim ?_
  rintro x h' ⟨⟨g, rfl⟩, r, hf, hr⟩
  exact ⟨_, hf, by simp, fun b o hb ho => .inl (by rwa [List.getElem?_append_left hb] at ho), hr, by simp⟩
/-- A list of the call's own in a slot of the frame is read from now on. -/
theorem AWP.freeze1 {P : Program} {gl : Globs} {N : Nat} {c : Code} {Q : APost} {fr : AFrame} {h : AHeap} (t0 b n : Nat) (es : List (List AV)) (hb : h[b]? = some (.cells n es)) (hf : fr t0 = .own b 0 es.length)
    (k : ∀ fr', fr' t0 = .ro es → (∀ t, t ≠ t0 → fr' t = fr t) → AWP P gl N c Q fr' (h.set b .dead)) : AWP P gl N c Q fr h := by
  refine AWP.freeze (fr' := fun t => if t = t0 then .ro es else fr t) [b] (fun t => ?_) (k _ (by simp) fun t ht => by simp [ht])
  by_cases e : t = t0
  · subst e
    rw [if_pos rfl, hf]
    exact FrzK.all hb (by simp)
  · rw [if_neg e]; exact .same _
theorem base_more {h H : AHeap} (hb : ∃ g, H = h ++ g) (g : AHeap) : ∃ g', H ++ g = h ++ g' := by
  obtain ⟨g0, rfl⟩ := hb
  exact ⟨g0 ++ g, by rw [List.append_assoc]⟩
theorem base_len {h H : AHeap} (hb : ∃ g, H = h ++ g) : h.length ≤ H.length := by
  obtain ⟨g0, rfl⟩ := hb
  simp
theorem base_set {h H : AHeap} (hb : ∃ g, H = h ++ g) {b : Nat} (hl : h.length ≤ b) (o : AObj) : ∃ g', H.set b o = h ++ g' := by
  obtain ⟨g0, rfl⟩ := hb
  exact ⟨_, List.set_append_right _ _ hl⟩
/-- What a call hands back may be given up for reading. -/
theorem ACalls.freeze {P : Program} {gl : Globs} {f : FuncId} {args : List AV} {h : AHeap} {R R' : AV → AHeap → Prop} (c : ACalls P gl f args h R)
    (hr : ∀ x h', R x h' → ∃ ks x', FrzK ks h' x x' ∧ R' x' (killL h' ks)) : ACalls P gl f args h R' := by
  refine ⟨c.1, fun J w vs hh hv => Calls.mono' (c.2 J w vs hh hv) ?_⟩
  rintro e w' ⟨x, v, J', h', p1, p2, p3, p4, p5⟩
  obtain ⟨ks, x', f1, f2⟩ := hr x h' p5
  obtain ⟨hk, ev⟩ := p2.killL ks
  exact ⟨x', v, J', killL h' ks, p1, hk, FrzK.sound p2 f1 p3, p4.trans ev, f2⟩

theorem Ls.above {n lo : Nat} {H : AHeap} {x : AV} {es : List (List AV)} (r : Ls n lo H x es) : ∀ b off len, x = .own b off len → lo ≤ b := by
  intro b off len e
  rcases r.1 with ⟨e1, _⟩ | ⟨b', e1, hl, _⟩
  · rw [e1] at e; cases e
  · rw [e1] at e; injection e with e2; omega
theorem base_of_keep {h H H' : AHeap} (hb : ∃ g, H = h ++ g) (hk : ∀ b o, b < h.length → H[b]? = some o → H'[b]? = some o) (hl : h.length ≤ H'.length) : ∃ g, H' = h ++ g := by
  obtain ⟨g, rfl⟩ := hb
  refine ⟨H'.drop h.length, ?_⟩
  have : H'.take h.length = h := by
    refine List.ext_getElem? fun i => ?_
    rcases Nat.lt_or_ge i h.length with hi | hi
    · rw [List.getElem?_take_of_lt hi, List.getElem?_eq_getElem hi]
      exact hk i _ hi (by rw [List.getElem?_append_left hi, List.getElem?_eq_getElem hi])
    · rw [List.getElem?_eq_none (by simp; omega), List.getElem?_eq_none hi]
  conv => lhs; rw [← List.take_append_drop h.length H', this]

theorem Nest.blk {n lo bx : Nat} {H : AHeap} {cs : List AV} {rows : List (List (List AV))} (hN : Nest n lo H (.own bx 0 cs.length) cs rows) : H[bx]? = some (.cells 1 (cs.map fun c => [c])) ∧ bx < H.length ∧ (∀ hl : bx < H.length, H[bx] = .cells 1 (cs.map fun c => [c])) ∧ lo ≤ bx := by
  rcases hN.out.1 with ⟨e, _⟩ | ⟨b, e, h1, h2⟩
  · cases e
  · injection e with e1; subst e1
    exact ⟨h2, (List.getElem?_eq_some_iff.1 h2).1, fun _ => (List.getElem?_eq_some_iff.1 h2).2, h1⟩
/-- Lists that are still none. -/
theorem Nest.nils {n lo m : Nat} {H : AHeap} (hl : lo ≤ H.length) : Nest n lo (H ++ [.cells 1 (List.replicate m [.nil])]) (.own H.length 0 (List.replicate m AV.nil).length) (List.replicate m .nil) (List.replicate m []) ∧ NL n lo (H ++ [.cells 1 (List.replicate m [.nil])]) (List.replicate m .nil) (List.replicate m []) := by
  have nil : ∀ (k : Nat) (c : AV), (List.replicate m AV.nil)[k]? = some c → c = .nil := fun k c h => by
    have := List.mem_of_getElem? h
    simp at this; exact this.2
  have nil2 : ∀ (k : Nat) (r : List (List AV)), (List.replicate m ([] : List (List AV)))[k]? = some r → r = [] := fun k r h => by
    have := List.mem_of_getElem? h
    simp at this; exact this.2
  refine ⟨⟨by simp, ⟨.inr ⟨H.length, by simp, hl, by simp⟩, ?_⟩, fun k c r h1 h2 => ?_, fun i j b off len off' len' h1 _ => ?_⟩, fun k c r h1 h2 => ?_⟩
  · intro e he
    obtain ⟨_, _, rfl⟩ := List.mem_map.1 he
    rfl
  · rw [nil k c h1, nil2 k r h2]
    exact ⟨Rs.nil, by simp⟩
  · cases nil _ _ h1
  · rw [nil k c h1, nil2 k r h2]
    exact Ls.nil
theorem Nest.ofNils {n lo m : Nat} {H : AHeap} {x : AV} (hx : Ls 1 lo H x (List.replicate m [.nil])) : Nest n lo H x (List.replicate m .nil) (List.replicate m []) := by
  have nil : ∀ (k : Nat) (c : AV), (List.replicate m AV.nil)[k]? = some c → c = .nil := fun k c h => by
    have := List.mem_of_getElem? h
    simp at this; exact this.2
  have nil2 : ∀ (k : Nat) (r : List (List AV)), (List.replicate m ([] : List (List AV)))[k]? = some r → r = [] := fun k r h => by
    have := List.mem_of_getElem? h
    simp at this; exact this.2
  refine ⟨by simp, by simpa using hx, fun k c r h1 h2 => ?_, fun i j b off len off' len' h1 _ => ?_⟩
  · rw [nil k c h1, nil2 k r h2]
    exact ⟨Rs.nil, by simp⟩
  · cases nil _ _ h1
/-- One of the lists grew and was put back. -/
theorem nest_put {n lo lo' bx k : Nat} {H H1 os : AHeap} {cs : List AV} {rows : List (List (List AV))} {c d : AV} {q ys : List (List AV)} (hN : Nest n lo H (.own bx 0 cs.length) cs rows) (hNL : NL n lo H cs rows) (hc : cs[k]? = some c) (hq : rows[k]? = some q)
    (hd : Ls n lo H1 d (q ++ ys)) (hg : Grow lo' (H ++ os) c H1) (hn : ∀ b off len, d = .own b off len → (H ++ os).length ≤ b) :
    Nest n lo (H1.set bx (.cells 1 ((cs.map fun c => [c]).set k [d]))) (.own bx 0 cs.length) (cs.set k d) (rows.set k (q ++ ys)) ∧ NL n lo (H1.set bx (.cells 1 ((cs.map fun c => [c]).set k [d]))) (cs.set k d) (rows.set k (q ++ ys)) := by
  have hk := (List.getElem?_eq_some_iff.1 hc).1
  obtain ⟨hlx, hbx⟩ : lo ≤ bx ∧ bx < H.length := by
    rcases hN.out.1 with ⟨e, _⟩ | ⟨b, e, h1, h2⟩
    · cases e
    · injection e with e1; subst e1
      exact ⟨h1, (List.getElem?_eq_some_iff.1 h2).1⟩
  have hlen : (H ++ os).length ≤ H1.length := hg.len
  have hlen2 : H.length ≤ (H ++ os).length := by simp
  have hdb : ∀ b off len, d = .own b off len → b ≠ bx ∧ H.length ≤ b := fun b off len e => by
    have := hn b off len e
    omega
  have hd2 : Ls n lo (H1.set bx (.cells 1 ((cs.map fun c => [c]).set k [d]))) d (q ++ ys) := hd.keep' fun b len o e ho => by
    rw [List.getElem?_set_ne (Ne.symm (hdb b _ _ e).1)]; exact ho
  have keep : ∀ b o', H[b]? = some o' → b ≠ bx → (∀ off len, cs[k]? ≠ some (.own b off len)) → (H1.set bx (.cells 1 ((cs.map fun c => [c]).set k [d])))[b]? = some o' := fun b o' hb hne hnc => by
    rw [List.getElem?_set_ne (Ne.symm hne)]
    exact hg.keep b o' (by rw [List.getElem?_append_left (List.getElem?_eq_some_iff.1 hb).1]; exact hb) fun off len e => hnc off len (by rw [hc, e])
  refine ⟨hN.put rfl hk hd2.rs (fun b off len e => ⟨?_, (hdb b off len e).1, fun off' len' hm => ?_⟩) keep ?_, hNL.put hN rfl hk hd2 keep⟩
  · exact hd.above b off len e
  · have := hN.lt hm
    have := (hdb b off len e).2
    omega
  · rw [List.getElem?_set_self (by omega)]
theorem Nest.blk1 {n lo lo' bx k : Nat} {H H1 os : AHeap} {cs : List AV} {rows : List (List (List AV))} {c : AV} {q : List (List AV)} (hN : Nest n lo H (.own bx 0 cs.length) cs rows) (hc : cs[k]? = some c) (hq : rows[k]? = some q) (hg : Grow lo' (H ++ os) c H1) :
    H1[bx]? = some (.cells 1 (cs.map fun c => [c])) ∧ bx < H1.length ∧ ∀ hl : bx < H1.length, H1[bx] = .cells 1 (cs.map fun c => [c]) := by
  have h1 := hg.keep bx _ (by rw [List.getElem?_append_left hN.blk.2.1]; exact hN.blk.1) fun off len e => ((hN.each k c q hc hq).2 bx off len e).2 0 cs.length rfl
  exact ⟨h1, (List.getElem?_eq_some_iff.1 h1).1, fun _ => (List.getElem?_eq_some_iff.1 h1).2⟩
/-- One of the lists turned in its place. -/
theorem nest_turn {n lo bx k : Nat} {H H1 : AHeap} {cs : List AV} {rows : List (List (List AV))} {c : AV} {q : List (List AV)} (hN : Nest n lo H (.own bx 0 cs.length) cs rows) (hNL : NL n lo H cs rows) (hc : cs[k]? = some c)
    (hd : Ls n lo H1 c q) (hk : ∀ b o, H[b]? = some o → (∀ off len, c ≠ .own b off len) → H1[b]? = some o) : Nest n lo H1 (.own bx 0 cs.length) cs (rows.set k q) ∧ NL n lo H1 cs (rows.set k q) := by
  have hkl := (List.getElem?_eq_some_iff.1 hc).1
  have hcs : cs.set k c = cs := by
    refine List.ext_getElem? fun i => ?_
    by_cases e : k = i
    · subst e; rw [List.getElem?_set_self hkl, hc]
    · rw [List.getElem?_set_ne e]
  have hrow : rows[k]? = some (rows[k]'(by rw [← hN.len]; exact hkl)) := List.getElem?_eq_getElem _
  have hapart := (hN.each k c _ hc hrow).2
  have hbx : H[bx]? = some (.cells 1 (cs.map fun c => [c])) := by
    rcases hN.out.1 with ⟨e, _⟩ | ⟨b, e, h1, h2⟩
    · cases e
    · injection e with e1; subst e1; exact h2
  have keep : ∀ b o', H[b]? = some o' → b ≠ bx → (∀ off len, cs[k]? ≠ some (.own b off len)) → H1[b]? = some o' := fun b o' hb hne hnc => hk b o' hb fun off len e => hnc off len (by rw [hc, e])
  have hset : (cs.map fun c => [c]).set k [c] = cs.map fun c => [c] := by rw [← List.map_set (f := fun c : AV => [c]), hcs]
  have h1 := hN.put rfl hkl hd.rs (d := c) (s := q) (h' := H1) (fun b off len e => ⟨(hapart b off len e).1, fun eb => (hapart b off len e).2 0 cs.length (by rw [eb]), fun off' len' hm => by
    obtain ⟨j, hj⟩ := List.getElem?_of_mem hm
    have := hN.apart k j b off len off' len' (by rw [hc, e]) hj
    rw [this]; exact hj⟩) keep (by
      rw [hset]
      exact hk bx _ hbx fun off len e => (hapart bx off len e).2 0 cs.length rfl)
  have h2 := hNL.put hN rfl hkl hd keep
  rw [hcs] at h1 h2
  exact ⟨h1, h2⟩

/-- A part of a block of the call's own, or none: what a queue is. -/
def Oq (n lo : Nat) (h : AHeap) (x : AV) (es : List (List AV)) : Prop :=
  ((x = .nil ∧ es = []) ∨ ∃ b off all, x = .own b off es.length ∧ lo ≤ b ∧ h[b]? = some (.cells n all) ∧ off + es.length ≤ all.length ∧ (all.drop off).take es.length = es) ∧ ∀ e ∈ es, e.length = n

section
variable {P : Program} {n lo : Nat} {h h' : AHeap} {x s : AV} {es ys : List (List AV)} {k : AV → AHeap → Prop} {ts : List TypeId}
theorem Ls.oq (r : Ls n lo h x es) : Oq n lo h x es := by
  obtain ⟨r, hn⟩ := r
  refine ⟨?_, hn⟩
  rcases r with h1 | ⟨b, rfl, hl, hb⟩
  · exact .inl h1
  · exact .inr ⟨b, 0, es, rfl, hl, hb, by omega, by simp⟩
theorem Oq.rs (r : Oq n lo h x es) : Rs n h x es := by
  obtain ⟨r, hn⟩ := r
  rcases r with ⟨rfl, rfl⟩ | ⟨b, off, all, rfl, hl, hb, hle, he⟩
  · exact Rs.nil
  · exact Rs.sub hb hle he.symm hn
theorem Oq.core (r : Oq n lo h x es) : x.core = x := r.rs.fix.1
theorem Oq.more (r : Oq n lo h x es) (g : AHeap) : Oq n lo (h ++ g) x es := by
  obtain ⟨r, hn⟩ := r
  refine ⟨?_, hn⟩
  rcases r with h1 | ⟨b, off, all, rfl, hl, hb, hle, he⟩
  · exact .inl h1
  · refine .inr ⟨b, off, all, rfl, hl, ?_, hle, he⟩
    rw [List.getElem?_append_left (List.getElem?_eq_some_iff.1 hb).1]; exact hb
theorem Oq.put {b : Nat} {o : AObj} (r : Oq n lo h x es) (hb : b < lo) : Oq n lo (h.set b o) x es := by
  obtain ⟨r, hn⟩ := r
  refine ⟨?_, hn⟩
  rcases r with h1 | ⟨b', off, all, rfl, hl, hb', hle, he⟩
  · exact .inl h1
  · exact .inr ⟨b', off, all, rfl, hl, by rw [List.getElem?_set_ne (by omega)]; exact hb', hle, he⟩
theorem Oq.keep (r : Oq n lo h x es) (hk : ∀ b off len o, x = .own b off len → h[b]? = some o → h'[b]? = some o) : Oq n lo h' x es := by
  obtain ⟨r, hn⟩ := r
  refine ⟨?_, hn⟩
  rcases r with h1 | ⟨b', off, all, rfl, hl, hb', hle, he⟩
  · exact .inl h1
  · exact .inr ⟨b', off, all, rfl, hl, hk _ _ _ _ rfl hb', hle, he⟩
/-- Without its first elements. -/
theorem Oq.drop {e : List AV} (r : Oq n lo h x (e :: es)) : ∃ b off, x = .own b off (es.length + 1) ∧ Oq n lo h (.own b (off + 1) es.length) es := by
  obtain ⟨r, hn⟩ := r
  rcases r with ⟨_, h1⟩ | ⟨b, off, all, rfl, hl, hb, hle, he⟩
  · cases h1
  · refine ⟨b, off, rfl, .inr ⟨b, off + 1, all, rfl, hl, hb, by simp at hle; omega, ?_⟩, fun y hy => hn y (List.mem_cons_of_mem _ hy)⟩
    rw [← List.drop_drop]
    have h1 : all.drop off ≠ [] := by
      intro h0
      rw [h0] at he; simp at he
    obtain ⟨y, l, hyl⟩ := List.exists_cons_of_ne_nil h1
    rw [hyl] at he ⊢
    simp only [List.length_cons, List.take_succ_cons, List.cons.injEq] at he
    simpa using he.2
/-- 'queue = queue[1:]'. -/
theorem Oq.tail (P : Program) {e : List AV} (r : Oq n lo h x (e :: es)) (hn : 0 < n) : Oq n lo h (aslice x (some 1) none) es ∧ (∀ t, (tinfo P t).ok = true → (tinfo P t).cells = n → sliceTOk P h (.slice t) x (some 1) none) ∧ (aslice x (some 1) none).core = aslice x (some 1) none ∧ (aslice x (some 1) none).gd = true := by
  have hc := r.rs.cut P hn (some 1) none (by simp [sliceOk, loOk, hiOf]; omega)
  obtain ⟨b, off, rfl, h2⟩ := r.drop
  have e1 : aslice (.own b off (es.length + 1)) (some 1) none = .own b (off + 1) es.length := by simp [aslice, hiOf]
  rw [e1]
  exact ⟨h2, hc.2, rfl, rfl⟩
theorem Oq.above (r : Oq n lo h x es) : ∀ b off len, x = .own b off len → lo ≤ b := by
  intro b off len e
  rcases r.1 with ⟨e1, _⟩ | ⟨b', _, _, e1, hl, _⟩
  · rw [e1] at e; cases e
  · rw [e1] at e; injection e with e2; omega
theorem Oq.slOk (r : Oq n lo h x es) : slOk h x := r.rs.slOk
theorem Oq.aelems (r : Oq n lo h x es) : aelems h x = es := r.rs.aelems

/-- 'append' to a part of a block. -/
theorem append_oq (r : Oq n lo h s es) (hlo : lo ≤ h.length) (hok : appOk P h ts n x ys) (hl : es.length + ys.length ≤ 100000000)
    (hc : ∀ s' h', Ls n lo h' s' (es ++ ys) → Grow lo h s h' → (∀ b off len, s' = .own b off len → h.length ≤ b) → k s' h') : appendOk P h ts s x ∧ appendK n h s x k := by
  unfold appOk at hok
  split at hok
  · rename_i t u
    obtain ⟨hu, huo, ht, hx, hy, hyn⟩ := hok
    split at ht
    · rename_i e he
      obtain ⟨hz, hcn, hn0, hbt⟩ := ht
      have hes := r.aelems
      have hlen : (es.length + ys.length) * (tinfo P e).bytes ≤ 140737488355328 := Nat.le_trans (Nat.mul_le_mul hl hbt) (by omega)
      refine ⟨⟨hu, huo, ?_⟩, ?_⟩
      · rw [he]
        refine ⟨hz, by omega, ?_, r.slOk, hx, by rw [hes, hcn]; exact r.2, by rw [hy, hcn]; exact hyn, by rw [hes, hy]; exact hlen, by rw [hes, hy]; omega⟩
        rcases r.1 with ⟨rfl, _⟩ | ⟨b, off, all, rfl, _, hb, _⟩
        · trivial
        · simp [hb, hcn]
      · have hall : ∀ e ∈ es ++ ys, e.length = n := by
          intro e he
          rcases List.mem_append.1 he with h1 | h1
          · exact r.2 e h1
          · exact hyn e h1
        rcases r.1 with ⟨rfl, rfl⟩ | ⟨b, off, all, rfl, hlb, hb, _⟩
        · unfold appendK
          rw [hy]
          refine ⟨fun h0 => hc _ _ ⟨.inl ⟨rfl, by simp [h0]⟩, hall⟩ ⟨fun b o hb _ => hb, fun h₀ _ hg => hg, Nat.le_refl _⟩ (by simp), fun h0 => hc _ _ ⟨.inr ⟨h.length, by simp, hlo, by simp⟩, hall⟩ ⟨fun b o hb _ => ?_, ?_, by simp⟩ (by simp)⟩
          · rw [List.getElem?_append_left (List.getElem?_eq_some_iff.1 hb).1]; exact hb
          · rintro h₀ _ ⟨g, rfl⟩; exact ⟨g ++ _, by rw [List.append_assoc]⟩
        · unfold appendK
          rw [hes, hy]
          refine hc _ _ ⟨.inr ⟨h.length, by simp, hlo, by simp⟩, hall⟩ ⟨fun b' o hb' hne => ?_, ?_, by simp⟩ (by simp)
          · have hbb : b' ≠ b := by rintro rfl; exact hne off es.length rfl
            rw [List.getElem?_append_left (by simp; exact (List.getElem?_eq_some_iff.1 hb').1), List.getElem?_set_ne (Ne.symm hbb)]; exact hb'
          · rintro h₀ hl₀ ⟨g, rfl⟩
            refine ⟨g.set (b - h₀.length) .dead ++ [.cells n (es ++ ys)], ?_⟩
            rw [List.set_append, if_neg (by omega), List.append_assoc]
    · exact ht.elim
  · exact hok.elim
end
end Go.Abs

namespace Go.Abs
open Go

/-! ### Nil, the empty slice, or the whole of a block of the call's own -/
def Lz (n lo : Nat) (h : AHeap) (x : AV) (es : List (List AV)) : Prop := Ls n lo h x es ∨ (x = .e0 ∧ es = [])
section
variable {P : Program} {gl : Globs} {n lo : Nat} {h h' : AHeap} {x s : AV} {es ys : List (List AV)} {k : AV → AHeap → Prop} {ts : List TypeId}
theorem Ls.z (r : Ls n lo h x es) : Lz n lo h x es := .inl r
theorem Lz.e0 : Lz n lo h .e0 [] := .inr ⟨rfl, rfl⟩
theorem Lz.nil : Lz n lo h .nil [] := .inl .nil
theorem Lz.ls (r : Lz n lo h x es) (hne : es ≠ []) : Ls n lo h x es := r.resolve_right fun e => hne e.2
theorem Lz.rs (r : Lz n lo h x es) : Rs n h x es := by
  rcases r with r | ⟨rfl, rfl⟩
  · exact r.rs
  · exact .inr ⟨rfl, .inr rfl⟩
theorem Lz.more (r : Lz n lo h x es) (g : AHeap) : Lz n lo (h ++ g) x es := r.imp (fun r => r.more g) id
theorem Lz.grow {lo' : Nat} {t : AV} (r : Lz n lo h x es) (g : Grow lo' h t h') (hne : ∀ b, x = .own b 0 es.length → lo ≤ b → ∀ off len, t ≠ .own b off len) : Lz n lo h' x es := r.imp (fun r => r.grow g hne) id
theorem Lz.above (r : Lz n lo h x es) : ∀ b off len, x = .own b off len → lo ≤ b := by
  rcases r with r | ⟨rfl, rfl⟩
  · exact r.above
  · intro b off len e; cases e
theorem Ls.inside (r : Ls n lo h x es) : ∀ b off len, x = .own b off len → b < h.length := by
  intro b off len e
  rcases r.1 with ⟨e1, _⟩ | ⟨b', e1, _, hb⟩
  · rw [e1] at e; cases e
  · rw [e1] at e; injection e with e2; rw [← e2]; exact lt_of_get hb
theorem Lz.inside (r : Lz n lo h x es) : ∀ b off len, x = .own b off len → b < h.length := by
  rcases r with r | ⟨rfl, rfl⟩
  · exact r.inside
  · intro b off len e; cases e
theorem Lz.frz (r : Lz n lo h x es) {m : Nat} (hm : m ≤ lo) (hd : ∀ e ∈ es, ∀ y ∈ e, y.Data) : Frz m h x (.ro es) := by
  rcases r with r | ⟨rfl, rfl⟩
  · exact r.frz hm hd
  · exact .e0
theorem Lz.lend (r : Lz n lo h x es) : ∃ ks, (∀ b ∈ ks, lo ≤ b ∧ ∃ off len, x = .own b off len) ∧ FrzK ks h x (.ro es) := by
  rcases r with r | ⟨rfl, rfl⟩
  · exact r.lend
  · exact ⟨[], by simp, .e0⟩
theorem Lz.put {b : Nat} {o : AObj} (r : Lz n lo h x es) (hb : b < lo) : Lz n lo (h.set b o) x es := r.imp (fun r => r.put hb) id

/-- 'append' to the empty slice. -/
theorem append_e0 (hlo : lo ≤ h.length) (hok : appOk P h ts n x ys) (hl : ys.length ≤ 100000000)
    (hc : ∀ s' h', Lz n lo h' s' ys → Grow lo h .e0 h' → (∀ b off len, s' = .own b off len → h.length ≤ b) → k s' h') : appendOk P h ts .e0 x ∧ appendK n h .e0 x k := by
  unfold appOk at hok
  split at hok
  · rename_i t u
    obtain ⟨hu, huo, ht, hx, hy, hyn⟩ := hok
    split at ht
    · rename_i e he
      obtain ⟨hz, hcn, hn0, hbt⟩ := ht
      have hes : aelems h .e0 = [] := rfl
      have hlen : (0 + ys.length) * (tinfo P e).bytes ≤ 140737488355328 := Nat.le_trans (Nat.mul_le_mul (by omega : 0 + ys.length ≤ 100000000) hbt) (by omega)
      refine ⟨⟨hu, huo, ?_⟩, ?_⟩
      · rw [he]
        refine ⟨hz, by omega, trivial, trivial, hx, by rw [hes]; simp, by rw [hy, hcn]; exact hyn, by rw [hes, hy]; exact hlen, by rw [hes, hy]; simp; omega⟩
      · unfold appendK
        rw [hy]
        refine ⟨fun h0 => hc _ _ (.inr ⟨rfl, h0⟩) ⟨fun b o hb _ => hb, fun h₀ _ hg => hg, Nat.le_refl _⟩ (by simp), fun h0 => hc _ _ (.inl ⟨.inr ⟨h.length, rfl, hlo, by simp⟩, hyn⟩) ⟨fun b o hb _ => ?_, ?_, by simp⟩ (by simp)⟩
        · rw [List.getElem?_append_left (List.getElem?_eq_some_iff.1 hb).1]; exact hb
        · rintro h₀ _ ⟨g, rfl⟩; exact ⟨g ++ _, by rw [List.append_assoc]⟩
    · exact ht.elim
  · exact hok.elim
theorem append_lz (r : Lz n lo h s es) (hlo : lo ≤ h.length) (hok : appOk P h ts n x ys) (hl : es.length + ys.length ≤ 100000000)
    (hc : ∀ s' h', Lz n lo h' s' (es ++ ys) → Grow lo h s h' → (∀ b off len, s' = .own b off len → h.length ≤ b) → k s' h') : appendOk P h ts s x ∧ appendK n h s x k := by
  rcases r with r | ⟨rfl, rfl⟩
  · exact append_new r hlo hok hl fun s' h' a => hc s' h' a.z
  · exact append_e0 hlo hok (by simpa using hl) fun s' h' a => hc s' h' (by simpa using a)

/-! ### What lies in the heap may be read from now on -/
theorem hrel_turn1 {J : List Blk} {w : World} (hh : HRel gl h J w) (ks : List Nat) {b : Nat} {es es' : List (List AV)} (hb : h[b]? = some (.cells n es)) (hbk : b ∉ ks) (hl : es'.length = es.length)
    (hlen : ∀ (i : Nat) (e e' : List AV), es[i]? = some e → es'[i]? = some e' → e'.length = e.length)
    (hc : ∀ (i : Nat) (e e' : List AV) (c : Nat) (x x' : AV), es[i]? = some e → es'[i]? = some e' → e[c]? = some x → e'[c]? = some x' → FrzK ks h x x') :
    HRel gl ((killL h ks).set b (.cells n es')) J w ∧ Evo h J w ((killL h ks).set b (.cells n es')) J w ∧ Own ((killL h ks).set b (.cells n es')) J = Own (killL h ks) J := by
  obtain ⟨hk, ev⟩ := hh.killL ks
  have hbK : (killL h ks)[b]? = some (.cells n es) := by rw [killL_keep ks h b hbk]; exact hb
  have hbl := lt_of_get hbK
  have conv : ∀ (b1 : Nat) (o : AObj), ((killL h ks).set b (.cells n es'))[b1]? = some o → ∃ o1, (killL h ks)[b1]? = some o1 ∧ (o ≠ .dead → o1 ≠ .dead) ∧ (b1 ≠ b → o1 = o) := by
    intro b1 o ho
    by_cases e : b1 = b
    · subst e
      exact ⟨_, hbK, fun _ => by simp, fun q => absurd rfl q⟩
    · rw [List.getElem?_set_ne (Ne.symm e)] at ho
      exact ⟨o, ho, id, fun _ => rfl⟩
  have hO : Own ((killL h ks).set b (.cells n es')) J = Own (killL h ks) J := by
    funext r
    refine propext ⟨?_, ?_⟩
    · rintro ⟨b1, k1, o, h1, h2, h3, h4⟩
      obtain ⟨o1, q1, q2, _⟩ := conv b1 o h2
      exact ⟨b1, k1, o1, h1, q1, q2 h3, h4⟩
    · rintro ⟨b1, k1, o, h1, h2, h3, h4⟩
      by_cases e : b1 = b
      · subst e
        exact ⟨b1, k1, .cells n es', h1, List.getElem?_set_self hbl, by simp, h4⟩
      · exact ⟨b1, k1, o, h1, by rw [List.getElem?_set_ne (Ne.symm e)]; exact h2, h3, h4⟩
  refine ⟨⟨by rw [List.length_set]; exact hk.len, ?_, hk.lt, ?_, fun g cs hg => by rw [hO]; exact hk.glob g cs hg⟩, ?_, hO⟩
  · intro b1 b2 k1 k2 o1 o2 h1 h2 h3 h4 h5 h6 h7
    obtain ⟨p1, q1, q2, _⟩ := conv b1 o1 h3
    obtain ⟨p2, q3, q4, _⟩ := conv b2 o2 h4
    exact hk.inj b1 b2 k1 k2 p1 p2 h1 h2 q1 q3 (q2 h5) (q4 h6) h7
  · intro b1 k1 o h1 h2
    rw [hO]
    by_cases e : b1 = b
    · subst e
      rw [List.getElem?_set_self hbl] at h2
      injection h2 with h2
      subst h2
      obtain ⟨q1, q2, q3, q4, vs, T, q5, q6, q7⟩ := hh.obj b1 k1 _ h1 hb
      refine ⟨q1, q2, by omega, fun i e' hi => ?_, vs, T, q5, q6, fun i e' c x' hi hx => ?_⟩
      · have hlt := lt_of_get hi
        have he : es[i]? = some (es[i]'(by omega)) := List.getElem?_eq_getElem (by omega)
        rw [hlen i _ e' he hi]
        exact q4 i _ he
      · have hlt := lt_of_get hi
        have he : es[i]? = some (es[i]'(by omega)) := List.getElem?_eq_getElem (by omega)
        have hcl := lt_of_get hx
        have hel := hlen i _ e' he hi
        have hxe : (es[i]'(by omega))[c]? = some ((es[i]'(by omega))[c]'(by omega)) := List.getElem?_eq_getElem (by omega)
        obtain ⟨u, p1, p2, p3⟩ := q7 i _ c _ he hxe
        exact ⟨u, p1, p2, FrzK.sound hh (hc i _ e' c _ x' he hi hxe hx) p3⟩
    · rw [List.getElem?_set_ne (Ne.symm e)] at h2
      exact hk.obj b1 k1 o h1 h2
  · refine ev.trans ⟨⟨[], by simp⟩, Nat.le_refl _, fun r _ hn => ⟨rfl, by rw [hO]; exact hn⟩, rfl, rfl, rfl⟩
theorem AWP.freezeH {N : Nat} {c : Code} {Q : APost} {fr fr' : AFrame} (ks : List Nat) {b : Nat} {es es' : List (List AV)} (hb : h[b]? = some (.cells n es)) (hbk : b ∉ ks) (hl : es'.length = es.length)
    (hlen : ∀ (i : Nat) (e e' : List AV), es[i]? = some e → es'[i]? = some e' → e'.length = e.length)
    (hc : ∀ (i : Nat) (e e' : List AV) (c : Nat) (x x' : AV), es[i]? = some e → es'[i]? = some e' → e[c]? = some x → e'[c]? = some x' → FrzK ks h x x')
    (hf : ∀ t, FrzK ks h (fr t) (fr' t)) (k : AWP P gl N c Q fr' ((killL h ks).set b (.cells n es'))) : AWP P gl N c Q fr h := by
  intro J a w r
  obtain ⟨hk, ev, hO⟩ := hrel_turn1 r.heap ks hb hbk hl hlen hc
  have r' : ARel gl N J fr' ((killL h ks).set b (.cells n es')) a w := ⟨r.size, r.defers, fun t => by rw [hO]; exact FrzK.sound r.heap (hf t) (r.tmps t), hk⟩
  exact wp_mono (k J a w r') fun _ _ _ hl => lift_evo ev hl
/-- A list in a slot of the frame is read from now on. -/
theorem AWP.freezeL {N : Nat} {c : Code} {Q : APost} {fr : AFrame} (t0 : Nat) (hx : fr t0 = x) (r : Lz n lo h x es)
    (k : ∀ fr' h', fr' t0 = .ro es → (∀ t, t ≠ t0 → fr' t = fr t) → Grow lo h x h' → h'.length = h.length → AWP P gl N c Q fr' h') : AWP P gl N c Q fr h := by
  obtain ⟨ks, hks, hf⟩ := r.lend
  refine AWP.freeze (fr' := fun t => if t = t0 then .ro es else fr t) ks (fun t => ?_) (k _ _ (by simp) (fun t ht => by simp [ht]) ⟨fun b o hb hne => ?_, fun h₀ hl₀ hg => ?_, by rw [killL_len]; exact Nat.le_refl _⟩ (killL_len _ _))
  · by_cases e : t = t0
    · subst e; rw [if_pos rfl, hx]; exact hf
    · rw [if_neg e]; exact .same _
  · rw [killL_keep ks h b fun hb => ?_]
    · exact hb
    · obtain ⟨_, off, len, e⟩ := hks b hb
      exact hne off len e
  · obtain ⟨g, rfl⟩ := hg
    exact killL_base ks h₀ g fun b hb => by have := (hks b hb).1; omega
/-- A list in a cell of a block, and in a slot of the frame, is read from now on. -/
theorem AWP.freezeF {N : Nat} {c : Code} {Q : APost} {fr : AFrame} (t0 b m : Nat) (pre post : List AV) (hx : fr t0 = x) (r : Lz n lo h x es) (hb : h[b]? = some (.cells m [pre ++ x :: post])) (hne : ∀ off len, x ≠ .own b off len)
    (k : ∀ fr' h', fr' t0 = .ro es → (∀ t, t ≠ t0 → fr' t = fr t) → h'[b]? = some (.cells m [pre ++ .ro es :: post]) → (∀ (b' : Nat) (o : AObj), b' ≠ b → h[b']? = some o → (∀ off len, x ≠ .own b' off len) → h'[b']? = some o) →
      (∀ h₀ : AHeap, h₀.length ≤ lo → h₀.length ≤ b → (∃ g, h = h₀ ++ g) → ∃ g, h' = h₀ ++ g) → h'.length = h.length → AWP P gl N c Q fr' h') : AWP P gl N c Q fr h := by
  obtain ⟨ks, hks, hf⟩ := r.lend
  have hbk : b ∉ ks := fun hb => by obtain ⟨_, off, len, e⟩ := hks b hb; exact hne off len e
  have hbl : b < (killL h ks).length := by rw [killL_len]; exact lt_of_get hb
  refine AWP.freezeH (fr' := fun t => if t = t0 then .ro es else fr t) ks (es' := [pre ++ .ro es :: post]) hb hbk rfl ?_ ?_ (fun t => ?_) (k _ _ (by simp) (fun t ht => by simp [ht]) (List.getElem?_set_self hbl) (fun b' o hne' ho hx' => ?_) (fun h₀ hl₀ hl₁ hg => ?_) (by rw [List.length_set, killL_len]))
  · intro i e e' he he'
    cases i with
    | zero => simp at he he'; subst he; subst he'; simp
    | succ i => simp at he
  · intro i e e' c y y' he he' hy hy'
    cases i with
    | succ i => simp at he
    | zero =>
      simp only [List.length_cons, List.length_nil, List.getElem?_cons_zero, Option.some.injEq] at he he'
      subst he; subst he'
      rcases Nat.lt_trichotomy c pre.length with q | q | q
      · rw [List.getElem?_append_left q] at hy hy'
        rw [hy] at hy'; injection hy' with e; rw [e]; exact .same _
      · subst q
        rw [List.getElem?_append_right (Nat.le_refl _), Nat.sub_self] at hy hy'
        simp at hy hy'
        subst hy; subst hy'
        exact hf
      · rw [List.getElem?_append_right (by omega)] at hy hy'
        obtain ⟨d, hd⟩ : ∃ d, c - pre.length = d + 1 := ⟨c - pre.length - 1, by omega⟩
        rw [hd] at hy hy'
        simp only [List.getElem?_cons_succ] at hy hy'
        rw [hy] at hy'; injection hy' with e; rw [e]; exact .same _
  · by_cases e : t = t0
    · subst e; rw [if_pos rfl, hx]; exact hf
    · rw [if_neg e]; exact .same _
  · rw [List.getElem?_set_ne (Ne.symm hne'), killL_keep ks h b' fun hb => ?_]
    · exact ho
    · obtain ⟨_, off, len, e⟩ := hks b' hb
      exact hx' off len e
  · obtain ⟨g, rfl⟩ := hg
    obtain ⟨g', hg'⟩ := killL_base ks h₀ g fun b hb => by have := (hks b hb).1; omega
    rw [hg', List.set_append_right _ _ hl₁]
    exact ⟨_, rfl⟩
end

/-! ### A piece of code as a Prop, with places where the walk stops -/
def headId : Code → Nat
  | .region id _ _ => id + 1
  | .seq a _ => headId a
  | .block _ c => headId c
  | _ => 0
@[simp] theorem headId_region (id : Nat) (ops : Array Oper) (d : Bool) : headId (.region id ops d) = id + 1 := rfl
@[simp] theorem headId_seq (a b : Code) : headId (.seq a b) = headId a := rfl
@[simp] theorem headId_block (id : Nat) (b : Code) : headId (.block id b) = headId b := rfl
@[simp] theorem headId_cond (c : Operand) (a b : Code) : headId (.cond c a b) = 0 := rfl
@[simp] theorem headId_skip : headId .skip = 0 := rfl
@[simp] theorem headId_loop (c : Code) : headId (.loop c) = 0 := rfl
@[simp] theorem headId_exit (c : Nat) : headId (.exit c) = 0 := rfl
@[simp] theorem headId_label (c : Nat) : headId (.label c) = 0 := rfl
@[simp] theorem headId_ret : headId .ret = 0 := rfl
/-- No jump leaves a scope. -/
def ANoGoto (Q : APost) : APost
  | .goto _, _, _ => False
  | e, fr, h => Q e fr h
theorem AWP.scope {P : Program} {gl : Globs} {N : Nat} {fr : AFrame} {h : AHeap} {Q : APost} {c : Code} (hc : AWP P gl N c (ANoGoto Q) fr h) : AWP P gl N (.scope c) Q fr h := by
  intro J a w r
  refine wp_scope_straight (wp_mono (hc J a w r) ?_)
  rintro e a' w' ⟨J', fr', h', p1, p2, p3⟩
  cases e with
  | goto l => exact p3.elim
  | _ => exact ⟨J', fr', h', p1, p2, p3⟩
@[simp] theorem nogoto_normal {Q : APost} {fr : AFrame} {h : AHeap} : ANoGoto Q .normal fr h ↔ Q .normal fr h := Iff.rfl
@[simp] theorem nogoto_ret {Q : APost} {fr : AFrame} {h : AHeap} : ANoGoto Q .ret fr h ↔ Q .ret fr h := Iff.rfl
@[simp] theorem nogoto_exit {Q : APost} {fr : AFrame} {h : AHeap} (id : Nat) : ANoGoto Q (.exit id) fr h ↔ Q (.exit id) fr h := Iff.rfl
/-- Where the code begins with the region s, the walk stops. -/
def awpF (s : Nat) (P : Program) (gl : Globs) (N : Nat) : Code → APost → AFrame → AHeap → Prop
  | .skip, Q, fr, h => Q .normal fr h
  | .label _, Q, fr, h => Q .normal fr h
  | .seq a b, Q, fr, h => awpF s P gl N a (AThen (fun fr h => if headId b = s + 1 then AWP P gl N b Q fr h else awpF s P gl N b Q fr h) Q) fr h
  | .cond c x y, Q, fr, h => (ev gl fr c).gd = true ∧ isB (ev gl fr c).core (acond (awpF s P gl N x Q) (awpF s P gl N y Q) fr h)
  | .block id c, Q, fr, h => awpF s P gl N c (ABlock id Q) fr h
  | .exit id, Q, fr, h => Q (.exit id) fr h
  | .ret, Q, fr, h => Q .ret fr h
  | .region _ ops false, Q, fr, h => aops P gl N false ops ops.toList (Q .normal) fr h
  | .region _ ops true, Q, fr, h => drawOk ops = true ∧ aops P gl N true ops ops.toList (Q .normal) fr h
  | .loop c, Q, fr, h => AWP P gl N (.loop c) Q fr h
  | .scope c, Q, fr, h => awpF s P gl N c (ANoGoto Q) fr h
  | _, _, _, _ => False
section
variable {P : Program} {gl : Globs} {N s : Nat} {fr : AFrame} {h : AHeap} {Q : APost} {ops : Array Oper}
theorem AWP.of_awpF (hm : P.follows .mixedOrders = true) : ∀ (c : Code) (Q : APost) (fr : AFrame) (h : AHeap), awpF s P gl N c Q fr h → AWP P gl N c Q fr h
  | .skip, Q, fr, h, hs => AWP.skip hs
  | .label _, Q, fr, h, hs => AWP.label hs
  | .seq a b, Q, fr, h, hs => by
    refine AWP.seq ((AWP.of_awpF hm a _ fr h hs).mono ?_)
    intro e fr' h' q
    cases e with
    | normal =>
      have q : if headId b = s + 1 then AWP P gl N b Q fr' h' else awpF s P gl N b Q fr' h' := q
      split at q
      · exact q
      · exact AWP.of_awpF hm b Q fr' h' q
    | _ => exact q
  | .cond c x y, Q, fr, h, hs => by
    obtain ⟨hg, hs⟩ := hs
    unfold isB at hs
    split at hs
    · rename_i t ht
      intro J a w r
      have re := (ev_sound (a := a) r.heap (fun t' _ => r.tmps t') : VRel J (Own h J) w (ev gl fr c) (a.eval c)).core hg
      rw [ht] at re
      have hc : a.eval c = .bool t := by
        generalize a.eval c = v at re
        cases re
        rfl
      refine wp_cond hc ?_
      cases t with
      | true => exact AWP.of_awpF hm x Q fr h (hs.1 rfl) J a w r
      | false => exact AWP.of_awpF hm y Q fr h (hs.2 rfl) J a w r
    · exact hs.elim
  | .block id c, Q, fr, h, hs => AWP.block (AWP.of_awpF hm c _ fr h hs)
  | .exit id, Q, fr, h, hs => AWP.exit hs
  | .ret, Q, fr, h, hs => AWP.ret hs
  | .region _ ops false, Q, fr, h, hs => AWP.region hs
  | .region _ ops true, Q, fr, h, hs => AWP.region_draw hm hs.1 hs.2
  | .loop c, Q, fr, h, hs => hs
  | .rangeFunc .., _, _, _, hs => hs.elim
  | .scope c, Q, fr, h, hs => AWP.scope (AWP.of_awpF hm c _ fr h hs)
  | .goto _, _, _, _, hs => hs.elim
  | .refuse _, _, _, _, hs => hs.elim
theorem ACalls.bodyF (s : Nat) {f : FuncId} (fn : Func) (c : Code) {args : List AV} {R : AV → AHeap → Prop} (hm : P.follows .mixedOrders = true) (hf : P.funcs[f]? = some fn) (hb : fn.body = some c) (hname : (fn.name == "runtime.NumGoroutine") = false)
    (hn : args.length ≤ fn.ntmps) (hc : awpF s P gl fn.ntmps c (rleaves P fn R) (ainit args) h) : ACalls P gl f args h R :=
  ACalls.of_body' hf hb hname hn (AWP.of_awpF hm c _ _ _ hc)
theorem AWP.upF (s : Nat) {c : Code} (hm : P.follows .mixedOrders = true) (n : Nat) (I : Nat → AFrame → AHeap → Prop) (k : Nat) (hk : k ≤ n) (h0 : I k fr h)
    (round : ∀ k fr h, k ≤ n → I k fr h → awpF s P gl N c (AThen (fun fr' h' => ∃ k', k < k' ∧ k' ≤ n ∧ I k' fr' h') Q) fr h) : AWP P gl N (.loop c) Q fr h :=
  AWP.loop_up n I k hk h0 fun k fr h h1 h2 => AWP.of_awpF hm c _ _ _ (round k fr h h1 h2)
theorem AWP.downF (s : Nat) {c : Code} (hm : P.follows .mixedOrders = true) (I : Nat → AFrame → AHeap → Prop) (k : Nat) (h0 : I k fr h)
    (round : ∀ k fr h, I k fr h → awpF s P gl N c (AThen (fun fr' h' => ∃ k', k' < k ∧ I k' fr' h') Q) fr h) : AWP P gl N (.loop c) Q fr h :=
  AWP.loop I k h0 fun k fr h h2 => AWP.of_awpF hm c _ _ _ (round k fr h h2)
@[simp] theorem awpF_skip : awpF s P gl N .skip Q fr h ↔ Q .normal fr h := Iff.rfl
@[simp] theorem awpF_label (l : Nat) : awpF s P gl N (.label l) Q fr h ↔ Q .normal fr h := Iff.rfl
@[simp] theorem awpF_seq (a b : Code) : awpF s P gl N (.seq a b) Q fr h ↔ awpF s P gl N a (AThen (fun fr h => if headId b = s + 1 then AWP P gl N b Q fr h else awpF s P gl N b Q fr h) Q) fr h := Iff.rfl
@[simp] theorem awpF_cond (c : Operand) (x y : Code) : awpF s P gl N (.cond c x y) Q fr h ↔ (ev gl fr c).gd = true ∧ isB (ev gl fr c).core (acond (awpF s P gl N x Q) (awpF s P gl N y Q) fr h) := Iff.rfl
@[simp] theorem awpF_block (id : Nat) (c : Code) : awpF s P gl N (.block id c) Q fr h ↔ awpF s P gl N c (ABlock id Q) fr h := Iff.rfl
@[simp] theorem awpF_exit (id : Nat) : awpF s P gl N (.exit id) Q fr h ↔ Q (.exit id) fr h := Iff.rfl
@[simp] theorem awpF_ret : awpF s P gl N .ret Q fr h ↔ Q .ret fr h := Iff.rfl
@[simp] theorem awpF_region (id : Nat) : awpF s P gl N (.region id ops false) Q fr h ↔ aops P gl N false ops ops.toList (Q .normal) fr h := Iff.rfl
@[simp] theorem awpF_draw (id : Nat) : awpF s P gl N (.region id ops true) Q fr h ↔ drawOk ops = true ∧ aops P gl N true ops ops.toList (Q .normal) fr h := Iff.rfl
@[simp] theorem awpF_scope (c : Code) : awpF s P gl N (.scope c) Q fr h ↔ awpF s P gl N c (ANoGoto Q) fr h := Iff.rfl
@[simp] theorem awpF_loop (c : Code) : awpF s P gl N (.loop c) Q fr h ↔ AWP P gl N (.loop c) Q fr h := Iff.rfl
end
end Go.Abs
