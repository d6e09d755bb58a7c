/-
  Contracts: all simple paths.
-/
import Derived.Test.YtdmfdgkicbhdoaaGrE
import Derived.Test.YtdmfdgkicbhdoaaAbsLax
set_option linter.unusedVariables false
set_option linter.unusedSimpArgs false
set_option maxRecDepth 100000
namespace Go.Proofs.Ytdmfdgkicbhdoaa
open Go Go.Abs Go.Toll
variable {gl : Globs} {h : AHeap}

theorem Oq.isOwn {n lo : Nat} {H : AHeap} {x : AV} {es : List (List AV)} (r : Oq n lo H x es) (h : es ≠ []) : ∃ b off all, x = .own b off es.length ∧ lo ≤ b ∧ H[b]? = some (.cells n all) ∧ off + es.length ≤ all.length ∧ (all.drop off).take es.length = es := by
  rcases r.1 with ⟨_, e⟩ | h1
  · exact absurd e h
  · exact h1
theorem slices_CloneT (p : List Bytes) (x : AV) (lo : Nat) (hne : p ≠ []) (hx : Oq 1 lo h x (p.map encT)) (hl : p.length ≤ 1000000) : ACalls Try.prog gl 61 [x] h fun v h' => v = .ro (p.map encT) ∧ h' = h := by
  refine ACalls.fresh' (ACalls.body Try.f61 _ mixed Try.func61 rfl rfl (by simp [Try.ntmps61]) ?_)
  obtain ⟨b, off, all, rfl, h1, h2, h3, h4⟩ := Oq.isOwn hx (by simpa using hne)
  obtain ⟨hb, hb'⟩ := List.getElem?_eq_some_iff.1 h2
  have hpn := texts_n p
  simp [h2, hb', hb]
  rw [List.length_map] at h3 h4
  have hm : min p.length (all.length - off) = p.length := by omega
  rw [h4, hm]
  refine ⟨⟨h3, hpn, by omega, by omega⟩, ?_⟩
  have := Frz.ownD (n := h.length) (b := h.length + 1) (m := 1) (off := 0) (len := p.length) (es := p.map encT) (es' := p.map encT) (h := h ++ [.dead, .cells 1 (p.map encT)]) (by simp) (by omega) (by simp) (by rw [List.drop_zero, List.take_of_length_le (by simp)]) (texts_data p)
  exact this
def encPa (p : List Bytes) : List AV := [.ro (p.map encT)]
def walkFn (R : Nat) : AV := .fn (.func 60) [] [.ptr (R + 5) 0 0, .ptr R 0 0, .ptr (R + 4) 0 0, .ptr (R + 1) 0 0, .ptr (R + 2) 0 0, .ptr (R + 6) 0 0]
/-- The heap while paths are collected: the roads, the end, the paths found, what is used, the path. -/
structure WalkH (h H : AHeap) (R m : Nat) (v : Net) (t : Bytes) (us : List Bool) (p : List Bytes) (x : AV) (f : List (List Bytes)) (y : AV) : Prop where
  roads : H[R]? = some (.cells 3 [encRoads v m])
  goal : H[R + 1]? = some (.cells 1 [[.int .i64 (posN v t)]])
  outB : H[R + 2]? = some (.cells 1 [[y]])
  marks : H[R + 3]? = some (.cells 1 (us.map encB))
  usedB : H[R + 4]? = some (.cells 1 [[.own (R + 3) 0 (ptsN v).length]])
  pathB : H[R + 5]? = some (.cells 1 [[x]])
  walkB : H[R + 6]? = some (.cells 1 [[walkFn R]])
  path : Oq 1 (R + 7) H x (p.map encT)
  out : Ls 1 (R + 7) H y (f.map encPa)
  apart : ∀ b off len off' len', x = .own b off len → y ≠ .own b off' len'
  base : ∃ g, H = h ++ g
  ple : h.length ≤ R
section
variable {H H' : AHeap} {R m : Nat} {v : Net} {t : Bytes} {us us' : List Bool} {p p' : List Bytes} {x x' y y' : AV} {f f' : List (List Bytes)}
theorem WalkH.keep (w : WalkH h H R m v t us p x f y) (hk : ∀ b o, b < R + 7 → H[b]? = some o → H'[b]? = some o) (hx : Oq 1 (R + 7) H' x (p.map encT)) (hy : Ls 1 (R + 7) H' y (f.map encPa)) (hb : ∃ g, H' = h ++ g) : WalkH h H' R m v t us p x f y :=
  ⟨hk _ _ (by omega) w.roads, hk _ _ (by omega) w.goal, hk _ _ (by omega) w.outB, hk _ _ (by omega) w.marks, hk _ _ (by omega) w.usedB, hk _ _ (by omega) w.pathB, hk _ _ (by omega) w.walkB, hx, hy, w.apart, hb, w.ple⟩
theorem WalkH.more (w : WalkH h H R m v t us p x f y) (g : AHeap) : WalkH h (H ++ g) R m v t us p x f y :=
  w.keep (fun b o _ ho => by rw [List.getElem?_append_left (List.getElem?_eq_some_iff.1 ho).1]; exact ho) (w.path.more g) (w.out.more g) (base_more w.base g)
theorem WalkH.all (w : WalkH h H R m v t us p x f y) : (H[R]? = some (.cells 3 [encRoads v m]) ∧ H[R + 1]? = some (.cells 1 [[.int .i64 (posN v t)]]) ∧ H[R + 2]? = some (.cells 1 [[y]]) ∧ H[R + 3]? = some (.cells 1 (us.map encB)) ∧ H[R + 4]? = some (.cells 1 [[.own (R + 3) 0 (ptsN v).length]]) ∧ H[R + 5]? = some (.cells 1 [[x]]) ∧ H[R + 6]? = some (.cells 1 [[walkFn R]])) ∧
    (R < H.length ∧ R + 1 < H.length ∧ R + 2 < H.length ∧ R + 3 < H.length ∧ R + 4 < H.length ∧ R + 5 < H.length ∧ R + 6 < H.length) ∧
    ((∀ hl : R < H.length, H[R] = .cells 3 [encRoads v m]) ∧ (∀ hl : R + 1 < H.length, H[R + 1] = .cells 1 [[.int .i64 (posN v t)]]) ∧ (∀ hl : R + 2 < H.length, H[R + 2] = .cells 1 [[y]]) ∧ (∀ hl : R + 3 < H.length, H[R + 3] = .cells 1 (us.map encB)) ∧ (∀ hl : R + 4 < H.length, H[R + 4] = .cells 1 [[.own (R + 3) 0 (ptsN v).length]]) ∧ (∀ hl : R + 5 < H.length, H[R + 5] = .cells 1 [[x]]) ∧ ∀ hl : R + 6 < H.length, H[R + 6] = .cells 1 [[walkFn R]]) := by
  have hl := (List.getElem?_eq_some_iff.1 w.walkB).1
  exact ⟨⟨w.roads, w.goal, w.outB, w.marks, w.usedB, w.pathB, w.walkB⟩, ⟨by omega, by omega, by omega, by omega, by omega, by omega, hl⟩, fun _ => (List.getElem?_eq_some_iff.1 w.roads).2, fun _ => (List.getElem?_eq_some_iff.1 w.goal).2, fun _ => (List.getElem?_eq_some_iff.1 w.outB).2, fun _ => (List.getElem?_eq_some_iff.1 w.marks).2, fun _ => (List.getElem?_eq_some_iff.1 w.usedB).2, fun _ => (List.getElem?_eq_some_iff.1 w.pathB).2, fun _ => (List.getElem?_eq_some_iff.1 w.walkB).2⟩
/-- The path's block went on under a new name; the new one is kept in its box. -/
theorem WalkH.grow (w : WalkH h H R m v t us p x f y) {lo : Nat} (g : Grow lo H x H') (hlo : h.length ≤ lo) (q : Ls 1 (R + 7) H' x' (p'.map encT)) (hn : ∀ b off len, x' = .own b off len → H.length ≤ b) : WalkH h (H'.set (R + 5) (.cells 1 [[x']])) R m v t us p' x' f y := by
  have hx := w.path.above
  have k : ∀ b o, b < R + 7 → b ≠ R + 5 → H[b]? = some o → (H'.set (R + 5) (.cells 1 [[x']]))[b]? = some o := fun b o hb hne ho => by
    rw [List.getElem?_set_ne (Ne.symm hne)]
    exact g.keep b o ho fun off len e => by have := hx _ _ _ e; omega
  have hl := g.len
  have hw := w.all.2.1
  have hb := g.base h hlo w.base
  refine ⟨k _ _ (by omega) (by omega) w.roads, k _ _ (by omega) (by omega) w.goal, k _ _ (by omega) (by omega) w.outB, k _ _ (by omega) (by omega) w.marks, k _ _ (by omega) (by omega) w.usedB, List.getElem?_set_self (by omega), k _ _ (by omega) (by omega) w.walkB, (q.put (by omega)).oq, ?_, fun b off len off' len' e e' => ?_, base_set hb (by have := w.ple; omega) _, w.ple⟩
  · exact (w.out.grow g fun b e _ off len e' => w.apart _ _ _ _ _ e' e).put (by omega)
  · have h1 := hn _ _ _ e
    have h2 := w.out.rs.lt e'
    omega
theorem WalkH.mark (w : WalkH h H R m v t us p x f y) (us' : List Bool) : WalkH h (H.set (R + 3) (.cells 1 (us'.map encB))) R m v t us' p x f y := by
  have k : ∀ b o, b ≠ R + 3 → H[b]? = some o → (H.set (R + 3) (.cells 1 (us'.map encB)))[b]? = some o := fun b o hne ho => by rw [List.getElem?_set_ne (Ne.symm hne)]; exact ho
  exact ⟨k _ _ (by omega) w.roads, k _ _ (by omega) w.goal, k _ _ (by omega) w.outB, List.getElem?_set_self w.all.2.1.2.2.2.1, k _ _ (by omega) w.usedB, k _ _ (by omega) w.pathB, k _ _ (by omega) w.walkB, w.path.put (by omega), w.out.put (by omega), w.apart, base_set w.base (by have := w.ple; omega) _, w.ple⟩
theorem WalkH.add (w : WalkH h H R m v t us p x f y) {lo : Nat} (g : Grow lo H y H') (hlo : h.length ≤ lo) (q : Ls 1 (R + 7) H' y' (f'.map encPa)) (hn : ∀ b off len, y' = .own b off len → H.length ≤ b) : WalkH h (H'.set (R + 2) (.cells 1 [[y']])) R m v t us p x f' y' := by
  have hy := w.out.above
  have k : ∀ b o, b < R + 7 → b ≠ R + 2 → H[b]? = some o → (H'.set (R + 2) (.cells 1 [[y']]))[b]? = some o := fun b o hb hne ho => by
    rw [List.getElem?_set_ne (Ne.symm hne)]
    exact g.keep b o ho fun off len e => by have := hy _ _ _ e; omega
  have hl := g.len
  have hw := w.all.2.1
  have hb := g.base h hlo w.base
  refine ⟨k _ _ (by omega) (by omega) w.roads, k _ _ (by omega) (by omega) w.goal, List.getElem?_set_self (by omega), k _ _ (by omega) (by omega) w.marks, k _ _ (by omega) (by omega) w.usedB, k _ _ (by omega) (by omega) w.pathB, k _ _ (by omega) (by omega) w.walkB, ?_, q.put (by omega), fun b off len off' len' e e' => ?_, base_set hb (by have := w.ple; omega) _, w.ple⟩
  · refine (w.path.keep fun b off len o e ho => ?_)
    rw [List.getElem?_set_ne (by have := w.path.above _ _ _ e; omega)]
    exact g.keep b o ho fun off' len' e' => w.apart _ _ _ _ _ e e'
  · have h1 := hn _ _ _ e'
    have h2 := w.path.rs.lt e
    omega
/-- The path is cut. -/
theorem WalkH.cut (w : WalkH h H R m v t us p x f y) (q : Oq 1 (R + 7) H x' (p'.map encT)) (hs : ∀ b off len, x' = .own b off len → ∃ off' len', x = .own b off' len') : WalkH h (H.set (R + 5) (.cells 1 [[x']])) R m v t us p' x' f y := by
  have k : ∀ b o, b ≠ R + 5 → H[b]? = some o → (H.set (R + 5) (.cells 1 [[x']]))[b]? = some o := fun b o hne ho => by rw [List.getElem?_set_ne (Ne.symm hne)]; exact ho
  refine ⟨k _ _ (by omega) w.roads, k _ _ (by omega) w.goal, k _ _ (by omega) w.outB, k _ _ (by omega) w.marks, k _ _ (by omega) w.usedB, List.getElem?_set_self w.all.2.1.2.2.2.2.2.1, k _ _ (by omega) w.walkB, q.put (by omega), w.out.put (by omega), fun b off len off' len' e e' => ?_, base_set w.base (by have := w.ple; omega) _, w.ple⟩
  obtain ⟨o1, l1, e1⟩ := hs b off len e
  exact w.apart _ _ _ _ _ e1 e'
end
def marked (v : Net) (us : List Bool) (p : List Bytes) : Prop := us.length = (ptsN v).length ∧ ∀ s, hasPt v.pts s = true → us[posN v s]? = some (decide (s ∈ p))
theorem marked.push {v : Net} (ok : NetOk v) {us : List Bool} {p : List Bytes} {s : Bytes} (hm : marked v us p) (hs : hasPt v.pts s = true) : marked v (us.set (posN v s) true) (p ++ [s]) := by
  refine ⟨by rw [List.length_set]; exact hm.1, fun z hz => ?_⟩
  by_cases e : z = s
  · subst e
    rw [List.getElem?_set_self (by rw [hm.1]; exact posN_lt hz)]; simp
  · rw [List.getElem?_set_ne (fun h => e (posN_inj ok hs hz h).symm), hm.2 z hz]; simp [e]
def ClaimW (gl : Globs) (h : AHeap) (R m : Nat) (v : Net) (t : Bytes) (n : Nat) : Prop :=
  ∀ (s : Bytes) (p : List Bytes) (us : List Bool) (f : List (List Bytes)) (x y : AV) (H : AHeap), WalkH h H R m v t us p x f y → marked v us p → hasPt v.pts s = true → s ∉ p → p.length + 1 + n = 16 → f.length ≤ 1024 →
    ACalls Try.prog gl 60 [.int .i64 (posN v s), .ptr (R + 5) 0 0, .ptr R 0 0, .ptr (R + 4) 0 0, .ptr (R + 1) 0 0, .ptr (R + 2) 0 0, .ptr (R + 6) 0 0] H fun r H' => r = .tup [] ∧ ∃ x' y', WalkH h H' R m v t us p x' (extM v t n (p ++ [s]) f) y'
def lxW : Nat → Option (List (Nat × Nat)) := fun i => if i = 0 then some [(0, 7)] else if i = 3 then some [(0, 4)] else none
set_option maxHeartbeats 8000000 in
theorem walk_step (R m : Nat) (v : Net) (t : Bytes) (ok : NetOk v) (ht : hasPt v.pts t = true) (n : Nat) (ih : ∀ n', n' + 1 = n → ClaimW gl h R m v t n') : ClaimW gl h R m v t n := by
  intro s p us f x y H hW hmk hs hsp hn hfl
  have hps := posN_lt hs
  have hpg := posN_get hs
  have hpg' := (List.getElem?_eq_some_iff.1 hpg).2
  have hnl : (ptsN v).length ≤ 64 := by rw [ptsN_len]; exact ok.plen
  have hlk := ok.llen
  have hpf := hW.path.rs.fix
  refine ACalls.bodyL lxW Try.f60 _ mixed Try.func60 rfl rfl (by simp [Try.ntmps60]) ?_
  simp [-appendOk, -appendK, -acells, -AV.solid, -aslice, -sliceTOk, lxW, hW.all, encRoads, hps, hpg, hpg', encT, hpf]
  refine ⟨by decide, ?_⟩
  refine append_oq (lo := R + 7) (n := 1) (es := p.map encT) (ys := [encT s]) (by simpa [encT] using hW.path.more [.cells 1 [encT s]]) (by have := hW.all.2.1; simp; omega) (by simp [appOk, encT]) (by simp; omega) ?_
  intro s1 H1 hs1 hg1 hn1
  have hs1f := hs1.rs.fix
  have hl1 := hg1.len
  have hW1 := (hW.more [.cells 1 [encT s]]).grow (x' := s1) (p' := p ++ [s]) (by simpa [encT] using hg1) (by have := hW.ple; omega) (by simpa using hs1) (by simpa [encT] using hn1)
  have hk1 : ∀ b o, b < R + 7 → H[b]? = some o → H1[b]? = some o := fun b o hb ho => hg1.keep b o (by rw [List.getElem?_append_left (List.getElem?_eq_some_iff.1 ho).1]; exact ho) fun off len e => by have := hW.path.above _ _ _ e; omega
  have hW0 : (H1[R + 5]? = some (.cells 1 [[x]]) ∧ R + 5 < H1.length ∧ ∀ hl : R + 5 < H1.length, H1[R + 5] = .cells 1 [[x]]) := ⟨hk1 _ _ (by omega) hW.pathB, (List.getElem?_eq_some_iff.1 (hk1 _ _ (by omega) hW.pathB)).1, fun _ => (List.getElem?_eq_some_iff.1 (hk1 _ _ (by omega) hW.pathB)).2⟩
  have hB : ∀ b o, b < R + 7 → H[b]? = some o → H1[b]? = some o ∧ b < H1.length ∧ ∀ hl : b < H1.length, H1[b] = o := fun b o hb ho => ⟨hk1 b o hb ho, (List.getElem?_eq_some_iff.1 (hk1 b o hb ho)).1, fun _ => (List.getElem?_eq_some_iff.1 (hk1 b o hb ho)).2⟩
  have hB4 := hB _ _ (by omega) hW.usedB
  have hB3 := hB _ _ (by omega) hW.marks
  have hB2 := hB _ _ (by omega) hW.outB
  have hB1 := hB _ _ (by omega) hW.goal
  have hB0 := hB _ _ (by omega) hW.roads
  have hul := hmk.1
  have hyf := hW.out.rs.fix
  have hmk1 := hmk.push ok hs
  have hW2 := hW1.mark (us.set (posN v s) true)
  have hsu : us[posN v s]? = some false := by rw [hmk.2 s hs]; simp [hsp]
  have hback : (us.set (posN v s) true).set (posN v s) false = us := by
    rw [List.set_set]
    refine List.ext_getElem? fun i => ?_
    by_cases e : posN v s = i
    · subst e; rw [List.getElem?_set_self (by rw [hul]; exact hps), hsu]
    · rw [List.getElem?_set_ne e]
  have hend : ∀ (Hn : AHeap) (x' y' : AV) (f' : List (List Bytes)), WalkH h Hn R m v t (us.set (posN v s) true) (p ++ [s]) x' f' y' →
      WalkH h ((Hn.set (R + 3) (.cells 1 (((us.set (posN v s) true).map encB).set (posN v s) [.bool false]))).set (R + 5) (.cells 1 [[aslice x' none (some (p.length : Int))]])) R m v t us p (aslice x' none (some (p.length : Int))) f' y' ∧ sliceTOk Try.prog (Hn.set (R + 3) (.cells 1 (((us.set (posN v s) true).map encB).set (posN v s) [.bool false]))) (.slice 9) x' none (some (p.length : Int)) ∧ (aslice x' none (some (p.length : Int))).core = aslice x' none (some (p.length : Int)) ∧ (aslice x' none (some (p.length : Int))).gd = true ∧ (aslice x' none (some (p.length : Int))).solid = true ∧ acells (aslice x' none (some (p.length : Int))) = [aslice x' none (some (p.length : Int))] ∧
      (alen (Hn.set (R + 3) (.cells 1 (((us.set (posN v s) true).map encB).set (posN v s) [.bool false]))) x' = (p.length : Int) + 1 ∧ lenOk (Hn.set (R + 3) (.cells 1 (((us.set (posN v s) true).map encB).set (posN v s) [.bool false]))) (.slice 9) x') := by
    intro Hn x' y' f' w
    have w1 := w.mark ((us.set (posN v s) true).set (posN v s) false)
    rw [List.map_set, show encB false = [AV.bool false] from rfl] at w1
    have hc := w1.path.rs.cut Try.prog (by omega) none (some (p.length : Int)) (by simp [sliceOk, loOk, hiOf]; omega)
    have hln := w1.path.rs.len2
    rw [show (((p ++ [s]).map encT).length : Int) = (p.length : Int) + 1 by simp] at hln
    obtain ⟨b, off, all, rfl, q1, q2, q3, q4⟩ := Oq.isOwn w1.path (by simp)
    have e1 : aslice (.own b off ((p ++ [s]).map encT).length) none (some (p.length : Int)) = .own b off p.length := by simp [aslice, hiOf]
    rw [e1]
    have w2 := w1.cut (x' := .own b off p.length) (p' := p) ⟨.inr ⟨b, off, all, by simp, q1, q2, by simp at q3 ⊢; omega, ?_⟩, texts_n p⟩ (fun b' off' len' e => by injection e with e1 e2 e3; exact ⟨_, _, by rw [e1]⟩)
    · rw [hback] at w2
      exact ⟨w2, hc.2 9 (by simp) (by simp), rfl, rfl, rfl, rfl, hln.1, (hln.2 9).2 trivial⟩
    · rw [List.length_map]
      have := congrArg (List.take p.length) q4
      rw [List.take_take, List.length_map, List.length_append, List.length_singleton, Nat.min_eq_left (by omega), List.map_append, List.take_left' (by simp)] at this
      exact this
  by_cases hst : s = t
  · subst hst
    have hleaf := extM_leaf (v := v) (n := n) (f := f) (lastT_snoc p s)
    simp [-appendOk, -appendK, -acells, -AV.solid, -aslice, -sliceTOk, lxW, hW.all, hW0, hs1f, hpf, hB4, hB3, hB2, hB1, hps, hul, encB]
    rw [List.map_set, show encB true = [AV.bool true] from rfl] at hW2
    generalize (H1.set (R + 5) (.cells 1 [[s1]])).set (R + 3) (.cells 1 ((us.map encB).set (posN v s) [.bool true])) = H3 at hW2 ⊢
    refine ⟨by decide, callS.pure _ (fun _ => slices_CloneT (p ++ [s]) s1 (R + 7) (by simp) hW2.path (by simp; omega)) ?_⟩
    simp [-appendOk, -appendK, -acells, -AV.solid, -aslice, -sliceTOk, -List.map_append, lxW, hW2.all, hs1f, hyf]
    refine append_new (lo := R + 7) (n := 1) (es := f.map encPa) (ys := [encPa (p ++ [s])]) (by simpa [encPa] using hW2.out.more [.cells 1 [encPa (p ++ [s])]]) (by have := hW2.all.2.1; simp; omega) (by simp [appOk, encPa]) (by simp; omega) ?_
    intro y1 H4 hy1 hg4 hn4
    have hy1f := hy1.rs.fix
    have hW4 := (hW2.more [.cells 1 [encPa (p ++ [s])]]).add (y' := y1) (f' := f ++ [p ++ [s]]) (by simpa [encPa] using hg4) (by have := hW.ple; omega) (by simpa using hy1) (by simpa [encPa] using hn4)
    have hk4 : ∀ b o, b < R + 7 → H3[b]? = some o → H4[b]? = some o := fun b o hb ho => hg4.keep b o (by rw [List.getElem?_append_left (List.getElem?_eq_some_iff.1 ho).1]; exact ho) fun off len e => by have := hW2.out.above _ _ _ e; omega
    have hC : ∀ b o, b < R + 7 → H3[b]? = some o → H4[b]? = some o ∧ b < H4.length ∧ ∀ hl : b < H4.length, H4[b] = o := fun b o hb ho => ⟨hk4 b o hb ho, (List.getElem?_eq_some_iff.1 (hk4 b o hb ho)).1, fun _ => (List.getElem?_eq_some_iff.1 (hk4 b o hb ho)).2⟩
    have hC5 := hC _ _ (by omega) hW2.pathB
    have hC4 := hC _ _ (by omega) hW2.usedB
    have hC3 := hC _ _ (by omega) hW2.marks
    have hC2 := hC _ _ (by omega) hW2.outB
    have hE := hend _ _ _ _ hW4
    have ewp : IntKind.i64.wrap (p.length : Int) = (p.length : Int) := wrap64_of (by omega) (by omega)
    have hul' : (us.set (posN v s) true).length = (ptsN v).length := by simpa using hul
    simp [-appendOk, -appendK, -acells, -AV.solid, -aslice, -sliceTOk, -List.map_append, -List.map_set, lxW, hW2.all, hC5, hC4, hC3, hC2, hs1f, hyf, hy1f, hul, hps, encB, hE.2, ewp]
    rw [hleaf]
    exact ⟨_, _, hE.1⟩
  · have hne : ¬ (posN v s : Int) = posN v t := fun e => hst (posN_inj ok hs ht (by omega))
    have hrow := rowsR_get hpg
    have hrl := (List.getElem?_eq_some_iff.1 hrow).1
    have hrow' := (List.getElem?_eq_some_iff.1 hrow).2
    simp [-appendOk, -appendK, -acells, -AV.solid, -aslice, -sliceTOk, lxW, hW.all, hW0, hs1f, hpf, hB4, hB3, hB1, hB0, encRoads, hps, hul, encB, hne, hrow, hrow', hrl]
    rw [List.map_set, show encB true = [AV.bool true] from rfl] at hW2
    generalize (H1.set (R + 5) (.cells 1 [[s1]])).set (R + 3) (.cells 1 ((us.map encB).set (posN v s) [.bool true])) = H3 at hW2 ⊢
    have hrlen := rowOf_len v s
    refine AWP.upL lxW mixed (rowOf v s).length (fun k fr H => (fr 0 = .int .i64 (posN v s) ∧ fr 1 = .ptr (R + 5) 0 0 ∧ fr 2 = .ptr R 0 0 ∧ fr 3 = .ptr (R + 4) 0 0 ∧ fr 4 = .ptr (R + 1) 0 0 ∧ fr 5 = .ptr (R + 2) 0 0 ∧ fr 6 = .ptr (R + 6) 0 0) ∧ fr 34 = .ro ((rowOf v s).map encRoad) ∧ fr 35 = .int .i64 (rowOf v s).length ∧ fr 36 = .int .i64 k ∧
        ∃ x y, WalkH h H R m v t (us.set (posN v s) true) (p ++ [s]) x (extF v t n (p ++ [s]) f k) y) 0 (by omega)
      ⟨by simp, by simp, by simp, by simp, s1, y, by rw [extF_zero]; exact hW2⟩ ?_
    clear hW2 hW1 hs1 hg1 hn1 hW0 hB hB0 hB1 hB2 hB3 hB4 hl1 hk1 hs1f hpf hyf
    rintro k fr H hk ⟨⟨e0, e1, e2, e3, e4, e5, e6⟩, e34, e35, e36, x', y', hWk⟩
    have hxf := hWk.path.rs.fix
    have hyf := hWk.out.rs.fix
    have hyl := hWk.out.rs.len2
    have hxl := hWk.path.rs.len2
    have hfle := extF_le v t n (p ++ [s]) f (by omega) k
    rcases Nat.lt_or_ge k (rowOf v s).length with hlt | hge
    · obtain ⟨r, hr, hr'⟩ := get_lt hlt
      obtain ⟨l, l1, rfl, l3, l4, l5, l6⟩ := rowOf_at ok hr
      have ew := wrap_succ' (i := k) (by omega)
      have hpd := posN_lt l6
      have hud := hmk1.2 l.dst l6
      have hud' := (List.getElem?_eq_some_iff.1 hud).2
      have hul' : posN v l.dst < (us.set (posN v s) true).length := by rw [hmk1.1]; exact hpd
      have hsu2 := extF_succ (v := v) (t := t) (n := n) (path := p ++ [s]) (f := f) (k := k) (x := l.dst) (by rw [lastT_snoc]; exact l1)
      generalize hF : extF v t n (p ++ [s]) f k = F at *
      have hWb := hWk.more [.cells 3 [encRoad (roadOf v l)]]
      have hylb := hWb.out.rs.len2
      have hxlb := hWb.path.rs.len2
      simp only [encRoad_eq, roadOf] at hylb hxlb
      by_cases hin : l.dst ∈ p ++ [s]
      · simp [-appendOk, -appendK, -acells, -AV.solid, -aslice, -sliceTOk, -List.map_set, -List.mem_append, lxW, hWk.all, encRoads, e0, e1, e2, e3, e4, e5, e6, e34, e35, e36, hlt, hr, hr', roadOf, hul', hmk1.1, hpd, hud, hud', encB, hin, ew]
        exact ⟨k + 1, by omega, by omega, by omega, x', y', by rw [hsu2, extS_neg (by rintro ⟨_, c, _⟩; exact c hin)]; simpa [roadOf] using hWb⟩
      · by_cases hlim : 1024 < F.length
        · have hlim' : (1024 : Int) < F.length := by omega
          simp [-appendOk, -appendK, -acells, -AV.solid, -aslice, -sliceTOk, -List.map_set, -List.mem_append, lxW, hWk.all, encRoads, e0, e1, e2, e3, e4, e5, e6, e34, e35, e36, hlt, hr, hr', roadOf, hul', hmk1.1, hpd, hud, hud', encB, hin, ew, hyf, hylb, hlim, hlim']
          exact ⟨k + 1, by omega, by omega, by omega, x', y', by rw [hsu2, extS_neg (by rintro ⟨c, _⟩; omega)]; simpa [roadOf] using hWb⟩
        · have hlim' : ¬ (1024 : Int) < F.length := by omega
          simp [-appendOk, -appendK, -acells, -AV.solid, -aslice, -sliceTOk, -List.map_set, -List.mem_append, lxW, hWk.all, encRoads, e0, e1, e2, e3, e4, e5, e6, e34, e35, e36, hlt, hr, hr', roadOf, hul', hmk1.1, hpd, hud, hud', encB, hin, ew, hyf, hylb, hlim, hlim']
          have hus : Rs 1 (H ++ [.cells 3 [[.int .i64 (posN v l.dst), .int .i64 l.min, .int .i64 l.max]]]) (.own (R + 3) 0 (ptsN v).length) ((us.set (posN v s) true).map encB) := by
            have := Rs.own (n := 1) (h := H ++ [.cells 3 [[.int .i64 (posN v l.dst), .int .i64 l.min, .int .i64 l.max]]]) (b := R + 3) (es := (us.set (posN v s) true).map encB) (by simpa [roadOf] using hWb.marks) (encB_len _)
            rw [List.length_map, hmk1.1] at this
            exact this
          refine callS.any (graph_hops v m (p ++ [s]) l.dst t (us.set (posN v s) true) _ ok l6 ht hus hmk1.1 hmk1.2) ?_
          rintro r h2 ⟨⟨nn, rfl, hnn⟩, rfl⟩
          have hcb := hopsR_compl ok hnn
          have hrange : -1 ≤ nn ∧ nn ≤ 63 := by rcases hnn with ⟨e, _⟩ | ⟨c1, c2, _⟩ <;> omega
          have hpl2 : ((p ++ [s]).length : Int) = (p.length : Int) + 1 := by simp
          have ewa : IntKind.i64.wrap ((p.length : Int) + 1 + 1) = (p.length : Int) + 1 + 1 := wrap64_of (by omega) (by omega)
          have ewb : IntKind.i64.wrap ((p.length : Int) + 1 + 1 + nn) = (p.length : Int) + 1 + 1 + nn := wrap64_of (by omega) (by omega)
          rw [hpl2] at hcb
          have hxlb1 : ∀ e, lenOk (H ++ [.cells 3 [[.int .i64 (posN v l.dst), .int .i64 l.min, .int .i64 l.max]]]) (.slice e) x' := fun e => (hxlb.2 e).2 trivial
          have hxlb2 : alen (H ++ [.cells 3 [[.int .i64 (posN v l.dst), .int .i64 l.min, .int .i64 l.max]]]) x' = (p.length : Int) + 1 := by rw [hxlb.1]; simp
          simp [-appendOk, -appendK, -acells, -AV.solid, -aslice, -sliceTOk, -List.map_set, -List.mem_append, lxW, hWk.all, encRoads, e0, e1, e2, e3, e4, e5, e6, e34, e35, e36, hlt, hr, hr', roadOf, hul', hmk1.1, hpd, hud, hud', encB, hin, ew, hyf, hxf, hxlb1, hxlb2, ewa, ewb, walkFn]
          refine ⟨fun c1 c2 => ?_, fun cc => ⟨k + 1, by omega, by omega, by omega, x', y', by rw [hsu2, extS_neg (by rintro ⟨_, _, c⟩; rw [hcb] at c; have := of_decide_eq_true c; have := cc this.1; omega)]; simpa [roadOf] using hWb⟩⟩
          have hc3 : complB v (p ++ [s] ++ [l.dst]) t = true := by rw [hcb]; exact decide_eq_true ⟨c1, by omega⟩
          obtain ⟨n', rfl⟩ : ∃ n', n = n' + 1 := ⟨n - 1, by omega⟩
          rw [extS_pos ⟨by omega, hin, hc3⟩] at hsu2
          have hcl := ih n' rfl l.dst (p ++ [s]) (us.set (posN v s) true) F x' y' _ hWb hmk1 l6 hin (by simp; omega) (by omega)
          refine callS.any (by simpa [roadOf] using hcl) ?_
          rintro r h3 ⟨rfl, x2, y2, hW3⟩
          simp [-appendOk, -appendK, -acells, -AV.solid, -aslice, -sliceTOk, lxW, e0, e1, e2, e3, e4, e5, e6, e34, e35, e36, ew]
          exact ⟨k + 1, by omega, by omega, by omega, x2, y2, by rw [hsu2, List.append_assoc]; exact hW3⟩
    · obtain rfl : k = (rowOf v s).length := by omega
      have hall := extF_all (v := v) (t := t) (n := n) (path := p ++ [s]) (f := f) (by rw [lastT_snoc]; exact hst)
      rw [lastT_snoc, ← rowOf_nextlen] at hall
      rw [hall] at hWk hyl
      have hE := hend _ _ _ _ hWk
      have ewp : IntKind.i64.wrap (p.length : Int) = (p.length : Int) := wrap64_of (by omega) (by omega)
      simp [-appendOk, -appendK, -acells, -AV.solid, -aslice, -sliceTOk, -List.map_append, -List.map_set, lxW, hWk.all, e0, e1, e2, e3, e4, e5, e6, e34, e35, e36, hxf, hmk1.1, hul, hps, encB, hE.2, ewp]
      exact ⟨_, _, hE.1⟩
theorem walk_all (R m : Nat) (v : Net) (t : Bytes) (ok : NetOk v) (ht : hasPt v.pts t = true) : ∀ n, ClaimW gl h R m v t n
  | 0 => walk_step R m v t ok ht 0 fun n' e => by omega
  | n + 1 => walk_step R m v t ok ht (n + 1) fun n' e => by
    obtain rfl : n' = n := by omega
    exact walk_all R m v t ok ht n'
def pathsV (v : Net) (a b : Bytes) : AV := .tup [.ro ((pathsM v a b).1.map encPa), .int .i64 (pathsM v a b).2]
theorem paths_data (l : List (List Bytes)) : ∀ e ∈ l.map encPa, ∀ y ∈ e, y.Data := by
  intro e he y hy
  obtain ⟨p, _, rfl⟩ := List.mem_map.1 he
  simp [encPa] at hy
  subst hy
  exact .ro _ (texts_data _)
theorem paths_n (l : List (List Bytes)) : ∀ e ∈ l.map encPa, e.length = 1 := by
  intro e he
  obtain ⟨p, _, rfl⟩ := List.mem_map.1 he
  rfl
set_option maxHeartbeats 8000000 in
theorem graph_Paths (n : Net) (a b : Bytes) (hp : n.pts.length ≤ 1000) (hl : n.lks.length ≤ 1000) : ACalls Try.prog gl 43 [.agg (encNet n), .str a, .str b] h fun x h' => x = pathsV (validN n) a b ∧ h' = h := by
  refine ACalls.fresh' (ACalls.body Try.f43 _ mixed Try.func43 rfl rfl (by simp [Try.ntmps43]) ?_)
  have ok := validN_ok n
  simp
  refine callS.any (graph_prepare n hp hl) ?_
  rintro x h1 ⟨m, g, rfl, hh1, hmge, hm⟩
  generalize validN n = v at *
  have hM : MapH h1 m v := ⟨hm⟩
  have hB : ∃ g1, h1 = h ++ g1 := ⟨_, by rw [hh1, List.append_assoc]⟩
  clear hh1 hmge
  have hbl := base_len hB
  have hnl : (ptsN v).length ≤ 64 := by rw [ptsN_len]; exact ok.plen
  simp [encRoads]
  refine callS.pure _ (fun _ => graph_find v m a b (hM.more _)) ?_
  by_cases hq : hasPt v.pts a = true ∧ hasPt v.pts b = true
  · obtain ⟨qa, qb⟩ := hq
    have ea : numOf v a = (posN v a : Int) := by rw [numOf, if_pos qa]
    have eb : numOf v b = (posN v b : Int) := by rw [numOf, if_pos qb]
    rw [ea, eb, qa, qb]
    obtain ⟨R, hR⟩ : ∃ R, R = h1.length := ⟨_, rfl⟩
    simp (config := { maxSteps := 2000000 }) [-appendOk, -appendK]
    refine ⟨by omega, ?_⟩
    have hRl := congrArg (fun k => k) hR
    have hqa := posN_lt qa
    have hqb := posN_lt qb
    obtain ⟨H0, hH0⟩ : ∃ H0, H0 = h1 ++ [.cells 3 [encRoads v m], .cells 1 [[.int .i64 (posN v b)]], .cells 1 [[.nil]], .cells 1 ((List.replicate (ptsN v).length false).map encB), .cells 1 [[.own (h1.length + 3) 0 (ptsN v).length]], .cells 1 [[.nil]], .cells 1 [[walkFn h1.length]]] := ⟨_, rfl⟩
    have hW0 : WalkH h H0 h1.length m v b (List.replicate (ptsN v).length false) [] .nil [] .nil := by
      subst hH0
      exact ⟨by simp, by simp, by simp, by simp, by simp, by simp, by simp, ⟨.inl ⟨rfl, rfl⟩, fun e he => by simp at he⟩, .nil, fun b off len off' len' e => by simp at e, base_more hB _, by omega⟩
    have hmk0 : marked v (List.replicate (ptsN v).length false) [] := by
      refine ⟨by simp, fun s hs => ?_⟩
      rw [List.getElem?_replicate, if_pos (posN_lt hs)]; simp
    have hcl := walk_all (gl := gl) (h := h) h1.length m v b ok qb 15 a [] (List.replicate (ptsN v).length false) [] .nil .nil H0 hW0 hmk0 qa (by simp) (by simp) (by simp)
    have hpe : pathsM v a b = if 1024 < (extM v b 15 [a] []).length then ([], 3) else (extM v b 15 [a] [], 0) := by unfold pathsM; rw [if_pos ⟨qa, qb⟩]
    rw [pathsV, hpe]
    have hH1 : h1 ++ [.cells 3 [encRoads v m], .cells 1 [[.int .i64 (posN v b)]], .cells 1 [[.nil]], .cells 1 (List.replicate (ptsN v).length [.bool false]), .cells 1 [[.own (h1.length + 3) 0 (ptsN v).length]], .cells 1 [[.nil]], .cells 1 [[walkFn h1.length]]] = H0 := by
      rw [hH0, List.map_replicate]; rfl
    simp only [encRoads, walkFn] at hH1
    rw [hH1]
    refine callS.any hcl ?_
    rintro r h3 ⟨rfl, x', y', hW3⟩
    have hyf := hW3.out.rs.fix
    have hyl := hW3.out.rs.len2
    by_cases hlim : 1024 < (extM v b 15 [a] []).length
    · have hlim' : (1024 : Int) < (extM v b 15 [a] []).length := by omega
      rw [if_pos hlim]
      simp [-appendOk, -appendK, -acells, -AV.solid, -aslice, -sliceTOk, hW3.all, hyf, hyl, hlim, hlim']
      exact ⟨hW3.base, .tup' (.cons .nil (.cons (.data _ (by simp)) .nil))⟩
    · have hlim' : ¬ (1024 : Int) < (extM v b 15 [a] []).length := by omega
      rw [if_neg hlim]
      simp [-appendOk, -appendK, -acells, -AV.solid, -aslice, -sliceTOk, hW3.all, hyf, hyl, hlim, hlim']
      exact ⟨hW3.base, .tup' (.cons (hW3.out.frz (by omega) (paths_data _)) (.cons (.data _ (by simp)) .nil))⟩
  · have hno : pathsM v a b = ([], 16) := by unfold pathsM; rw [if_neg hq]
    have hq' : (hasPt v.pts a && hasPt v.pts b) = false := by
      rw [Bool.and_eq_false_iff]
      by_cases c : hasPt v.pts a = true
      · right
        by_cases c2 : hasPt v.pts b = true
        · exact absurd ⟨c, c2⟩ hq
        · simpa using c2
      · left; simpa using c
    rw [hq']
    simp (config := { maxSteps := 5000000 }) [encRoads]
    rw [pathsV, hno]
    exact ⟨base_more hB _, .tup' (.cons .nil (.cons (.data _ (by simp)) .nil))⟩
end Go.Proofs.Ytdmfdgkicbhdoaa
