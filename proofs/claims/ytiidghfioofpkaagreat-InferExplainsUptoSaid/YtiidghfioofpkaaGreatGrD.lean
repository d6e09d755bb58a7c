/-
  Contracts: the best path, as the reference finds it.
-/
import Derived.Test.YtiidghfioofpkaaGreatGrA
import Derived.Test.YtiidghfioofpkaaGreatAbsLax
set_option linter.unusedVariables false
set_option linter.unusedSimpArgs false
set_option maxRecDepth 100000
namespace Go.Proofs.YtiidghfioofpkaaGreat
open Go Go.Abs Go.Toll
variable {gl : Globs} {h : AHeap}

theorem set_same {H : AHeap} {b : Nat} {o : AObj} (h : H[b]? = some o) : H.set b o = H := by
  refine List.ext_getElem? fun i => ?_
  by_cases e : b = i
  · subst e; rw [List.getElem?_set_self (List.getElem?_eq_some_iff.1 h).1, h]
  · rw [List.getElem?_set_ne e]
theorem Ls.isOwn {n lo : Nat} {H : AHeap} {x : AV} {es : List (List AV)} (r : Ls n lo H x es) (h : es ≠ []) : ∃ b, x = .own b 0 es.length ∧ lo ≤ b ∧ H[b]? = some (.cells n es) := by
  rcases r.1 with ⟨_, e⟩ | h1
  · exact absurd e h
  · exact h1
/-- The heap of the search: the network, the paths, the durations. -/
structure RefH (h H : AHeap) (q px lb M : Nat) (v : Net) (cs : List AV) (st : St) : Prop where
  net : H[q]? = some (.cells 2 [encNet v])
  least : H[lb]? = some (.cells 1 (stD st))
  nest : Nest 1 (q + 1) H (.own px 0 cs.length) cs (stP st)
  high : ∀ b off len, AV.own b off len ∈ cs → M ≤ b
  base : ∃ g, H = h ++ g
  mle : M ≤ H.length
  ne : px ≠ lb ∧ q < lb ∧ lb < M ∧ px < M ∧ q < px ∧ h.length ≤ q
section
variable {H H' : AHeap} {q px lb M : Nat} {v : Net} {cs : List AV} {st : St}
theorem RefH.all (r : RefH h H q px lb M v cs st) : (H[q]? = some (.cells 2 [encNet v]) ∧ q < H.length ∧ ∀ hl : q < H.length, H[q] = .cells 2 [encNet v]) ∧ (H[lb]? = some (.cells 1 (stD st)) ∧ lb < H.length ∧ ∀ hl : lb < H.length, H[lb] = .cells 1 (stD st)) ∧
    H[px]? = some (.cells 1 (cs.map fun c => [c])) ∧ px < H.length ∧ ∀ hl : px < H.length, H[px] = .cells 1 (cs.map fun c => [c]) :=
  ⟨⟨r.net, (List.getElem?_eq_some_iff.1 r.net).1, fun _ => (List.getElem?_eq_some_iff.1 r.net).2⟩, ⟨r.least, (List.getElem?_eq_some_iff.1 r.least).1, fun _ => (List.getElem?_eq_some_iff.1 r.least).2⟩, r.nest.blk.1, r.nest.blk.2.1, r.nest.blk.2.2.1⟩
theorem RefH.more (r : RefH h H q px lb M v cs st) (g : AHeap) : RefH h (H ++ g) q px lb M v cs st :=
  ⟨by rw [List.getElem?_append_left r.all.1.2.1]; exact r.net, by rw [List.getElem?_append_left r.all.2.1.2.1]; exact r.least, r.nest.more g, r.high, base_more r.base g, by have := r.mle; simp; omega, r.ne⟩
/-- A new list grows beside it. -/
theorem RefH.grow {lo : Nat} {s : AV} (r : RefH h H q px lb M v cs st) (g : Grow lo H s H') (hs : ∀ b off len, s = .own b off len → M ≤ b ∧ ∀ off' len', AV.own b off' len' ∉ cs) (hlo : h.length ≤ lo) : RefH h H' q px lb M v cs st := by
  obtain ⟨n1, n2, n3, n4, n5, n6⟩ := r.ne
  refine ⟨g.keep _ _ r.net fun off len e => by have := (hs _ _ _ e).1; omega, g.keep _ _ r.least fun off len e => by have := (hs _ _ _ e).1; omega, ?_, r.high, g.base h hlo r.base, Nat.le_trans r.mle g.len, r.ne⟩
  refine r.nest.grow g (fun b e off len e' => ?_) fun c hc b off len e off' len' e' => ?_
  · injection e with e1
    have := (hs _ _ _ e').1
    omega
  · exact (hs _ _ _ e').2 off len (e ▸ hc)
/-- A better path is kept. -/
theorem RefH.put (r : RefH h H q px lb M v cs st) {k : Nat} {d : AV} {p : List Bytes} {t : Int} (hk : k < cs.length) (hd : Ls 1 M H d (p.map encT)) (hn : ∀ b off len, d = .own b off len → ∀ off' len', AV.own b off' len' ∉ cs) :
    RefH h ((H.set px (.cells 1 ((cs.map fun c => [c]).set k [d]))).set lb (.cells 1 ((stD st).set k [.int .i64 t]))) q px lb M v (cs.set k d) (st.set k (p, t)) := by
  obtain ⟨n1, n2, n3, n4, n5, n6⟩ := r.ne
  obtain ⟨⟨a1, a2, a3⟩, ⟨b1, b2, b3⟩, c1, c2, c3⟩ := r.all
  have hdb := hd.above
  refine ⟨?_, ?_, ?_, fun b off len hm => ?_, base_set (base_set r.base (by omega) _) (by omega) _, by have := r.mle; simpa using this, r.ne⟩
  · rw [List.getElem?_set_ne (by omega), List.getElem?_set_ne (by omega)]; exact a1
  · rw [stD_set, List.getElem?_set_self (by simpa using b2)]
  · rw [stP_set, show (cs.set k d).length = cs.length by simp]
    have keep : ∀ b o, H[b]? = some o → b ≠ px → (H.set px (.cells 1 ((cs.map fun c => [c]).set k [d])))[b]? = some o := fun b o hb h1 => by
      rw [List.getElem?_set_ne (Ne.symm h1)]; exact hb
    have h1 := r.nest.put (h' := H.set px (.cells 1 ((cs.map fun c => [c]).set k [d]))) (d := d) (s := p.map encT) rfl hk (hd.keep' fun b len o e ho => keep b o ho (by have := hdb _ _ _ e; omega)).rs (fun b off len e => ⟨by have := hdb _ _ _ e; omega, by have := hdb _ _ _ e; omega, fun off' len' hm => absurd hm (hn b off len e off' len')⟩) (fun b o hb hne _ => keep b o hb hne) (List.getElem?_set_self c2)
    refine h1.keep fun b o hm ho => ?_
    rw [List.getElem?_set_ne]
    · exact ho
    · rcases hm with ⟨off, len, e⟩ | ⟨off, len, e⟩
      · injection e with e2; omega
      · rcases List.mem_or_eq_of_mem_set e with e | e
        · have := r.high b off len e; omega
        · have := hdb b off len e.symm; omega
  · rcases List.mem_or_eq_of_mem_set hm with hm | e
    · exact r.high b off len hm
    · exact hdb b off len e.symm
end
end Go.Proofs.YtiidghfioofpkaaGreat
