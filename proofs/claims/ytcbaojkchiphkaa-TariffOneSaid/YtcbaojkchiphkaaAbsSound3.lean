/-
  Soundness of the operations that only compute or read: addresses, loads, indices, maps, cuts, builtins.
-/
import Derived.Test.YtcbaojkchiphkaaAbsSound2
set_option linter.unusedVariables false
set_option linter.unusedSimpArgs false
namespace Go.Abs
open Go

section
variable {P : Program} {gl : Globs} {J : List Blk} {h : AHeap} {w : World} {O : Nat → Prop} {fr : AFrame}

/-- An operation that hands back a value and leaves the world alone. -/
def Yields1 (P : Program) (J : List Blk) (O : Nat → Prop) (w : World) (s : Sem Value) (x : AV) : Prop := ∃ v, s.run P w = .ok v w ∧ VRel J O w x v

theorem load_yields (hh : HRel gl h J w) {t : TypeId} {x : AV} {u : Value} (hx : VRel J (Own h J) w x u) (ht : (tinfo P t).ok = true)
    (hok : loadOk P h t x) : Yields1 P J (Own h J) w (Instr.loadAt t u) (loadV P h t x) := by
  unfold loadOk at hok
  unfold loadV
  split at hok
  · rename_i b i c
    obtain ⟨hi, hc⟩ := hok
    have hg : (hcells h b)[i]? = some ((hcells h b).getD i []) := by simp [List.getD, List.getElem?_eq_getElem hi]
    obtain ⟨k, hk, rfl, hl, hr⟩ := erow_ptr hh hx hg
    obtain ⟨v, hv, hvr⟩ := load_sound (P := P) ht hr hc
    exact ⟨v, by simp only [Instr.loadAt, Instr.sureAddr, Sem.run_bind, Sem.run_pure, Result.andThen_ok, hv], hvr⟩
  · rename_i es i c
    obtain ⟨hi, hc⟩ := hok
    have hg : es[i]? = some (es.getD i []) := by simp [List.getD, List.getElem?_eq_getElem hi]
    obtain ⟨a, rfl, hr⟩ := erow_rop hx hg
    obtain ⟨v, hv, hvr⟩ := load_sound (P := P) ht hr hc
    exact ⟨v, by simp only [Instr.loadAt, Instr.sureAddr, Sem.run_bind, Sem.run_pure, Result.andThen_ok, hv], hvr⟩
  · exact hok.elim

theorem kind_struct {t : TypeId} {f : Nat} (hf : f < (fieldsOf (tinfo P t)).length) : ∃ fs fd, P.underlying t = some (.struct fs) ∧ fs[f]? = some fd ∧ foff (tinfo P t) f = fd.offset ∧ fsz (tinfo P t) f = P.cellsOf fd.type ∧ fty (tinfo P t) f = fd.type ∧ (tinfo P t).ok = true := by
  unfold fieldsOf at hf
  split at hf
  · rename_i l hk
    obtain ⟨d, hu, hd, hok, _⟩ := kind_und hk (by simp)
    cases d with
    | struct fs =>
      simp only [tkOf, TK.struct.injEq] at hd
      subst hd
      simp only [List.length_map, Array.length_toList] at hf
      have hg : fs[f]? = some (fs[f]'hf) := Array.getElem?_eq_getElem hf
      refine ⟨fs, fs[f]'hf, hu, hg, ?_⟩
      simp [foff, fsz, fty, fieldsOf, hk, List.getD, hg, hok]
    | _ => simp [tkOf] at hd
  · simp at hf

theorem fieldAddr_yields {s : TypeId} {f : Nat} {x : AV} {u : Value} (hx : VRel J O w x u) (hf : f < (fieldsOf (tinfo P s)).length) (hsz : 0 < fsz (tinfo P s) f) (hty : (tinfo P (fty (tinfo P s) f)).ok = true)
    (hok : faddrOk x) : Yields1 P J O w (Instr.fieldAt s u f) (faddrV P s f x) := by
  unfold faddrOk at hok
  unfold faddrV
  obtain ⟨fs, fd, hu, hg, h1, h2, h3, h4⟩ := kind_struct hf
  have hrun : ∀ a : Addr, (Instr.fieldAt s (.pointer (some a)) f).run P w = .ok (.pointer (some (a.add fd.offset))) w := by
    intro a
    have hc : (sizeOf fd.type).run P w = .ok (tinfo P fd.type).cells w := run_sizeOf' (by rw [← h3]; exact hty) w
    have hne : ¬ ((tinfo P fd.type).cells = 0) := by
      obtain ⟨d, i, hd, hi, e⟩ := tinfo_ok (by rw [← h3]; exact hty : (tinfo P fd.type).ok = true)
      rw [e]
      simp only
      rw [h2] at hsz
      simp [Program.cellsOf, hi] at hsz
      omega
    simp only [Instr.fieldAt, Sem.run_bind, run_underlying hu, Result.andThen_ok, hg, Instr.sureAddr, Sem.run_pure, fieldPlace, hc, Sem.run_ite, if_neg hne]
  split at hok
  · rename_i b i c
    cases hx with
    | ptr _ _ _ k hb =>
      refine ⟨_, hrun _, ?_⟩
      rw [h1, add_mk, show k.base + (i * k.n + c) + fd.offset = k.base + (i * k.n + (c + fd.offset)) by omega]
      exact .ptr _ _ _ k hb
  · rename_i es i c
    cases hx with
    | rop _ _ _ a n g hn hO hl hc ho hh =>
      refine ⟨_, hrun _, ?_⟩
      rw [h1, add_add', show i * n + c + fd.offset = i * n + (c + fd.offset) by omega]
      exact .rop _ _ _ a n g hn hO hl hc ho hh
  · exact hok.elim

theorem field_yields {s : TypeId} {f : Nat} {x : AV} {u : Value} (hx : VRel J O w x u) (hf : f < (fieldsOf (tinfo P s)).length) (hty : (tinfo P (fty (tinfo P s) f)).ok = true)
    (hok : fieldOk P s f x) : Yields1 P J O w (Instr.field s u f) (fieldV P s f x) := by
  unfold fieldOk at hok
  unfold fieldV
  obtain ⟨fs, fd, hu, hg, h1, h2, h3, h4⟩ := kind_struct hf
  split at hok
  · rename_i cs
    rw [h3] at hty hok ⊢
    rw [h1] at hok ⊢
    obtain ⟨vs, rfl, r, hr, hrv⟩ := part_sound (P := P) hty hx hok
    exact ⟨r, by simp only [Instr.field, Sem.run_bind, run_underlying hu, Result.andThen_ok, hg, asAgg, Sem.run_pure, hr], hrv⟩
  · exact hok.elim

theorem kind_array {t : TypeId} {n : Nat} {e : TypeId} (h : (tinfo P t).kind = .array n e) : P.underlying t = some (.array n e) ∧ (tinfo P t).ok = true := by
  obtain ⟨d, hu, hd, hok, _⟩ := kind_und h (by simp)
  cases d <;> simp [tkOf] at hd
  obtain ⟨rfl, rfl⟩ := hd
  exact ⟨hu, hok⟩
theorem kind_string {t : TypeId} (h : (tinfo P t).kind = .string) : P.underlying t = some .string ∧ (tinfo P t).ok = true := by
  obtain ⟨d, hu, hd, hok, _⟩ := kind_und h (by simp)
  cases d <;> simp [tkOf] at hd
  exact ⟨hu, hok⟩
theorem kind_map {t k e : TypeId} (h : (tinfo P t).kind = .map k e) : P.underlying t = some (.map k e) ∧ (tinfo P t).ok = true := by
  obtain ⟨d, hu, hd, hok, _⟩ := kind_und h (by simp)
  cases d <;> simp [tkOf] at hd
  obtain ⟨rfl, rfl⟩ := hd
  exact ⟨hu, hok⟩

theorem hsz_n (hh : HRel gl h J w) {b : Nat} {k : Blk} (hb : J[b]? = some k) (hp : 0 < hsz h b) : ∃ es, h[b]? = some (.cells k.n es) ∧ hsz h b = k.n ∧ hcells h b = es := by
  unfold hsz at hp
  split at hp
  · rename_i n es he
    obtain ⟨hkn, hn, hcap, hlen, _⟩ := hh.obj b k _ hb he
    subst hkn
    exact ⟨es, he, by simp [hsz, he], by simp [hcells, he]⟩
  · simp at hp

theorem indexAddr_yields (hh : HRel gl h J w) {t : TypeId} {x y : AV} {u v : Value} (hx : VRel J (Own h J) w x u) (hy : VRel J (Own h J) w y v) (hi : isInt y) (h0 : 0 ≤ aint y)
    (hok : iaddrOk P h (tinfo P t).kind x (aint y)) : Yields1 P J (Own h J) w (Instr.indexAt t u v) (iaddrV P (tinfo P t).kind x (aint y)) := by
  unfold iaddrOk at hok
  unfold iaddrV
  obtain ⟨k, rfl⟩ := int_of hy hi
  generalize aint y = n at *
  split at hok
  · rename_i e b off len hk
    obtain ⟨he, h1, h2, h3⟩ := hok
    obtain ⟨hu, _⟩ := kind_slice hk
    cases hx with
    | own _ _ _ kb a cap hb ha hlen hcap =>
      have hp : 0 < hsz h b := by
        have h4 : 0 < (hcells h b).length := by omega
        unfold hcells at h4
        unfold hsz
        split at h4
        · rename_i n' es he'
          obtain ⟨hkn, hn, _⟩ := hh.obj b kb _ hb he'
          first | omega | (simp only [he']; omega)
        · simp at h4
      obtain ⟨es, _, hn, _⟩ := hsz_n hh hb hp
      have hsz := run_sizeOf' he w
      rw [← h3, hn] at hsz
      have ha' := ha (by omega)
      refine ⟨_, ?_, .ptr b (off + n.toNat) 0 kb hb⟩
      simp only [Instr.indexAt, asIntOf, Sem.run_bind, Sem.run_pure, Result.andThen_ok, run_underlying hu]
      rw [Sem.run_ite, if_pos ⟨h0, h1⟩]
      simp only [Sem.run_bind, hsz, Result.andThen_ok, Sem.run_pure]
      rw [ha', add_mk, show kb.base + off * kb.n + n.toNat * kb.n = kb.base + ((off + n.toNat) * kb.n + 0) by rw [Nat.add_mul]; omega]
  · rename_i e es hk
    obtain ⟨he, h1, h2⟩ := hok
    obtain ⟨hu, _⟩ := kind_slice hk
    cases hx with
    | roNil => simp at h1; omega
    | ro _ a m cap f hcap hn hO hl hc ho hr =>
      have hlt : n.toNat < es.length := by omega
      have hg : es[n.toNat]? = some (es.getD n.toNat []) := by simp [List.getD, List.getElem?_eq_getElem hlt]
      have hm := hl _ _ hg
      have hsz := run_sizeOf' he w
      rw [← h2, hm] at hsz
      refine ⟨_, ?_, .rop es n.toNat 0 a m f hn hO hl hc ho hr⟩
      simp only [Instr.indexAt, asIntOf, Sem.run_bind, Sem.run_pure, Result.andThen_ok, run_underlying hu]
      rw [Sem.run_ite, if_pos ⟨h0, h1⟩]
      simp only [Sem.run_bind, hsz, Result.andThen_ok, Sem.run_pure, Nat.add_zero]
  · rename_i m e b i c hk
    obtain ⟨he, h1⟩ := hok
    obtain ⟨hu, _⟩ := kind_array hk
    cases hx with
    | ptr _ _ _ kb hb =>
      refine ⟨_, ?_, .ptr b i (c + n.toNat * (tinfo P e).cells) kb hb⟩
      simp only [Instr.indexAt, asIntOf, Instr.sureAddr, Sem.run_bind, Sem.run_pure, Result.andThen_ok, run_underlying hu]
      rw [Sem.run_ite, if_pos ⟨h0, h1⟩]
      simp only [Sem.run_bind, run_sizeOf' he, Result.andThen_ok, Sem.run_pure]
      rw [add_mk, show kb.base + (i * kb.n + c) + n.toNat * (tinfo P e).cells = kb.base + (i * kb.n + (c + n.toNat * (tinfo P e).cells)) by omega]
  · rename_i m e es i c hk
    obtain ⟨he, h1⟩ := hok
    obtain ⟨hu, _⟩ := kind_array hk
    cases hx with
    | rop _ _ _ a q f hn hO hl hc ho hr =>
      refine ⟨_, ?_, .rop es i (c + n.toNat * (tinfo P e).cells) a q f hn hO hl hc ho hr⟩
      simp only [Instr.indexAt, asIntOf, Instr.sureAddr, Sem.run_bind, Sem.run_pure, Result.andThen_ok, run_underlying hu]
      rw [Sem.run_ite, if_pos ⟨h0, h1⟩]
      simp only [Sem.run_bind, run_sizeOf' he, Result.andThen_ok, Sem.run_pure]
      rw [add_add', show i * q + c + n.toNat * (tinfo P e).cells = i * q + (c + n.toNat * (tinfo P e).cells) by omega]
  · exact hok.elim

theorem index_yields {t : TypeId} {x y : AV} {u v : Value} (hx : VRel J O w x u) (hy : VRel J O w y v) (hi : isInt y) (h0 : 0 ≤ aint y)
    (hok : indexOk P (tinfo P t).kind x (aint y)) : Yields1 P J O w (Instr.index t u v) (indexV P (tinfo P t).kind x (aint y)) := by
  unfold indexOk at hok
  unfold indexV
  obtain ⟨k, rfl⟩ := int_of hy hi
  generalize aint y = n at *
  split at hok
  · rename_i s hk
    obtain ⟨hu, _⟩ := kind_string hk
    cases hx
    have hlt : n.toNat < s.length := by omega
    refine ⟨_, ?_, .int _ _⟩
    have e1 : (⟨s.toArray⟩ : ByteArray)[n.toNat]? = some (s[n.toNat]'hlt) := by
      rw [ByteArray.getElem?_lt' _ _ (by simpa [ByteArray.size] using hlt)]
      rfl
    simp only [Instr.index, asIntOf, Sem.run_bind, Sem.run_pure, Result.andThen_ok, run_underlying hu, if_pos h0, e1]
    simp [List.getD, hlt]
  · rename_i m e cs hk
    obtain ⟨he, h1, h2⟩ := hok
    obtain ⟨hu, _⟩ := kind_array hk
    obtain ⟨vs, rfl, r, hr, hrv⟩ := part_sound (P := P) he hx h2
    refine ⟨r, ?_, hrv⟩
    simp only [Instr.index, asIntOf, Sem.run_bind, Sem.run_pure, Result.andThen_ok, run_underlying hu]
    rw [Sem.run_ite, if_pos ⟨h0, h1⟩]
    simp only [Sem.run_bind, run_sizeOf' he, Result.andThen_ok, hr]
  · exact hok.elim

end
end Go.Abs
