/-
  Going through a string's letters.
-/
import Derived.Test.YtcbaojkchiphkaaAbsHop5
import Derived.Laws.RangeString
set_option linter.unusedVariables false
set_option linter.unusedSimpArgs false
namespace Go.Abs
open Go

/-- Where one stands in a string. -/
def strAt (s : List UInt8) (pos : Nat) : AObj := .raw (.stringIter ⟨s.toArray⟩ pos)
/-- The letter at a place, and its bytes. -/
def runeAt (s : List UInt8) (pos : Nat) : Nat × Nat := Utf8.decode ⟨s.toArray⟩ pos

theorem runeAt_ascii {s : List UInt8} {pos : Nat} {c : UInt8} (h : s[pos]? = some c) (hc : c.toNat < 128) : runeAt s pos = (c.toNat, 1) := by
  obtain ⟨hp, hv⟩ := List.getElem?_eq_some_iff.1 h
  have hs : pos < (ByteArray.mk s.toArray).size := by simpa [ByteArray.size] using hp
  have he : (ByteArray.mk s.toArray)[pos]'hs = c := by rw [← hv]; rfl
  have := decode_ascii ⟨s.toArray⟩ pos hs (by rw [he]; exact hc)
  rw [he] at this
  exact this
theorem decode_big (s : ByteArray) (i : Nat) (h : ¬ (s.get! i).toNat < 128) : 128 ≤ (Utf8.decode s i).1 ∧ 1 ≤ (Utf8.decode s i).2 := by
  unfold Utf8.decode
  simp only [Nat.add_zero]
  rw [if_neg h]
  have hr : 128 ≤ Utf8.runeError := by decide
  split
  · split
    · rename_i h1; exact ⟨h1, by omega⟩
    · exact ⟨hr, by omega⟩
  · split
    · split
      · rename_i h1; simp only [ge_iff_le, Bool.and_eq_true, decide_eq_true_eq] at h1; exact ⟨by omega, by omega⟩
      · exact ⟨hr, by omega⟩
    · split
      · split
        · rename_i h1; simp only [ge_iff_le, Bool.and_eq_true, decide_eq_true_eq] at h1; exact ⟨by omega, by omega⟩
        · exact ⟨hr, by omega⟩
      · exact ⟨hr, by omega⟩
theorem runeAt_big {s : List UInt8} {pos : Nat} {c : UInt8} (h : s[pos]? = some c) (hc : ¬ c.toNat < 128) : 128 ≤ (runeAt s pos).1 ∧ 1 ≤ (runeAt s pos).2 := by
  obtain ⟨hp, hv⟩ := List.getElem?_eq_some_iff.1 h
  refine decode_big _ _ ?_
  have : (ByteArray.mk s.toArray).get! pos = c := by
    simp only [ByteArray.get!]
    rw [getElem!_pos s.toArray pos (by simpa using hp)]
    simpa using hv
  rw [this]; exact hc

section
variable {P : Program} {gl : Globs} {J : List Blk} {h : AHeap} {w : World}

theorem range_steps (hh : HRel gl h J w) {t : TypeId} {s : List UInt8} {v : Value} (hk : (tinfo P t).kind = .string) (hx : VRel J (Own h J) w (.str s) v) {R : AV → AHeap → Prop} (hR : R (.obj h.length) (h ++ [strAt s 0])) :
    Steps1 P gl h J w (Instr.range t v) R := by
  obtain ⟨d, hu, hd, _, _⟩ := kind_und hk (by simp)
  have hu' : P.underlying t = some .string := by cases d <;> simp [tkOf] at hd; exact hu
  cases hx
  obtain ⟨r1, r2⟩ := hh.alloc (.stringIter ⟨s.toArray⟩ 0) ⟨w.heap.size, 0, 1, 0⟩ (strAt s 0) rfl (fun J' O' hm => heap_alloc_new w _)
  exact ⟨.pointer (some ⟨w.heap.size, 0, none⟩), _, _, _, _, run_range_string w t _ hu', r1, .obj _ _ (alloc_last hh _), r2, hR⟩

theorem next_steps (hh : HRel gl h J w) {b : Nat} {s : List UInt8} {pos : Nat} {v : Value} {ty : TypeId} (hb : h[b]? = some (strAt s pos)) (hx : VRel J (Own h J) w (.obj b) v) {R : AV → AHeap → Prop}
    (hR1 : pos < s.length → R (.tup [.bool true, .int .i64 pos, .int .i32 (runeAt s pos).1]) (h.set b (strAt s (pos + (runeAt s pos).2)))) (hR2 : ¬ pos < s.length → R (.tup [.bool false]) h) :
    Steps1 P gl h J w (Instr.next v true ty) R := by
  cases hx with
  | obj _ k hk =>
    have ho : w.heap[k.r]? = some (.stringIter ⟨s.toArray⟩ pos) := hh.obj b k _ hk hb
    have hsz : (ByteArray.mk s.toArray).size = s.length := by simp [ByteArray.size]
    by_cases hp : pos < s.length
    · obtain ⟨r1, r2⟩ := hh.set (w' := { w with heap := w.heap.setIfInBounds k.r (.stringIter ⟨s.toArray⟩ (pos + (runeAt s pos).2)) }) (strAt s (pos + (runeAt s pos).2)) hk hb (by simp [strAt]) (by simp)
        (fun r hr => by simp [Array.getElem?_setIfInBounds, Ne.symm hr]) rfl rfl rfl
        (fun O' hm => by
          show (w.heap.setIfInBounds k.r _)[k.r]? = _
          rw [Array.getElem?_setIfInBounds_self_of_lt (hh.lt b k hk)])
      refine ⟨.tuple #[.bool true, .int .i64 pos, .int .i32 (runeAt s pos).1], _, _, _, _, ?_, r1, ?_, r2, hR1 hp⟩
      · simp [Instr.next, getObj, setObj, Sem.run, ho, hsz, hp, runeAt, goInt]
      · exact .tup _ _ rfl (VRels.cons (.bool true) (VRels.cons (.int .i64 _) (VRels.cons (.int .i32 _) .nil))).2
    · refine ⟨.tuple #[.bool false], w, J, _, h, ?_, hh, .tup _ _ rfl (VRels.cons (.bool false) .nil).2, Evo.refl _ _ _, hR2 hp⟩
      simp [Instr.next, getObj, Sem.run, ho, hsz, hp]
end
end Go.Abs
