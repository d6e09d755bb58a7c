/-
  Operations that only compute: their abstract values, and that the real operation yields a value that shows the abstract one.
-/
import Derived.Test.YtillfoacekifbaaDoorAbsCore
import Derived.Laws.StructEq
import Derived.Laws.Slices
import Derived.Laws.Cells
import Derived.Laws.Tables
import Derived.Laws.BytesString
import Derived.KernelRfl
set_option linter.unusedVariables false
set_option linter.unusedSimpArgs false
namespace Go.Abs
open Go

def AV.core : AV → AV | .opt _ x => x | x => x
def AV.gd : AV → Bool | .opt g _ => g | _ => true

section
variable {J : List Blk} {O : Nat → Prop} {w : World}

theorem VRel.core {x : AV} {v : Value} (h : VRel J O w x v) (hg : x.gd = true) : VRel J O w x.core v := by
  cases h with
  | opt g x v h h0 => exact h hg
  | _ => first | exact .bool _ | exact .int _ _ | exact .str _ | exact .lit _ ‹_› | exact .agg _ _ ‹_› ‹_› ‹_› | exact .tup _ _ ‹_› ‹_› | exact .nil | exact .e0 _ | exact .roNil | exact .ro _ _ _ _ _ ‹_› ‹_› ‹_› ‹_› ‹_› ‹_› ‹_› | exact .rop _ _ _ _ _ _ ‹_› ‹_› ‹_› ‹_› ‹_› ‹_› | exact .own _ _ _ _ _ _ ‹_› ‹_› ‹_› ‹_› | exact .ptr _ _ _ _ ‹_› | exact .fn _ _ _ _ _ ‹_› ‹_› ‹_› ‹_› | exact .map _ _ ‹_› | exact .obj _ _ ‹_› | exact .iface _ _ _ ‹_› | exact .junk _
end

def ofV1 : Value → AV
  | .bool b => .bool b
  | .int k n => .int k n
  | .string s => .str s.data.toList
  | .slice none 0 0 => .nil
  | v => .lit v
def ofV : Value → AV
  | .agg cs => match cs.toList.all (·.oneCell') with
    | true => .agg (cs.toList.map ofV1)
    | false => .junk
  | .tuple _ => .junk
  | v => ofV1 v

theorem vrel_ofV1 {J : List Blk} {O : Nat → Prop} {w : World} {v : Value} (h : v.oneCell' = true) : VRel J O w (ofV1 v) v := by
  unfold ofV1
  split
  · exact .bool _
  · exact .int _ _
  · rename_i s
    have : s = ⟨s.data.toList.toArray⟩ := by simp
    conv => rhs; rw [this]
    exact .str _
  · exact .nil
  · exact .lit _ h

theorem vrels_ofV1 {J : List Blk} {O : Nat → Prop} {w : World} {l : List Value} (h : ∀ v ∈ l, v.oneCell' = true) : VRels J O w (l.map ofV1) l := by
  refine ⟨by simp, fun i x v hx hv => ?_⟩
  simp only [List.getElem?_map, hv, Option.map_some, Option.some.injEq] at hx
  subst hx
  exact vrel_ofV1 (h v (List.mem_of_getElem? hv))

theorem vrel_ofV {J : List Blk} {O : Nat → Prop} {w : World} (v : Value) : VRel J O w (ofV v) v := by
  unfold ofV
  split
  · rename_i cs
    split
    · rename_i hall
      rw [List.all_eq_true] at hall
      have := vrels_ofV1 (J := J) (O := O) (w := w) hall
      have e : cs = cs.toList.toArray := by simp
      conv => rhs; rw [e]
      exact .agg _ _ this.1 hall this.2
    · exact .junk _
  · exact .junk _
  · rename_i h1 h2
    refine vrel_ofV1 ?_
    cases v <;> first | rfl | (exfalso; first | exact h1 _ rfl | exact h2 _ rfl)

/-- What an operand is in the abstract frame. -/
def ev (gl : Globs) (fr : AFrame) : Operand → AV
  | .tmp t => fr t
  | .const v => ofV v
  | .global g => match gl g with
    | some cs => .rop [cs] 0 0
    | none => .lit (.pointer (some ⟨g, 0, none⟩))
  | .func f => .fn (.func f) [] []

section
variable {gl : Globs} {N : Nat} {J : List Blk} {fr : AFrame} {h : AHeap} {a : Act} {w : World}

theorem ev_sound (hh : HRel gl h J w) {x : Operand} (ht : ∀ t, x = .tmp t → VRel J (Own h J) w (fr t) (a.tmps.getD t undef)) : VRel J (Own h J) w (ev gl fr x) (a.eval x) := by
  cases x with
  | tmp t => exact ht t rfl
  | const v => exact vrel_ofV v
  | global g =>
    simp only [ev, Act.eval]
    split
    · rename_i cs hg; exact hh.glob g cs hg
    · exact .lit _ rfl
  | func f => exact .fn _ [] [] [] [] rfl rfl (by simp) (by simp)

def setd (fr : AFrame) : Option Tmp → AV → AFrame
  | none, _ => fr
  | some d, x => fun t => if t = d then x else fr t

theorem ARel.put (r : ARel gl N J fr h a w) {dst : Option Tmp} {x : AV} {v : Value} (hd : ∀ d, dst = some d → d < N) (hv : VRel J (Own h J) w x v) :
    ARel gl N J (setd fr dst x) h (a.put dst v) w := by
  cases dst with
  | none => exact r
  | some d =>
    refine ⟨by simp [Act.put, r.size], r.defers, fun t => ?_, r.heap⟩
    have hd' := hd d rfl
    by_cases htd : t = d
    · subst htd
      have hs : t < a.tmps.size := by rw [r.size]; exact hd'
      simp only [setd, if_true, Act.put]
      rw [Array.getD_eq_getD_getElem?, Array.getElem?_setIfInBounds_self_of_lt hs]
      exact hv
    · have := r.tmps t
      simp only [setd, htd, if_false, Act.put]
      rw [Array.getD_eq_getD_getElem?, Array.getElem?_setIfInBounds_ne (Ne.symm htd), ← Array.getD_eq_getD_getElem?]
      exact this
end

/-! ### Types, in short -/

inductive TK where
  | bool | int (k : IntKind) | string | slice (e : TypeId) | array (n : Nat) (e : TypeId) | map (k e : TypeId) | struct (fs : List (Nat × Nat × TypeId)) | pointer (e : TypeId) | func | iface | other
structure TI where
  ok : Bool
  agg : Bool
  cells : Nat
  bytes : Nat
  kind : TK
  zok : Bool
  zero : List AV

def tkOf (P : Program) : TypeDesc → TK
  | .bool => .bool
  | .int k => .int k
  | .string => .string
  | .slice e => .slice e
  | .array n e => .array n e
  | .map k e => .map k e
  | .struct fs => .struct (fs.toList.map fun f => (f.offset, P.cellsOf f.type, f.type))
  | .pointer e => .pointer e
  | .func _ _ _ => .func
  | .interface _ => .iface
  | _ => .other
def aggOf : TypeDesc → Bool
  | .struct _ | .array _ _ => true
  | _ => false
def isAggV : Value → Bool
  | .agg _ => true
  | _ => false
def zokOf (d : TypeDesc) : Option Value → Bool
  | some z => z.cells.toList.all (·.oneCell') && (isAggV z == aggOf d)
  | none => false
def tinfo (P : Program) (t : TypeId) : TI := match P.underlying t, P.info? t with
  | some d, some i => { ok := true, agg := aggOf d, cells := i.size, bytes := i.bytes, kind := tkOf P d, zok := zokOf d i.zero,
                        zero := (match i.zero with | some z => z.cells.toList.map ofV1 | none => []) }
  | _, _ => { ok := false, agg := false, cells := 0, bytes := 0, kind := .other, zok := false, zero := [] }

theorem tinfo_ok {P : Program} {t : TypeId} (h : (tinfo P t).ok = true) : ∃ d i, P.underlying t = some d ∧ P.info? t = some i ∧
    tinfo P t = { ok := true, agg := aggOf d, cells := i.size, bytes := i.bytes, kind := tkOf P d, zok := zokOf d i.zero,
                  zero := (match i.zero with | some z => z.cells.toList.map ofV1 | none => []) } := by
  unfold tinfo at h ⊢
  split at h
  · rename_i d i hd hi; exact ⟨d, i, hd, hi, by simp [hd, hi]⟩
  · simp at h

theorem run_isAgg' {P : Program} {t : TypeId} (h : (tinfo P t).ok = true) (w : World) : (isAgg t).run P w = .ok (tinfo P t).agg w := by
  obtain ⟨d, i, hd, hi, e⟩ := tinfo_ok h
  rw [e]
  simp only [isAgg, Sem.run_bind, run_underlying hd, Result.andThen_ok]
  cases d <;> rfl
theorem run_sizeOf' {P : Program} {t : TypeId} (h : (tinfo P t).ok = true) (w : World) : (sizeOf t).run P w = .ok (tinfo P t).cells w := by
  obtain ⟨d, i, hd, hi, e⟩ := tinfo_ok h
  rw [e]
  simp [sizeOf, typeInfo, hi]
theorem run_typeInfo' {P : Program} {t : TypeId} (h : (tinfo P t).ok = true) (w : World) : ∃ i, (typeInfo t).run P w = .ok i w ∧ P.info? t = some i ∧ i.size = (tinfo P t).cells ∧ i.bytes = (tinfo P t).bytes := by
  obtain ⟨d, i, hd, hi, e⟩ := tinfo_ok h
  rw [e]
  exact ⟨i, by simp [typeInfo, hi], hi, rfl, rfl⟩
theorem run_zeroValue' {P : Program} {t : TypeId} (h : (tinfo P t).ok = true) (hz : (tinfo P t).zok = true) (w : World) :
    ∃ z : Value, (zeroValue t).run P w = .ok z w ∧ (∀ v ∈ z.cells.toList, v.oneCell' = true) ∧ (tinfo P t).zero = z.cells.toList.map ofV1 ∧ isAggV z = (tinfo P t).agg := by
  obtain ⟨d, i, hd, hi, e⟩ := tinfo_ok h
  rw [e] at hz ⊢
  simp only at hz ⊢
  cases hzz : i.zero with
  | none => simp [hzz, zokOf] at hz
  | some z =>
    simp only [hzz, zokOf, Bool.and_eq_true, List.all_eq_true, beq_iff_eq] at hz
    exact ⟨z, by simp [zeroValue, typeInfo, hi, hzz], hz.1, rfl, hz.2⟩
theorem kind_slice {P : Program} {t e : TypeId} (h : (tinfo P t).kind = .slice e) : P.underlying t = some (.slice e) ∧ (tinfo P t).ok = true := by
  by_cases hok : (tinfo P t).ok = true
  · obtain ⟨d, i, hd, hi, e'⟩ := tinfo_ok hok
    rw [e'] at h
    simp only at h
    cases d <;> simp [tkOf] at h
    subst h
    exact ⟨hd, hok⟩
  · unfold tinfo at h hok
    split at h
    · rename_i hd hi; simp [hd, hi] at hok
    · simp at h
theorem kind_ok {P : Program} {t : TypeId} (h : (tinfo P t).kind ≠ .other) : (tinfo P t).ok = true := by
  unfold tinfo at h ⊢
  split
  · rfl
  · rename_i hx; split at h
    · rename_i h1 h2; exact absurd h2 (hx _ _ h1)
    · simp at h
theorem kind_und {P : Program} {t : TypeId} {k : TK} (h : (tinfo P t).kind = k) (hk : k ≠ .other) : ∃ d, P.underlying t = some d ∧ tkOf P d = k ∧ (tinfo P t).ok = true ∧ (tinfo P t).agg = aggOf d := by
  have hok : (tinfo P t).ok = true := kind_ok (by rw [h]; exact hk)
  obtain ⟨d, i, hd, hi, e⟩ := tinfo_ok hok
  refine ⟨d, hd, ?_, hok, ?_⟩
  · rw [e] at h; exact h
  · rw [e]

/-! ### Memory that is read -/

theorem add_add' (a : Addr) (m n : Nat) : (a.add m).add n = a.add (m + n) := by
  unfold Addr.add
  by_cases hm : m = 0
  · subst hm; simp
  · by_cases hn : n = 0
    · subst hn; simp [hm]
    · have : ¬ (m + n = 0) := by omega
      simp [hm, hn, Nat.add_assoc]
theorem add_mk (b o n : Nat) : Addr.add ⟨b, o, none⟩ n = ⟨b, o + n, none⟩ := by
  unfold Addr.add; split
  · rename_i h; subst h; rfl
  · rfl

def hcells (h : AHeap) (b : Nat) : List (List AV) := match h[b]? with
  | some (.cells _ es) => es
  | _ => []
def hsz (h : AHeap) (b : Nat) : Nat := match h[b]? with
  | some (.cells n _) => n
  | _ => 0
def hmap (h : AHeap) (b : Nat) : List (AV × AV) := match h[b]? with
  | some (.map kvs) => kvs
  | _ => []
def isMap (h : AHeap) (b : Nat) : Bool := match h[b]? with
  | some (.map _) => true
  | _ => false

/-- The cells of one element lie at an address. -/
def ERow (J : List Blk) (O : Nat → Prop) (w : World) (a : Addr) (e : List AV) : Prop :=
  ∀ (c : Nat) (x : AV), e[c]? = some x → ∃ v, w.cell? (a.add c) = some v ∧ v.oneCell' = true ∧ VRel J O w x v

section
variable {P : Program} {gl : Globs} {J : List Blk} {h : AHeap} {w : World} {O : Nat → Prop}

theorem cell_of_heap {w : World} {r off : Nat} {vs : Array Value} {T : TypeId} {fz : Nat × Nat} (hh : w.heap[r]? = some (.cells vs T fz)) : w.cell? ⟨r, off, none⟩ = vs[off]? := by
  simp [World.cell?, hh]

theorem erow_ptr (hh : HRel gl h J w) {b i c : Nat} {e : List AV} {v : Value} (hv : VRel J (Own h J) w (.ptr b i c) v) (hi : (hcells h b)[i]? = some e) :
    ∃ (k : Blk), J[b]? = some k ∧ v = .pointer (some ((⟨k.r, k.base + i * k.n, none⟩ : Addr).add c)) ∧ e.length = k.n ∧ ERow J (Own h J) w ⟨k.r, k.base + i * k.n, none⟩ e := by
  cases hv with
  | ptr _ _ _ k hb =>
    have ho : ∃ n es, h[b]? = some (.cells n es) ∧ es[i]? = some e := by
      unfold hcells at hi
      split at hi
      · rename_i n es he; exact ⟨n, es, he, hi⟩
      · simp at hi
    obtain ⟨n, es, he, hei⟩ := ho
    obtain ⟨hkn, hn, hcap, hlen, vs, T, hheap, hsz, hcell⟩ := hh.obj b k _ hb he
    refine ⟨k, hb, by rw [add_mk, Nat.add_assoc], hlen i e hei, fun c' x hx => ?_⟩
    obtain ⟨v, hv1, hv2, hv3⟩ := hcell i e c' x hei hx
    exact ⟨v, by rw [add_mk, cell_of_heap hheap, Nat.add_assoc]; exact hv1, hv2, hv3⟩

theorem erow_rop {es : List (List AV)} {i c : Nat} {e : List AV} {v : Value} (hv : VRel J O w (.rop es i c) v) (hi : es[i]? = some e) :
    ∃ (a : Addr), v = .pointer (some (a.add c)) ∧ ERow J O w a e := by
  cases hv with
  | rop _ _ _ a n f hn hO hl hc h1 h2 =>
    refine ⟨a.add (i * n), by rw [add_add'], fun c' x hx => ?_⟩
    exact ⟨f i c', by rw [add_add']; exact hc i e c' x hi hx, h1 i e c' x hi hx, h2 i e c' x hi hx⟩

/-- A piece of a row of cells. -/
def acut (T : TI) (e : List AV) (c : Nat) : AV := match T.agg with
  | true => .agg ((e.drop c).take T.cells)
  | false => e.getD c .junk
def cutOk (T : TI) (e : List AV) (c : Nat) : Prop := match T.agg with
  | true => c + T.cells ≤ e.length
  | false => c < e.length

theorem load_sound {t : TypeId} {a : Addr} {e : List AV} {c : Nat} (ht : (tinfo P t).ok = true) (hr : ERow J O w a e) (hc : cutOk (tinfo P t) e c) :
    ∃ v, (loadVar t (a.add c)).run P w = .ok v w ∧ VRel J O w (acut (tinfo P t) e c) v := by
  simp only [loadVar, Sem.run_bind, run_isAgg' ht, Result.andThen_ok]
  unfold cutOk at hc
  unfold acut
  cases hag : (tinfo P t).agg with
  | true =>
    simp only [hag] at hc ⊢
    simp only [if_true, Sem.run_bind, run_sizeOf' ht, Result.andThen_ok]
    let f : Nat → Value := fun j => (w.cell? ((a.add c).add j)).getD undef
    have hf : ∀ j, j < (tinfo P t).cells → w.cell? ((a.add c).add j) = some (f j) ∧ (f j).oneCell' = true ∧ ∀ x, e[c + j]? = some x → VRel J O w x (f j) := by
      intro j hj
      have hx : e[c + j]? = some (e[c + j]'(by omega)) := List.getElem?_eq_getElem (by omega)
      obtain ⟨v, h1, h2, h3⟩ := hr (c + j) _ hx
      have e1 : w.cell? ((a.add c).add j) = some v := by rw [add_add']; exact h1
      have e2 : f j = v := by simp [f, e1]
      refine ⟨by rw [e2]; exact e1, by rw [e2]; exact h2, fun x hx' => ?_⟩
      rw [hx] at hx'
      injection hx' with hx'
      rw [e2, ← hx']; exact h3
    rw [run_loadCells w (a.add c) (tinfo P t).cells f (fun j hj => (hf j hj).1)]
    simp only [Result.andThen_ok, Sem.run_pure]
    refine ⟨_, rfl, .agg _ _ (by simp; omega) ?_ ?_⟩
    · intro v hv
      obtain ⟨j, hj, rfl⟩ := List.mem_map.1 hv
      exact (hf j (List.mem_range.1 hj)).2.1
    · intro i x v hx hv
      have hi : i < (tinfo P t).cells := by
        rcases Nat.lt_or_ge i (tinfo P t).cells with h' | h'
        · exact h'
        · rw [List.getElem?_eq_none (by simp; omega)] at hv; cases hv
      simp only [List.getElem?_map, List.getElem?_range hi, Option.map_some, Option.some.injEq] at hv
      subst hv
      rw [List.getElem?_take_of_lt hi, List.getElem?_drop] at hx
      exact (hf i hi).2.2 x hx
  | false =>
    simp only [hag] at hc ⊢
    simp only [Bool.false_eq_true, if_false, run_load]
    have hx : e[c]? = some e[c] := List.getElem?_eq_getElem hc
    obtain ⟨v, h1, h2, h3⟩ := hr c _ hx
    refine ⟨v, by rw [h1], ?_⟩
    simpa [List.getD, hx] using h3

theorem part_sound {t : TypeId} {cs : List AV} {off : Nat} {v : Value} (ht : (tinfo P t).ok = true) (hv : VRel J O w (.agg cs) v) (hc : cutOk (tinfo P t) cs off) :
    ∃ vs : List Value, v = .agg vs.toArray ∧ ∃ u, (part t vs.toArray off).run P w = .ok u w ∧ VRel J O w (acut (tinfo P t) cs off) u := by
  cases hv with
  | agg _ vs hl h1 hh =>
    refine ⟨vs, rfl, ?_⟩
    simp only [part, Sem.run_bind, run_isAgg' ht, Result.andThen_ok]
    unfold cutOk at hc
    unfold acut
    cases hag : (tinfo P t).agg with
    | true =>
      simp only [hag] at hc ⊢
      simp only [if_true, Sem.run_bind, run_sizeOf' ht, Result.andThen_ok, Sem.run_pure]
      have e1 : vs.toArray.extract off (off + (tinfo P t).cells) = ((vs.drop off).take (tinfo P t).cells).toArray := by
        simp [List.extract_toArray, List.extract_eq_take_drop]
      rw [e1]
      refine ⟨_, rfl, .agg _ _ (by simp [hl]) ?_ ?_⟩
      · intro u hu
        exact h1 u (List.mem_of_mem_drop (List.mem_of_mem_take hu))
      · intro i x u hx hu
        have hi : i < (tinfo P t).cells := by
          rcases Nat.lt_or_ge i (tinfo P t).cells with h' | h'
          · exact h'
          · rw [List.getElem?_eq_none (by simp; omega)] at hu; cases hu
        rw [List.getElem?_take_of_lt hi, List.getElem?_drop] at hx hu
        exact hh _ x u hx hu
    | false =>
      simp only [hag] at hc ⊢
      simp only [Bool.false_eq_true, if_false]
      have hx : cs[off]? = some cs[off] := List.getElem?_eq_getElem hc
      have hu : vs[off]? = some (vs[off]'(by omega)) := List.getElem?_eq_getElem (by omega)
      have hua : vs.toArray[off]? = some (vs[off]'(by omega)) := by simp
      refine ⟨vs[off]'(by omega), by rw [hua]; rfl, ?_⟩
      simpa [List.getD, hx] using hh off _ _ hx hu
end
end Go.Abs
