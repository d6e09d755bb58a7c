/-
  Readings and passages: how they show as abstract values; costs.
-/
import Derived.Test.YtmdenljmfeejfaaTollBase
import Derived.Test.YtmdenljmfeejfaaTollCmp
set_option linter.unusedVariables false
set_option linter.unusedSimpArgs false
namespace Go.Toll
open Go Go.Abs

structure TSeen where
  dev : Bytes
  seq : Int
  dtime : Int
  tag : Bytes
  plate : Bytes
  axles : Int
  score : Int
  time : Int
  point : Bytes
  lane : Int
  kind : Int
deriving DecidableEq
structure TPass where
  id : Bytes
  point : Bytes
  time : Int
  tag : Bytes
  plate : Bytes
  cls : Int
  score : Int
  sources : List (List AV)
def encSeen (s : TSeen) : List AV := [.str s.dev, .int .i64 s.seq, .int .i64 s.dtime, .str s.tag, .str s.plate, .int .i64 s.axles, .int .i64 s.score, .int .i64 s.time, .str s.point, .int .i64 s.lane, .int .i64 s.kind]
def encPass (p : TPass) : List AV := [.str p.id, .str p.point, .int .i64 p.time, .str p.tag, .str p.plate, .int .i64 p.cls, .int .i64 p.score, .ro p.sources]
@[simp] theorem encSeen_len (s : TSeen) : (encSeen s).length = 11 := rfl
@[simp] theorem encPass_len (s : TPass) : (encPass s).length = 8 := rfl
@[simp] theorem encSeen_eq (s : TSeen) : encSeen s = [.str s.dev, .int .i64 s.seq, .int .i64 s.dtime, .str s.tag, .str s.plate, .int .i64 s.axles, .int .i64 s.score, .int .i64 s.time, .str s.point, .int .i64 s.lane, .int .i64 s.kind] := rfl
@[simp] theorem encPass_eq (p : TPass) : encPass p = [.str p.id, .str p.point, .int .i64 p.time, .str p.tag, .str p.plate, .int .i64 p.cls, .int .i64 p.score, .ro p.sources] := rfl

/-! ### Costs -/
def distI (a b : Int) : Int := max a b - min a b
def lackI (n : Int) : Int := (1000 - min (max n 0) 1000) / 10
/-- A number that is far from the ends. -/
def mid (n : Int) : Prop := -1152921504606846976 ≤ n ∧ n ≤ 1152921504606846976
theorem lackI_range (n : Int) : 0 ≤ lackI n ∧ lackI n ≤ 100 := by unfold lackI; omega
theorem distI_nonneg (a b : Int) : 0 ≤ distI a b := by unfold distI; omega
def pairI (a b : TSeen) : Int :=
  if a.kind ≠ 1 ∨ b.kind ≠ 2 ∨ a.point ≠ b.point ∨ 20 < distI a.time b.time then -1
  else 10 * distI a.time b.time + lackI a.score + lackI b.score + if a.lane ≠ b.lane then 50 else 0
def axlesI (point : Bytes) (time lane : Int) (s : TSeen) : Int :=
  if s.kind ≠ 3 ∨ point ≠ s.point ∨ 10 < distI time s.time then -1
  else 5 * distI time s.time + if s.lane ≠ lane then 40 else 0
theorem pairI_range (a b : TSeen) : -1 ≤ pairI a b ∧ pairI a b ≤ 450 := by
  unfold pairI
  have h1 := lackI_range a.score
  have h2 := lackI_range b.score
  have h3 := distI_nonneg a.time b.time
  split
  · omega
  · rename_i h
    have : ¬ 20 < distI a.time b.time := fun hh => h (.inr (.inr (.inr hh)))
    split <;> omega
theorem axlesI_range (p : Bytes) (t l : Int) (s : TSeen) : -1 ≤ axlesI p t l s ∧ axlesI p t l s ≤ 90 := by
  unfold axlesI
  have h3 := distI_nonneg t s.time
  split
  · omega
  · rename_i h
    have : ¬ 10 < distI t s.time := fun hh => h (.inr (.inr hh))
    split <;> omega
def confI (best margin : Int) : Int := min (max (600 + 2 * (if margin = -1 then 1000 else margin) - best) 0) 1000

/-! ### The order of readings -/
def encRaw (s : TSeen) : List AV := [.str s.dev, .int .i64 s.seq, .int .i64 s.dtime, .str s.tag, .str s.plate, .int .i64 s.axles, .int .i64 s.score]
def rawCmp (x y : TSeen) : Int := orI [cmpS x.dev y.dev, cmpI x.seq y.seq, cmpI x.dtime y.dtime, cmpS x.tag y.tag, cmpS x.plate y.plate, cmpI x.axles y.axles, cmpI x.score y.score]
def seenCmp (x y : TSeen) : Int := orI [cmpI x.time y.time, cmpS x.point y.point, cmpI x.kind y.kind, cmpI x.lane y.lane, rawCmp x y]
theorem orI_nil : orI [] = 0 := rfl
theorem orI_cons (n : Int) (l : List Int) : orI (n :: l) = if n = 0 then orI l else n := rfl
theorem ord3_raw : Ord3 rawCmp := by
  have := (ord3_cmpS.comap TSeen.dev).lex ((ord3_int.comap TSeen.seq).lex ((ord3_int.comap TSeen.dtime).lex ((ord3_cmpS.comap TSeen.tag).lex ((ord3_cmpS.comap TSeen.plate).lex ((ord3_int.comap TSeen.axles).lex ((ord3_int.comap TSeen.score).lex ord3_const))))))
  exact this
theorem ord3_seen : Ord3 seenCmp := by
  have := (ord3_int.comap TSeen.time).lex ((ord3_cmpS.comap TSeen.point).lex ((ord3_int.comap TSeen.kind).lex ((ord3_int.comap TSeen.lane).lex (ord3_raw.lex ord3_const))))
  exact this
theorem orI_zero : ∀ l : List Int, orI l = 0 ↔ ∀ n ∈ l, n = 0
  | [] => by simp [orI_nil]
  | n :: l => by
    rw [orI_cons]
    split <;> rename_i h
    · rw [orI_zero l]; simp [h]
    · simp [h]
theorem seenCmp_zero (x y : TSeen) : seenCmp x y = 0 ↔ x = y := by
  constructor
  · intro h
    simp [seenCmp, rawCmp, orI_zero, cmpI_zero, cmpS_zero] at h
    cases x; cases y
    simp_all
  · rintro rfl
    exact ord3_seen.self x

/-- Texts of a length that a machine can hold. -/
def shortS (s : Bytes) : Prop := s.length ≤ 9223372036854775807
def TSeen.short (s : TSeen) : Prop := shortS s.dev ∧ shortS s.tag ∧ shortS s.plate ∧ shortS s.point
theorem less_cons (a b : UInt8) (x y : Bytes) : Op.bytesLess (a :: x) (b :: y) = (decide (a < b) || (a == b && Op.bytesLess x y)) := rfl
theorem less_step {a b : Bytes} {i : Nat} {x y : UInt8} (hx : a[i]? = some x) (hy : b[i]? = some y) : Op.bytesLess (a.drop i) (b.drop i) = (decide (x < y) || (x == y && Op.bytesLess (a.drop (i + 1)) (b.drop (i + 1)))) := by
  rw [drop_get hx, drop_get hy, less_cons]
theorem less_end {a b : Bytes} {i : Nat} (h : a.length ≤ i ∨ b.length ≤ i) (ha : i ≤ a.length) (hb : i ≤ b.length) : Op.bytesLess (a.drop i) (b.drop i) = decide (a.length < b.length) := by
  rcases h with h | h
  · rw [List.drop_eq_nil_of_le h]
    rcases Nat.lt_or_ge i b.length with h1 | h1
    · obtain ⟨y, hy, _⟩ := get_lt h1
      rw [drop_get hy]
      have : a.length < b.length := by omega
      simp [Op.bytesLess, this]
    · rw [List.drop_eq_nil_of_le h1]
      have : ¬ a.length < b.length := by omega
      simp [Op.bytesLess, this]
  · rw [List.drop_eq_nil_of_le h]
    have : ¬ a.length < b.length := by omega
    cases a.drop i <;> simp [Op.bytesLess, this]
theorem u8eq (x y : UInt8) : ((x.toNat : Int) = (y.toNat : Int)) = (x = y) := propext ⟨fun e => UInt8.toNat_inj.1 (by omega), fun e => by rw [e]⟩
end Go.Toll
