/-
  The data of the layers as plain structures, and how they show as abstract values.
-/
import Derived.Test.YtmdenljmfeejfaaAbsWp
import Derived.Lib.Bytealg
set_option linter.unusedVariables false
set_option linter.unusedSimpArgs false
namespace Go.Toll
open Go Go.Abs

abbrev Bytes := List UInt8

structure Iv where
  lo : Int
  hi : Int
  deriving DecidableEq
structure Win where
  days : Int
  lo : Int
  hi : Int
  deriving DecidableEq
structure Band where
  name : Bytes
  win : Win
  deriving DecidableEq
structure Rate where
  src : Bytes
  dst : Bytes
  cls : Int
  band : Bytes
  cents : Int
  deriving DecidableEq
structure Tariff where
  valid : Iv
  bands : List Band
  rates : List Rate
  deriving DecidableEq

def encIv (i : Iv) : List AV := [.int .i64 i.lo, .int .i64 i.hi]
def encWin (w : Win) : List AV := [.int .i64 w.days, .int .i64 w.lo, .int .i64 w.hi]
def encBand (b : Band) : List AV := [.str b.name, .int .i64 b.win.days, .int .i64 b.win.lo, .int .i64 b.win.hi]
def encRate (r : Rate) : List AV := [.str r.src, .str r.dst, .int .i64 r.cls, .str r.band, .int .i64 r.cents]
def encTariff (x : Tariff) : List AV := [.int .i64 x.valid.lo, .int .i64 x.valid.hi, .ro (x.bands.map encBand), .ro (x.rates.map encRate)]

attribute [simp] encIv encWin encBand encRate encTariff

section
open AV
@[simp] theorem data_bool (b : Bool) : (AV.bool b).Data := .bool b
@[simp] theorem data_int (k : IntKind) (n : Int) : (AV.int k n).Data := .int k n
@[simp] theorem data_str (s : List UInt8) : (AV.str s).Data := .str s
@[simp] theorem data_nil : AV.nil.Data := .nil
@[simp] theorem data_e0 : AV.e0.Data := .e0
@[simp] theorem data_agg (cs : List AV) : (AV.agg cs).Data ↔ ∀ x ∈ cs, x.Data := ⟨fun h => by cases h; assumption, .agg cs⟩
@[simp] theorem data_tup (cs : List AV) : (AV.tup cs).Data ↔ ∀ x ∈ cs, x.Data := ⟨fun h => by cases h; assumption, .tup cs⟩
@[simp] theorem data_ro (es : List (List AV)) : (AV.ro es).Data ↔ ∀ e ∈ es, ∀ x ∈ e, x.Data := ⟨fun h => by cases h; assumption, .ro es⟩
end

theorem bits64 : IntKind.i64.bits = 64 := rfl
theorem bitsu64 : IntKind.u64.bits = 64 := rfl
attribute [simp] bits64 bitsu64

/-! ### Times -/
def isTimeB (t : Int) : Bool := decide (0 ≤ t) && decide (t < 68719476736)
def isDayB (d : Int) : Bool := decide (0 ≤ d) && decide (d < 795364)
def validWB (w : Win) : Bool := decide (1 ≤ w.days) && decide (w.days ≤ 127) && decide (0 ≤ w.lo) && decide (w.lo < w.hi) && decide (w.hi ≤ 1440)
def validIB (i : Iv) : Bool := decide (0 ≤ i.lo) && decide (i.lo < i.hi) && decide (i.hi ≤ 68719476736)
def minuteI (t : Int) : Int := if isTimeB t then (t.tmod 86400).tdiv 60 else -1
def dayI (t : Int) : Int := if isTimeB t then t.tdiv 86400 else -1
def onB (w : Win) (d : Int) : Bool := bits .and .i64 (w.days.fdiv (2 ^ min (d.tmod 7).toNat 64)) 1 == 1
def inWB (w : Win) (t : Int) : Bool := isTimeB t && validWB w && onB w (t.tdiv 86400) && decide (w.lo ≤ minuteI t) && decide (minuteI t < w.hi)

def setB (days : Int) : Nat → Bool
  | 0 => days.tmod 2 == 1
  | k + 1 => setB (days.tdiv 2) k

def refInB (w : Win) (t : Int) : Bool := validWB w && isTimeB t && setB w.days ((t.tdiv 86400).tmod 7).toNat && decide (w.lo ≤ minuteI t) && decide (minuteI t < w.hi)
def bandOf (x : Tariff) (t : Int) : Bytes := ((x.bands.find? fun b => inWB b.win t).map (·.name)).getD []

def refBandOf (x : Tariff) (t : Int) : Bytes := ((x.bands.find? fun b => refInB b.win t).map (·.name)).getD []

def shortB (x : Tariff) : Bool := decide ((x.bands.length : Int) ≤ 40) && decide ((x.rates.length : Int) ≤ 60)
def fewB (l : List Tariff) : Bool := decide ((l.length : Int) ≤ 12) && l.all shortB

/-- R22.Same. -/
def tarEqB (a b : Tariff) : Bool := decide (a.valid = b.valid ∧ a.bands = b.bands ∧ a.rates = b.rates)

def isRate (a b : Bytes) (c : Int) (d : Bytes) (y : Rate) : Bool := decide (y.src = a) && decide (y.dst = b) && decide (y.cls = c) && decide (y.band = d)
def centsIn (a b : Bytes) (c : Int) (d : Bytes) : List Rate → Int × Bool
  | [] => (0, false)
  | y :: l => if isRate a b c d y then (y.cents, true) else centsIn a b c d l
def centsOf (x : Tariff) (a b : Bytes) (c : Int) (d : Bytes) : Int × Bool := centsIn a b c d x.rates
/-- The price (the first of the band's, then of no band's), and the error. -/
def rateI (band : Bytes) (x : Tariff) (a b : Bytes) (c : Int) : Int × Int :=
  if (centsOf x a b c band).2 then ((centsOf x a b c band).1, 0) else if (centsOf x a b c []).2 then ((centsOf x a b c []).1, 0) else (0, 22)

def hasB (i : Iv) (t : Int) : Bool := validIB i && decide (i.lo ≤ t) && decide (t < i.hi)

def hasL (t : Int) : List Iv → Bool
  | [] => false
  | i :: l => hasB i t || hasL t l
theorem hasL_eq (t : Int) : ∀ l, hasL t l = l.any fun i => hasB i t
  | [] => rfl
  | i :: l => by rw [hasL, List.any_cons, hasL_eq t l]

def atT : List Tariff → Int → Tariff × Int
  | [], _ => (⟨⟨0, 0⟩, [], []⟩, 22)
  | x :: l, t => if hasB x.valid t then (x, 0) else atT l t

/-- The first that is not 0. -/
def orI : List Int → Int
  | [] => 0
  | n :: l => if n = 0 then orI l else n

def rateCmp (a b : Rate) : Int := orI [Lib.compareBytes a.src b.src, Lib.compareBytes a.dst b.dst, Lib.compareBytes a.band b.band]
def beforeB (a b : Rate) : Bool := if a.src ≠ b.src then Op.bytesLess a.src b.src else if a.dst ≠ b.dst then Op.bytesLess a.dst b.dst else Op.bytesLess a.band b.band

/-- The place of the first, from a place, or -1. -/
def idxFrom {α : Type} (p : α → Bool) : Nat → List α → Int
  | _, [] => -1
  | i, x :: l => if p x then (i : Int) else idxFrom p (i + 1) l
def idxI {α : Type} (p : α → Bool) (l : List α) : Int := idxFrom p 0 l
theorem idxFrom_nonneg {α : Type} (p : α → Bool) : ∀ (l : List α) (i : Nat), decide (0 ≤ idxFrom p i l) = l.any p
  | [], i => by simp [idxFrom]
  | x :: l, i => by
    rw [idxFrom, List.any_cons]
    cases hx : p x
    · simpa using idxFrom_nonneg p l (i + 1)
    · simp
theorem idxI_nonneg {α : Type} (p : α → Bool) (l : List α) : decide (0 ≤ idxI p l) = l.any p := idxFrom_nonneg p l 0

theorem drop_get {α : Type} {l : List α} {i : Nat} {b : α} (h : l[i]? = some b) : l.drop i = b :: l.drop (i + 1) := by
  obtain ⟨hi, rfl⟩ := List.getElem?_eq_some_iff.1 h
  exact List.drop_eq_getElem_cons hi
theorem get_lt {α : Type} {l : List α} {i : Nat} (h : i < l.length) : ∃ b, l[i]? = some b ∧ l[i] = b := ⟨_, List.getElem?_eq_getElem h, rfl⟩
theorem wrap_succ {i : Nat} (h : i < 9223372036854775807) : IntKind.i64.wrap ((i : Int) + 1) = (i : Int) + 1 := by
  rw [IntKind.wrap_i64]; omega
theorem wrap_succ' {i : Nat} (h : i < 9223372036854775807) : IntKind.i64.wrap ((i : Int) + 1) = ((i + 1 : Nat) : Int) := by
  rw [IntKind.wrap_i64]; omega

theorem isTime_range {t : Int} (h : isTimeB t = true) : 0 ≤ t ∧ t < 68719476736 := by simpa [isTimeB] using h
theorem wrap64_of {n : Int} (h1 : -9223372036854775808 ≤ n) (h2 : n ≤ 9223372036854775807) : IntKind.i64.wrap n = n := by
  rw [IntKind.wrap_i64]; omega
theorem tdiv_le {a b : Int} (h : 0 ≤ a) (hb : 0 < b) : 0 ≤ a.tdiv b ∧ a.tdiv b ≤ a := by
  rw [Int.tdiv_eq_ediv_of_nonneg h]
  exact ⟨Int.ediv_nonneg h (by omega), Int.ediv_le_self b h⟩
theorem tmod_lt {a b : Int} (h : 0 ≤ a) (hb : 0 < b) : 0 ≤ a.tmod b ∧ a.tmod b < b := by
  rw [Int.tmod_eq_emod_of_nonneg h]
  exact ⟨Int.emod_nonneg a (by omega), Int.emod_lt_of_pos a hb⟩
theorem wrap_minute {t : Int} (h : 0 ≤ t) : IntKind.i64.wrap ((t.tmod 86400).tdiv 60) = (t.tmod 86400).tdiv 60 := by
  have h1 := tmod_lt (b := 86400) h (by omega)
  have h2 := tdiv_le (b := 60) h1.1 (by omega)
  exact wrap64_of (by omega) (by omega)
theorem wrap_day {t : Int} (h : 0 ≤ t ∧ t < 68719476736) : IntKind.i64.wrap (t.tdiv 86400) = t.tdiv 86400 := by
  have h2 := tdiv_le (b := 86400) h.1 (by omega)
  exact wrap64_of (by omega) (by omega)
end Go.Toll
