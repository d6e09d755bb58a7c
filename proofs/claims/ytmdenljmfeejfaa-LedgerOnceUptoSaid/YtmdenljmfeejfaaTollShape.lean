/-
  The shapes of the layers' data, and what a reading of them gives.
-/
import Derived.Test.YtmdenljmfeejfaaTollBase
import Derived.Test.YtmdenljmfeejfaaAbsBridge
set_option linter.unusedVariables false
set_option linter.unusedSimpArgs false
namespace Go.Toll
open Go Go.Abs

/-- The cells of a shape's zero value; the zero argument. -/
def shZero : Sh → List Value
  | .bool => [.bool false]
  | .int k => [.int k 0]
  | .str => [.string ⟨#[]⟩]
  | .sl _ => [.slice none 0 0]
  | .st f => shZero f
  | .none => []
  | .cons a r => shZero a ++ shZero r
def shArg : Sh → Value
  | .st f => .agg (shZero f).toArray
  | s => (shZero s).headD undef

def I64 (n : Int) : Prop := -9223372036854775808 ≤ n ∧ n ≤ 9223372036854775807
theorem wf_i64 {n : Int} (h : (Lit.int .i64 n).wf = true) : I64 n := by
  simpa [I64, Lit.wf, IntKind.min, IntKind.max, IntKind.signed, IntKind.bits] using h
theorem wf_u8 {n : Int} (h : (Lit.int .u8 n).wf = true) : ∃ k : Nat, n = k ∧ k < 256 := by
  have : 0 ≤ n ∧ n ≤ 255 := by simpa [Lit.wf, IntKind.min, IntKind.max, IntKind.signed, IntKind.bits] using h
  exact ⟨n.toNat, by omega, by omega⟩

theorem dec_list {α : Type} {enc : α → List AV} {Q : α → Prop} {l : List (List AV)} (h : ∀ e ∈ l, ∃ x, e = enc x ∧ Q x) : ∃ xs : List α, l = xs.map enc ∧ ∀ x ∈ xs, Q x := by
  induction l with
  | nil => exact ⟨[], rfl, by simp⟩
  | cons e l ih =>
    obtain ⟨x, rfl, hx⟩ := h e (by simp)
    obtain ⟨xs, rfl, hxs⟩ := ih fun e he => h e (by simp [he])
    exact ⟨x :: xs, rfl, by simpa using ⟨hx, hxs⟩⟩

def shI : Sh := .int .i64
def sh2 (a b : Sh) : Sh := .st (.cons a (.cons b .none))
def sh3 (a b c : Sh) : Sh := .st (.cons a (.cons b (.cons c .none)))
def sh4 (a b c d : Sh) : Sh := .st (.cons a (.cons b (.cons c (.cons d .none))))
def sh5 (a b c d e : Sh) : Sh := .st (.cons a (.cons b (.cons c (.cons d (.cons e .none)))))
theorem ok_sh2 {a b : Sh} {es : List AV} (h : (sh2 a b).ok es) : ∃ x y, es = x ++ y ∧ a.ok x ∧ b.ok y := by
  obtain ⟨x, _, rfl, h1, y, _, rfl, h2, rfl⟩ := h
  exact ⟨x, y, by simp, h1, h2⟩
theorem ok_sh3 {a b c : Sh} {es : List AV} (h : (sh3 a b c).ok es) : ∃ x y z, es = x ++ (y ++ z) ∧ a.ok x ∧ b.ok y ∧ c.ok z := by
  obtain ⟨x, _, rfl, h1, y, _, rfl, h2, z, _, rfl, h3, rfl⟩ := h
  exact ⟨x, y, z, by simp, h1, h2, h3⟩
theorem ok_sh4 {a b c d : Sh} {es : List AV} (h : (sh4 a b c d).ok es) : ∃ x y z u, es = x ++ (y ++ (z ++ u)) ∧ a.ok x ∧ b.ok y ∧ c.ok z ∧ d.ok u := by
  obtain ⟨x, _, rfl, h1, y, _, rfl, h2, z, _, rfl, h3, u, _, rfl, h4, rfl⟩ := h
  exact ⟨x, y, z, u, by simp, h1, h2, h3, h4⟩
theorem ok_sh5 {a b c d e : Sh} {es : List AV} (h : (sh5 a b c d e).ok es) : ∃ x y z u v, es = x ++ (y ++ (z ++ (u ++ v))) ∧ a.ok x ∧ b.ok y ∧ c.ok z ∧ d.ok u ∧ e.ok v := by
  obtain ⟨x, _, rfl, h1, y, _, rfl, h2, z, _, rfl, h3, u, _, rfl, h4, v, _, rfl, h5, rfl⟩ := h
  exact ⟨x, y, z, u, v, by simp, h1, h2, h3, h4, h5⟩
theorem ok_I {es : List AV} (h : shI.ok es) : ∃ n, es = [.int .i64 n] ∧ I64 n := by
  obtain ⟨n, rfl, h⟩ := h
  exact ⟨n, rfl, wf_i64 h⟩
theorem ok_S {es : List AV} (h : Sh.str.ok es) : ∃ s : Bytes, es = [.str s] ∧ s.length ≤ maxLen := h
theorem ok_L {α : Type} {enc : α → List AV} {Q : α → Prop} {e : Sh} {es : List AV} (h : (Sh.sl e).ok es) (hd : ∀ es, e.ok es → ∃ x, es = enc x ∧ Q x) : ∃ l : List α, es = [.ro (l.map enc)] ∧ l.length ≤ maxLen ∧ ∀ x ∈ l, Q x := by
  obtain ⟨l, rfl, hl, h⟩ := h
  obtain ⟨xs, rfl, hx⟩ := dec_list fun e he => hd e (h e he)
  exact ⟨xs, rfl, by simpa using hl, hx⟩

def shIv : Sh := sh2 shI shI
def shWin : Sh := sh3 shI shI shI
def shBand : Sh := sh2 .str shWin
def shRate : Sh := sh5 .str .str shI .str shI
def shTariff : Sh := sh3 shIv (.sl shBand) (.sl shRate)
def Iv.wf (i : Iv) : Prop := I64 i.lo ∧ I64 i.hi
def Win.wf (w : Win) : Prop := I64 w.days ∧ I64 w.lo ∧ I64 w.hi
def Band.wf (b : Band) : Prop := b.name.length ≤ maxLen ∧ b.win.wf
def Rate.wf (r : Rate) : Prop := r.src.length ≤ maxLen ∧ r.dst.length ≤ maxLen ∧ I64 r.cls ∧ r.band.length ≤ maxLen ∧ I64 r.cents
def Tariff.wf (x : Tariff) : Prop := x.valid.wf ∧ (x.bands.length ≤ maxLen ∧ ∀ b ∈ x.bands, b.wf) ∧ (x.rates.length ≤ maxLen ∧ ∀ r ∈ x.rates, r.wf)
theorem ok_Iv {es : List AV} (h : shIv.ok es) : ∃ x : Iv, es = encIv x ∧ x.wf := by
  obtain ⟨_, _, rfl, h1, h2⟩ := ok_sh2 h
  obtain ⟨a, rfl, ha⟩ := ok_I h1
  obtain ⟨b, rfl, hb⟩ := ok_I h2
  exact ⟨⟨a, b⟩, rfl, ha, hb⟩
theorem ok_Win {es : List AV} (h : shWin.ok es) : ∃ x : Win, es = encWin x ∧ x.wf := by
  obtain ⟨_, _, _, rfl, h1, h2, h3⟩ := ok_sh3 h
  obtain ⟨a, rfl, ha⟩ := ok_I h1
  obtain ⟨b, rfl, hb⟩ := ok_I h2
  obtain ⟨c, rfl, hc⟩ := ok_I h3
  exact ⟨⟨a, b, c⟩, rfl, ha, hb, hc⟩
theorem ok_Band {es : List AV} (h : shBand.ok es) : ∃ x : Band, es = encBand x ∧ x.wf := by
  obtain ⟨_, _, rfl, h1, h2⟩ := ok_sh2 h
  obtain ⟨a, rfl, ha⟩ := ok_S h1
  obtain ⟨b, rfl, hb⟩ := ok_Win h2
  exact ⟨⟨a, b⟩, rfl, ha, hb⟩
theorem ok_Rate {es : List AV} (h : shRate.ok es) : ∃ x : Rate, es = encRate x ∧ x.wf := by
  obtain ⟨_, _, _, _, _, rfl, h1, h2, h3, h4, h5⟩ := ok_sh5 h
  obtain ⟨a, rfl, ha⟩ := ok_S h1
  obtain ⟨b, rfl, hb⟩ := ok_S h2
  obtain ⟨c, rfl, hc⟩ := ok_I h3
  obtain ⟨d, rfl, hd⟩ := ok_S h4
  obtain ⟨e, rfl, he⟩ := ok_I h5
  exact ⟨⟨a, b, c, d, e⟩, rfl, ha, hb, hc, hd, he⟩
theorem ok_Tariff {es : List AV} (h : shTariff.ok es) : ∃ x : Tariff, es = encTariff x ∧ x.wf := by
  obtain ⟨_, _, _, rfl, h1, h2, h3⟩ := ok_sh3 h
  obtain ⟨a, rfl, ha⟩ := ok_Iv h1
  obtain ⟨b, rfl, hb⟩ := ok_L h2 fun _ => ok_Band
  obtain ⟨c, rfl, hc⟩ := ok_L h3 fun _ => ok_Rate
  exact ⟨⟨a, b, c⟩, rfl, ha, hb, hc⟩

theorem arg_I {x : AV} (h : okArg shI x) : ∃ n, x = .int .i64 n ∧ I64 n := by
  obtain ⟨n, h, hn⟩ := ok_I h
  exact ⟨n, by simpa using h, hn⟩
theorem arg_U8 {x : AV} (h : okArg (.int .u8) x) : ∃ n : Nat, x = .int .u8 n ∧ n < 256 := by
  obtain ⟨n, h, hn⟩ := h
  obtain ⟨k, rfl, hk⟩ := wf_u8 hn
  exact ⟨k, by simpa using h, hk⟩
theorem arg_B {x : AV} (h : okArg .bool x) : ∃ b, x = .bool b := by
  obtain ⟨n, h⟩ := h
  exact ⟨n, by simpa using h⟩
theorem arg_S {x : AV} (h : okArg .str x) : ∃ s : Bytes, x = .str s ∧ s.length ≤ maxLen := by
  obtain ⟨s, h, hs⟩ := h
  exact ⟨s, by simpa using h, hs⟩
theorem arg_L {α : Type} {enc : α → List AV} {Q : α → Prop} {e : Sh} {x : AV} (h : okArg (.sl e) x) (hd : ∀ es, e.ok es → ∃ x, es = enc x ∧ Q x) : ∃ l : List α, x = .ro (l.map enc) ∧ l.length ≤ maxLen ∧ ∀ x ∈ l, Q x := by
  obtain ⟨l, h, hl⟩ := ok_L h hd
  exact ⟨l, by simpa using h, hl⟩
theorem arg_T {α : Type} {enc : α → List AV} {Q : α → Prop} {f : Sh} {x : AV} (h : okArg (.st f) x) (hd : ∀ es, (Sh.st f).ok es → ∃ x, es = enc x ∧ Q x) : ∃ y : α, x = .agg (enc y) ∧ Q y := by
  obtain ⟨es, rfl, h⟩ := h
  obtain ⟨y, rfl, hy⟩ := hd es h
  exact ⟨y, rfl, hy⟩
theorem arg_Ask {x : AV} (h : okArg (sh4 .str .str shI shI) x) : ∃ (a b : Bytes) (c t : Int), x = .agg [.str a, .str b, .int .i64 c, .int .i64 t] := by
  obtain ⟨es, rfl, h⟩ := h
  obtain ⟨_, _, _, _, rfl, h1, h2, h3, h4⟩ := ok_sh4 h
  obtain ⟨a, rfl, ha⟩ := ok_S h1
  obtain ⟨b, rfl, hb⟩ := ok_S h2
  obtain ⟨c, rfl, hc⟩ := ok_I h3
  obtain ⟨d, rfl, hd⟩ := ok_I h4
  exact ⟨a, b, c, d, rfl⟩
end Go.Toll
