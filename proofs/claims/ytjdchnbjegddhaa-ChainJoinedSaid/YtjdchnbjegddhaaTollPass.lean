/-
  Passages: what their sources are, and their order.
-/
import Derived.Test.YtjdchnbjegddhaaTollSeenShape
import Derived.Test.YtjdchnbjegddhaaTollText
set_option linter.unusedVariables false
set_option linter.unusedSimpArgs false
namespace Go.Toll
open Go Go.Abs

structure TSrc where
  dev : Bytes
  seq : Int
deriving DecidableEq
def intOf : AV → Int
  | .int _ n => n
  | _ => 0
def encSrc (s : TSrc) : List AV := [.str s.dev, .int .i64 s.seq]
def decSrc (e : List AV) : TSrc := ⟨strOf (e.getD 0 .junk), intOf (e.getD 1 .junk)⟩
@[simp] theorem decSrc_enc (s : TSrc) : decSrc (encSrc s) = s := rfl
def TPass.srcs (p : TPass) : List TSrc := p.sources.map decSrc
/-- A passage as the shapes tell it. -/
structure TPass.Ok (p : TPass) : Prop where
  src : p.sources = p.srcs.map encSrc
  id : shortS p.id
  point : shortS p.point
  tag : shortS p.tag
  plate : shortS p.plate
  dev : ∀ s ∈ p.srcs, shortS s.dev
  n : p.sources.length ≤ maxLen
theorem TPass.Ok.dat {p : TPass} (h : p.Ok) : p.dat := by
  intro e he v hv
  rw [h.src] at he
  obtain ⟨s, _, rfl⟩ := List.mem_map.1 he
  simp [encSrc] at hv
  rcases hv with rfl | rfl <;> simp
theorem ok_PassS {es : List AV} (h : shPass.ok es) : ∃ p : TPass, es = encPass p ∧ p.Ok := by
  obtain ⟨a, _, rfl, h1, b, _, rfl, h2, c, _, rfl, h3, d, _, rfl, h4, e, _, rfl, h5, f, _, rfl, h6, g, _, rfl, h7, i, _, rfl, h8, rfl⟩ := h
  obtain ⟨a, rfl, ha⟩ := ok_S h1
  obtain ⟨b, rfl, hb⟩ := ok_S h2
  obtain ⟨c, rfl, _⟩ := ok_I h3
  obtain ⟨d, rfl, hd⟩ := ok_S h4
  obtain ⟨e, rfl, he⟩ := ok_S h5
  obtain ⟨f, rfl, _⟩ := ok_I h6
  obtain ⟨g, rfl, _⟩ := ok_I h7
  obtain ⟨l, rfl, hn, hl⟩ := ok_L (enc := encSrc) (Q := fun s => shortS s.dev) h8 fun es h => by
    obtain ⟨_, _, rfl, g1, g2⟩ := ok_sh2 h
    obtain ⟨x, rfl, hx⟩ := ok_S g1
    obtain ⟨y, rfl, _⟩ := ok_I g2
    exact ⟨⟨x, y⟩, rfl, hx⟩
  have e1 : (TPass.mk a b c d e f g (l.map encSrc)).srcs = l := by
    show (l.map encSrc).map decSrc = l
    rw [List.map_map]
    exact List.map_id'' (fun s => rfl) l
  exact ⟨⟨a, b, c, d, e, f, g, l.map encSrc⟩, rfl, ⟨by rw [e1], ha, hb, hd, he, by rw [e1]; exact hl, by simpa using hn⟩⟩

def cmpN (a b : Int) : Int := if a < b then -1 else if b < a then 1 else 0
def cmpT (a b : Bytes) : Int := if a = b then 0 else if Op.bytesLess a b = true then -1 else 1
def cmpSrc (a b : TSrc) : Int := if a.dev = b.dev then cmpN a.seq b.seq else cmpT a.dev b.dev
def cmpSrcs : List TSrc → List TSrc → Int
  | a :: r, b :: q => if cmpSrc a b ≠ 0 then cmpSrc a b else cmpSrcs r q
  | r, q => cmpN r.length q.length
def firstNZ : List Int → Int
  | [] => 0
  | a :: r => if a ≠ 0 then a else firstNZ r
def cmpL (a b : TPass) : List Int := [cmpN a.time b.time, cmpT a.point b.point, cmpT a.id b.id, cmpT a.tag b.tag, cmpT a.plate b.plate, cmpN a.cls b.cls, cmpN a.score b.score, cmpSrcs a.srcs b.srcs]
def cmpP (a b : TPass) : Int := firstNZ (cmpL a b)
theorem cmpN_self (a : Int) : cmpN a a = 0 := by rw [cmpN, if_neg (by omega), if_neg (by omega)]
theorem cmpT_self (a : Bytes) : cmpT a a = 0 := by rw [cmpT, if_pos rfl]
theorem cmpSrc_self (a : TSrc) : cmpSrc a a = 0 := by rw [cmpSrc, if_pos rfl, cmpN_self]
theorem cmpSrcs_self : ∀ l : List TSrc, cmpSrcs l l = 0
  | [] => rfl
  | a :: r => by rw [cmpSrcs, cmpSrc_self, if_neg (by simp), cmpSrcs_self r]
theorem cmpP_self (a : TPass) : cmpP a a = 0 := by
  simp [cmpP, cmpL, firstNZ, cmpN_self, cmpT_self, cmpSrcs_self]
theorem cmpN_zero {a b : Int} (h : cmpN a b = 0) : a = b := by
  unfold cmpN at h
  split at h
  · cases h
  split at h
  · cases h
  · omega
theorem cmpT_zero {a b : Bytes} (h : cmpT a b = 0) : a = b := by
  unfold cmpT at h
  split at h
  · assumption
  split at h <;> cases h
theorem cmpSrc_zero {a b : TSrc} (h : cmpSrc a b = 0) : a = b := by
  unfold cmpSrc at h
  split at h
  · rename_i e
    have := cmpN_zero h
    cases a; cases b
    simp at e this
    rw [e, this]
  · rename_i e; exact absurd (cmpT_zero h) e
theorem cmpN_len (a b c : Nat) : cmpN ((c + a : Nat) : Int) ((c + b : Nat) : Int) = cmpN a b := by
  have h1 : ((c + a : Nat) : Int) < ((c + b : Nat) : Int) ↔ (a : Int) < b := by omega
  have h2 : ((c + b : Nat) : Int) < ((c + a : Nat) : Int) ↔ (b : Int) < a := by omega
  unfold cmpN
  simp only [h1, h2]
end Go.Toll
