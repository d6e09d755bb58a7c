/-
  The shapes of caps and charges.
-/
import Derived.Test.YtmnmbkcdjpidgaaTollShape
import Derived.Test.YtmnmbkcdjpidgaaTollPay
set_option linter.unusedVariables false
set_option linter.unusedSimpArgs false
namespace Go.Toll
open Go Go.Abs

/-- What a shape reads as leads to no memory of the call's own. -/
theorem ok_data : ∀ (sh : Sh) (es : List AV), sh.ok es → ∀ v ∈ es, v.Data
  | .bool, es, h, v, hv => by obtain ⟨b, rfl⟩ := h; simp at hv; subst hv; exact .bool b
  | .int k, es, h, v, hv => by obtain ⟨n, rfl, _⟩ := h; simp at hv; subst hv; exact .int k n
  | .str, es, h, v, hv => by obtain ⟨s, rfl, _⟩ := h; simp at hv; subst hv; exact .str s
  | .sl e, es, h, v, hv => by
    obtain ⟨l, rfl, _, hl⟩ := h
    simp at hv; subst hv
    exact .ro l fun x hx => ok_data e x (hl x hx)
  | .st f, es, h, v, hv => ok_data f es h v hv
  | .none, es, h, v, hv => by obtain rfl := h; simp at hv
  | .cons a r, es, h, v, hv => by
    obtain ⟨x, y, rfl, hx, hy⟩ := h
    rcases List.mem_append.1 hv with hv | hv
    · exact ok_data a x hx v hv
    · exact ok_data r y hy v hv

def shLine : Sh := sh2 .str shI
def shCap : Sh := sh4 .str .str shI shI
def shChg : Sh := .st (.cons .str (.cons .str (.cons .str (.cons shI (.cons shI (.cons (.sl shLine) (.cons shI .none)))))))
def TChg.wf (x : TChg) : Prop := (∀ e ∈ x.lines, ∀ v ∈ e, v.Data) ∧ I64 x.time ∧ I64 x.cents
theorem ok_Cap {es : List AV} (h : shCap.ok es) : ∃ c : TCap, es = encCap c ∧ True := by
  obtain ⟨a, b, c, d, rfl, h1, h2, h3, h4⟩ := ok_sh4 h
  obtain ⟨a, rfl, _⟩ := ok_S h1
  obtain ⟨b, rfl, _⟩ := ok_S h2
  obtain ⟨c, rfl, _⟩ := ok_I h3
  obtain ⟨d, rfl, _⟩ := ok_I h4
  exact ⟨⟨a, b, c, d⟩, rfl, trivial⟩
theorem ok_Chg {es : List AV} (h : shChg.ok es) : ∃ x : TChg, es = encChg x ∧ x.wf := by
  obtain ⟨a, _, rfl, h1, b, _, rfl, h2, c, _, rfl, h3, d, _, rfl, h4, e, _, rfl, h5, f, _, rfl, h6, g, _, rfl, h7, rfl⟩ := h
  obtain ⟨a, rfl, _⟩ := ok_S h1
  obtain ⟨b, rfl, _⟩ := ok_S h2
  obtain ⟨c, rfl, _⟩ := ok_S h3
  obtain ⟨d, rfl, _⟩ := ok_I h4
  obtain ⟨e, rfl, he⟩ := ok_I h5
  obtain ⟨g, rfl, hg⟩ := ok_I h7
  obtain ⟨l, rfl, _, hl⟩ := h6
  exact ⟨⟨a, b, c, d, e, l, g⟩, rfl, fun x hx => ok_data shLine x (hl x hx), he, hg⟩
end Go.Toll
