/-
  The shapes of readings and passages.
-/
import Derived.Test.YtiidghfioofpkaaGreatTollData
import Derived.Test.YtiidghfioofpkaaGreatTollSeen
set_option linter.unusedVariables false
set_option linter.unusedSimpArgs false
namespace Go.Toll
open Go Go.Abs

def shDet : Sh := .st (.cons .str (.cons shI (.cons shI (.cons .str (.cons .str (.cons shI (.cons shI .none)))))))
def shSeen : Sh := .st (.cons shDet (.cons shI (.cons .str (.cons shI (.cons shI .none)))))
def shSource : Sh := sh2 .str shI
def shPass : Sh := .st (.cons .str (.cons .str (.cons shI (.cons .str (.cons .str (.cons shI (.cons shI (.cons (.sl shSource) .none))))))))
def TPass.dat (p : TPass) : Prop := ∀ e ∈ p.sources, ∀ v ∈ e, v.Data
theorem ok_Seen {es : List AV} (h : shSeen.ok es) : ∃ s : TSeen, es = encSeen s ∧ s.short := by
  obtain ⟨d, _, rfl, h1, t, _, rfl, h2, p, _, rfl, h3, l, _, rfl, h4, k, _, rfl, h5, rfl⟩ := h
  obtain ⟨a, _, rfl, g1, b, _, rfl, g2, c, _, rfl, g3, d, _, rfl, g4, e, _, rfl, g5, f, _, rfl, g6, g, _, rfl, g7, rfl⟩ := h1
  obtain ⟨a, rfl, ha⟩ := ok_S g1
  obtain ⟨b, rfl, _⟩ := ok_I g2
  obtain ⟨c, rfl, _⟩ := ok_I g3
  obtain ⟨d, rfl, hd⟩ := ok_S g4
  obtain ⟨e, rfl, he⟩ := ok_S g5
  obtain ⟨f, rfl, _⟩ := ok_I g6
  obtain ⟨g, rfl, _⟩ := ok_I g7
  obtain ⟨t, rfl, _⟩ := ok_I h2
  obtain ⟨p, rfl, hp⟩ := ok_S h3
  obtain ⟨l, rfl, _⟩ := ok_I h4
  obtain ⟨k, rfl, _⟩ := ok_I h5
  exact ⟨⟨a, b, c, d, e, f, g, t, p, l, k⟩, rfl, ha, hd, he, hp⟩
theorem ok_Pass {es : List AV} (h : shPass.ok es) : ∃ p : TPass, es = encPass p ∧ p.dat := by
  obtain ⟨a, _, rfl, h1, b, _, rfl, h2, c, _, rfl, h3, d, _, rfl, h4, e, _, rfl, h5, f, _, rfl, h6, g, _, rfl, h7, i, _, rfl, h8, rfl⟩ := h
  obtain ⟨a, rfl, _⟩ := ok_S h1
  obtain ⟨b, rfl, _⟩ := ok_S h2
  obtain ⟨c, rfl, _⟩ := ok_I h3
  obtain ⟨d, rfl, _⟩ := ok_S h4
  obtain ⟨e, rfl, _⟩ := ok_S h5
  obtain ⟨f, rfl, _⟩ := ok_I h6
  obtain ⟨g, rfl, _⟩ := ok_I h7
  obtain ⟨l, rfl, _, hl⟩ := h8
  exact ⟨⟨a, b, c, d, e, f, g, l⟩, rfl, fun x hx => ok_data shSource x (hl x hx)⟩
theorem ok_Seens (es : List AV) (h : (Sh.sl shSeen).ok es) : ∃ g : List TSeen, es = [AV.ro (g.map encSeen)] ∧ True := by
  obtain ⟨l, rfl, _, _⟩ := ok_L h fun _ => ok_Seen
  exact ⟨l, rfl, trivial⟩
end Go.Toll
