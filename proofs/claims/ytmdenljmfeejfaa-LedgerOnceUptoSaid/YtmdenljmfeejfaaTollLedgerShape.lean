/-
  The shapes of posts and entries.
-/
import Derived.Test.YtmdenljmfeejfaaTollShape
import Derived.Test.YtmdenljmfeejfaaTollLedger
set_option linter.unusedVariables false
set_option linter.unusedSimpArgs false
namespace Go.Toll
open Go Go.Abs

def shPo : Sh := sh2 .str shI
def shEn : Sh := .st (.cons .str (.cons shI (.cons (.sl shPo) .none)))
theorem ok_Po {es : List AV} (h : shPo.ok es) : ∃ p : TPo, es = encPo p ∧ True := by
  obtain ⟨_, _, rfl, h1, h2⟩ := ok_sh2 h
  obtain ⟨a, rfl, _⟩ := ok_S h1
  obtain ⟨b, rfl, _⟩ := ok_I h2
  exact ⟨⟨a, b⟩, rfl, trivial⟩
theorem ok_En {es : List AV} (h : shEn.ok es) : ∃ e : TEn, es = encEn e ∧ True := by
  obtain ⟨_, _, rfl, h1, _, _, rfl, h2, _, _, rfl, h3, rfl⟩ := h
  obtain ⟨a, rfl, _⟩ := ok_S h1
  obtain ⟨b, rfl, _⟩ := ok_I h2
  obtain ⟨l, rfl, _, _⟩ := ok_L (enc := encPo) h3 fun _ => ok_Po
  exact ⟨⟨a, b, l⟩, rfl, trivial⟩
end Go.Toll
