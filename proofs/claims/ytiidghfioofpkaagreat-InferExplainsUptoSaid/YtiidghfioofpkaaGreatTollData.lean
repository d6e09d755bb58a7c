/-
  What a shape reads as leads to no memory of the call's own.
-/
import Derived.Test.YtiidghfioofpkaaGreatTollShape
set_option linter.unusedVariables false
set_option linter.unusedSimpArgs false
namespace Go.Toll
open Go Go.Abs

/-- What a shape reads as leads to no memory of the call's own. -/
theorem ok_data : ∀ (sh : Sh) (es : List AV), sh.ok es → ∀ v ∈ es, v.Data
  | .bool, es, h, v, hv => by obtain ⟨b, rfl⟩ := h; simp at hv; subst hv; exact .bool b
  | .int k, es, h, v, hv => by obtain ⟨n, rfl, _⟩ := h; simp at hv; subst hv; exact .int k n
  | .str, es, h, v, hv => by obtain ⟨s, rfl, _⟩ := h; simp at hv; subst hv; exact .str s
  | .sl e, es, h, v, hv => by
    obtain ⟨l, rfl, _, hl⟩ := h
    simp at hv; subst hv
    exact .ro l fun x hx => ok_data e x (hl x hx)
  | .st f, es, h, v, hv => ok_data f es h v hv
  | .none, es, h, v, hv => by obtain rfl := h; simp at hv
  | .cons a r, es, h, v, hv => by
    obtain ⟨x, y, rfl, hx, hy⟩ := h
    rcases List.mem_append.1 hv with hv | hv
    · exact ok_data a x hx v hv
    · exact ok_data r y hy v hv

end Go.Toll
