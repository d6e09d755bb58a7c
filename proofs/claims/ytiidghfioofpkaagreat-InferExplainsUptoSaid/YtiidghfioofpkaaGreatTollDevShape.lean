/-
  The shapes of detectors and of ways.
-/
import Derived.Test.YtiidghfioofpkaaGreatTollSeenShape
import Derived.Test.YtiidghfioofpkaaGreatAbsBridgeU
import Derived.Test.YtiidghfioofpkaaGreatTollSpan
import Derived.Test.YtiidghfioofpkaaGreatAbsMore
set_option linter.unusedVariables false
set_option linter.unusedSimpArgs false
namespace Go.Toll
open Go Go.Abs

def shIv2 : Sh := sh2 shI shI
def shDevF : Sh := .cons .str (.cons .str (.cons shI (.cons shI (.cons (.sl shIv2) (.cons (.sl shIv2) .none)))))
def shDev : Sh := .st shDevF
def shWay : Sh := sh3 (.sl .str) shI shI
theorem ok_Iv2 {es : List AV} (h : shIv2.ok es) : ∃ v : Iv, es = encIv v ∧ True := by
  obtain ⟨x, y, rfl, h1, h2⟩ := ok_sh2 h
  obtain ⟨a, rfl, _⟩ := ok_I h1
  obtain ⟨b, rfl, _⟩ := ok_I h2
  exact ⟨⟨a, b⟩, rfl, trivial⟩
def TDev.fit (d : TDev) : Prop := (∀ e ∈ d.offs, e.length = 2) ∧ ∀ e ∈ d.offs, ∀ y ∈ e, y.Data
theorem ok_Dev {es : List AV} (h : shDev.ok es) : ∃ d : TDev, es = encDev d ∧ d.fit := by
  obtain ⟨_, _, rfl, h1, _, _, rfl, h2, _, _, rfl, h3, _, _, rfl, h4, _, _, rfl, h5, _, _, rfl, h6, rfl⟩ := h
  obtain ⟨a, rfl, _⟩ := ok_S h1
  obtain ⟨b, rfl, _⟩ := ok_S h2
  obtain ⟨c, rfl, _⟩ := ok_I h3
  obtain ⟨d, rfl, _⟩ := ok_I h4
  obtain ⟨o, rfl, _, ho⟩ := ok_L h5 fun _ => ok_Iv2
  obtain ⟨w, rfl, _, hw⟩ := ok_L h6 fun _ => ok_Iv2
  refine ⟨⟨a, b, c, d, o.map encIv, w⟩, rfl, fun e he => ?_, fun e he y hy => ?_⟩
  · obtain ⟨v, _, rfl⟩ := List.mem_map.1 he
    rfl
  · obtain ⟨v, _, rfl⟩ := List.mem_map.1 he
    simp [encIv] at hy
    rcases hy with rfl | rfl <;> simp
theorem okN_cons {N : Nat} {a r : Sh} {v : AV} {vs : List AV} (h : (Sh.cons a r).okN N (v :: vs)) (ha : a.n = 1) : a.okN N [v] ∧ r.okN N vs := by
  obtain ⟨x, y, e, hx, h1, h2⟩ := h
  rw [ha] at hx
  obtain ⟨z, rfl⟩ := List.length_eq_one_iff.1 hx
  simp at e
  obtain ⟨rfl, rfl⟩ := e
  exact ⟨h1, h2⟩
theorem okN_sl {N : Nat} {e : Sh} {l : List (List AV)} (h : (Sh.sl e).okN N [.ro l]) : l.length ≤ N ∧ ∀ x ∈ l, e.okN N x := by
  obtain ⟨m, e1, h1, h2⟩ := h
  simp at e1
  subst e1
  exact ⟨h1, h2⟩
theorem okArgsN_head {N : Nat} {sh : Sh} {shs : List Sh} {x : AV} {xs : List AV} (h : okArgsN N (sh :: shs) (x :: xs)) : okArgN N sh x := by
  obtain ⟨a, b, e, h1, _⟩ := h
  injection e with e1 _
  subst e1
  exact h1
theorem okArgsN_tail {N : Nat} {sh : Sh} {shs : List Sh} {x : AV} {xs : List AV} (h : okArgsN N (sh :: shs) (x :: xs)) : okArgsN N shs xs := by
  obtain ⟨a, b, e, _, h1⟩ := h
  injection e with _ e1
  subst e1
  exact h1
theorem arg_Devs {x : AV} (h : okArg (.sl shDev) x) (hN : okArgN 1048576 (.sl shDev) x) : ∃ l : List TDev, x = .ro (l.map encDev) ∧ l.length ≤ 1048576 ∧ ∀ d ∈ l, (∀ e ∈ d.offs, e.length = 2) ∧ (∀ e ∈ d.offs, ∀ y ∈ e, y.Data) ∧ d.offs.length ≤ 1048576 ∧ d.down.length ≤ 1048576 := by
  obtain ⟨l, rfl, _, hl⟩ := arg_L (enc := encDev) (Q := TDev.fit) h fun _ => ok_Dev
  obtain ⟨n1, n2⟩ := okN_sl (l := l.map encDev) hN
  refine ⟨l, rfl, by simpa using n1, fun d hd => ⟨(hl d hd).1, (hl d hd).2, ?_⟩⟩
  have h1 := n2 (encDev d) (List.mem_map.2 ⟨d, hd, rfl⟩)
  have h2 : shDevF.okN 1048576 (encDev d) := h1
  have q1 := (okN_cons h2 rfl).2
  have q2 := (okN_cons q1 rfl).2
  have q3 := (okN_cons q2 rfl).2
  have q4 := (okN_cons q3 rfl).2
  obtain ⟨q5, q6⟩ := okN_cons q4 rfl
  obtain ⟨q7, _⟩ := okN_cons q6 rfl
  have r1 := (okN_sl q5).1
  have r2 := (okN_sl q7).1
  rw [List.length_map] at r2
  exact ⟨r1, r2⟩
def encWay (w : List Bytes × Int × Int) : List AV := [.ro (w.1.map encT), .int .i64 w.2.1, .int .i64 w.2.2]
theorem ok_Way {es : List AV} (h : shWay.ok es) : ∃ w : List Bytes × Int × Int, es = encWay w ∧ w.1.length ≤ maxLen := by
  obtain ⟨x, y, z, rfl, h1, h2, h3⟩ := ok_sh3 h
  obtain ⟨p, rfl, hp, _⟩ := ok_L (enc := encT) (Q := fun _ => True) h1 fun es h => by obtain ⟨s, rfl, _⟩ := ok_S h; exact ⟨s, rfl, trivial⟩
  obtain ⟨a, rfl, _⟩ := ok_I h2
  obtain ⟨b, rfl, _⟩ := ok_I h3
  exact ⟨(p, a, b), rfl, hp⟩
theorem arg_Way {x : AV} (h : okArg shWay x) : ∃ (p : List Bytes) (s e : Int), x = .agg [.ro (p.map encT), .int .i64 s, .int .i64 e] ∧ p.length ≤ 9223372036854775807 := by
  obtain ⟨w, rfl, hw⟩ := arg_T (f := .cons (.sl .str) (.cons shI (.cons shI .none))) (enc := encWay) (Q := fun w => w.1.length ≤ maxLen) h fun _ => ok_Way
  exact ⟨w.1, w.2.1, w.2.2, rfl, by simpa [maxLen] using hw⟩
theorem arg_Pass {x : AV} (h : okArg shPass x) : ∃ p : TPass, x = .agg (encPass p) := by
  obtain ⟨p, rfl, _⟩ := arg_T (f := .cons .str (.cons .str (.cons shI (.cons .str (.cons .str (.cons shI (.cons shI (.cons (.sl shSource) .none)))))))) h fun _ => ok_Pass
  exact ⟨p, rfl⟩
end Go.Toll
