/-
  The sorted prices of a class, the example.
-/
import Derived.Test.YtmdenljmfeejfaaTollBase
import Derived.Test.YtmdenljmfeejfaaAbsSort
namespace Go.Toll
open Go Go.Abs
def exampleT : Tariff := ⟨⟨0, 10000⟩, [⟨[112, 101, 97, 107], ⟨1, 60, 120⟩⟩], [⟨[97], [], 1, [112, 101, 97, 107], 200⟩, ⟨[97], [], 1, [], 100⟩]⟩
def ratesS (x : Tariff) (cl : Int) : List Rate := sortR (fun a b => decide (rateCmp a b < 0)) (x.rates.filter fun r => decide (r.cls = cl))

def strOf : AV → Bytes
  | .str s => s
  | _ => []
def decRate (c : List AV) : Rate := ⟨strOf (c.getD 0 .junk), strOf (c.getD 1 .junk), aint (c.getD 2 .junk), strOf (c.getD 3 .junk), aint (c.getD 4 .junk)⟩
@[simp] theorem dec_encRate (r : Rate) : decRate [.str r.src, .str r.dst, .int .i64 r.cls, .str r.band, .int .i64 r.cents] = r := rfl

theorem insK_map {α β : Type} {f : α → β} {lt : α → α → Bool} {lt' : β → β → Bool} (h : ∀ x y, lt' (f x) (f y) = lt x y) (x : α) (l : List α) : ∀ k, insK lt' (f x) (l.map f) k = insK lt x l k
  | 0 => rfl
  | k + 1 => by
    simp only [insK, List.getElem?_map]
    cases l[k]? with
    | none => rfl
    | some y => simp only [Option.map_some, h, insK_map h x l k]
theorem sortR_map {α β : Type} {f : α → β} {lt : α → α → Bool} {lt' : β → β → Bool} (h : ∀ x y, lt' (f x) (f y) = lt x y) (l : List α) : sortR lt' (l.map f) = (sortR lt l).map f := by
  have : ∀ (l acc : List α), (l.map f).foldl (fun acc x => insR lt' x acc) (acc.map f) = (l.foldl (fun acc x => insR lt x acc) acc).map f := by
    intro l
    induction l with
    | nil => intro acc; rfl
    | cons x l ih =>
      intro acc
      simp only [List.map_cons, List.foldl_cons]
      rw [← ih]
      congr 1
      simp [insR, insK_map h, List.map_take, List.map_drop]
  simpa [sortR] using this l []
end Go.Toll
