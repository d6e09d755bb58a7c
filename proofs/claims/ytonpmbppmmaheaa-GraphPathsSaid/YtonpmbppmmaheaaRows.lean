/-
  No cell of these rows narrows 'for every input' (looked for: loops, veiled, ifaces, maps, wideKeys, modest, calm, conditions, laid).
  DERIVED. THE GIVEN ROWS OF THIS SEAT. 8 by the template 'for every input the law returns true; each argument reads behind the call as it read before'; 0 by the template 'total and deterministic' (their statements: YtonpmbppmmaheaaTotals.lean).
  GIVEN WITH THE SEED: the statements are not yours to turn. If you find one false, say at which input.
  Laid BY PROGRAM, IN A SANDBOX (cutbox-rows.mjs): the forced cells as the released guide's own fill.sh prints them over the translation 077230dd3a7d0983… (all of the seat's roots in one cut). By AI agents, Wed Nov 11 2026. No macro, syntax, notation, axiom, sorry.
-/
import Derived.Test.YtonpmbppmmaheaaChecked
import GoSem.Claim
import GoSem.ClaimJoined
import GoSem.ClaimMapViews
import Derived.JoinedTies
import Derived.KernelRfl
namespace Go.Proofs.Ytonpmbppmmaheaa
/- THE CELL 'sum', in the pinned program and in every row, IS THE sha256 OF THE DUMP (.gsa) THAT YtonpmbppmmaheaaProg.lean LOADS. Nothing in Lean hashes anything: it is a label: what it is worth is what the hold of that sum in a sandbox is worth. -/
noncomputable def Try.pinned : Pinned := { name := "ytonpmbppmmaheaa", sum := "077230dd3a7d09832a9eb8ed02f750a38a56c6356e8d7592c815be09220da9e8", checked := Try.checked }
namespace Rows
def none {H : Type} : Left H := { results := [], args := [] }

/-- 'tollwaylaw07.GraphChecks': WHATEVER THE INPUT: true; the input reads as it did. -/
def graphChecksSpec : ChangeSpec := { name := "graphChecks", fn := fun _ => fun
  | [d] => { results := [.lit (.bool true)], args := [d] }
  | _ => none }
def graphChecksRow : OpenClaim := { program := "ytonpmbppmmaheaa", sum := "077230dd3a7d09832a9eb8ed02f750a38a56c6356e8d7592c815be09220da9e8", func := "tollway/tollwaylaw07.GraphChecks", spec := "graphChecks", unfollowed := true, recurses := true, plainKeys := false, apart := false }
def GraphChecksSaid : Prop := graphChecksRow.holds Try.pinned (OpenSpec.ofChange graphChecksSpec)

/-- ITS FALSE NEIGHBOUR: 'it returns false'. Refute it at one input. -/
def graphChecksWrong : ChangeSpec := { name := "graphChecks", fn := fun _ => fun
  | [d] => { results := [.lit (.bool false)], args := [d] }
  | _ => none }
def GraphChecksWrongFalsely : Prop := graphChecksRow.holds Try.pinned (OpenSpec.ofChange graphChecksWrong)

/-- 'tollwaylaw07.GraphLooks': WHATEVER THE INPUT: true; the input reads as it did. -/
def graphLooksSpec : ChangeSpec := { name := "graphLooks", fn := fun _ => fun
  | [d1, d2] => { results := [.lit (.bool true)], args := [d1, d2] }
  | _ => none }
def graphLooksRow : OpenClaim := { program := "ytonpmbppmmaheaa", sum := "077230dd3a7d09832a9eb8ed02f750a38a56c6356e8d7592c815be09220da9e8", func := "tollway/tollwaylaw07.GraphLooks", spec := "graphLooks", unfollowed := true, recurses := true, plainKeys := false, apart := false }
def GraphLooksSaid : Prop := graphLooksRow.holds Try.pinned (OpenSpec.ofChange graphLooksSpec)

/-- ITS FALSE NEIGHBOUR: 'it returns false'. Refute it at one input. -/
def graphLooksWrong : ChangeSpec := { name := "graphLooks", fn := fun _ => fun
  | [d1, d2] => { results := [.lit (.bool false)], args := [d1, d2] }
  | _ => none }
def GraphLooksWrongFalsely : Prop := graphLooksRow.holds Try.pinned (OpenSpec.ofChange graphLooksWrong)

/-- 'tollwaylaw07.GraphShortest': WHATEVER THE INPUT: true; the input reads as it did. -/
def graphShortestSpec : ChangeSpec := { name := "graphShortest", fn := fun _ => fun
  | [d1, d2, d3] => { results := [.lit (.bool true)], args := [d1, d2, d3] }
  | _ => none }
def graphShortestRow : OpenClaim := { program := "ytonpmbppmmaheaa", sum := "077230dd3a7d09832a9eb8ed02f750a38a56c6356e8d7592c815be09220da9e8", func := "tollway/tollwaylaw07.GraphShortest", spec := "graphShortest", unfollowed := true, recurses := true, plainKeys := false, apart := false }
def GraphShortestSaid : Prop := graphShortestRow.holds Try.pinned (OpenSpec.ofChange graphShortestSpec)

/-- ITS FALSE NEIGHBOUR: 'it returns false'. Refute it at one input. -/
def graphShortestWrong : ChangeSpec := { name := "graphShortest", fn := fun _ => fun
  | [d1, d2, d3] => { results := [.lit (.bool false)], args := [d1, d2, d3] }
  | _ => none }
def GraphShortestWrongFalsely : Prop := graphShortestRow.holds Try.pinned (OpenSpec.ofChange graphShortestWrong)

/-- 'tollwaylaw07.GraphPaths': WHATEVER THE INPUT: true; the input reads as it did. -/
def graphPathsSpec : ChangeSpec := { name := "graphPaths", fn := fun _ => fun
  | [d1, d2, d3] => { results := [.lit (.bool true)], args := [d1, d2, d3] }
  | _ => none }
def graphPathsRow : OpenClaim := { program := "ytonpmbppmmaheaa", sum := "077230dd3a7d09832a9eb8ed02f750a38a56c6356e8d7592c815be09220da9e8", func := "tollway/tollwaylaw07.GraphPaths", spec := "graphPaths", unfollowed := true, recurses := true, plainKeys := false, apart := false }
def GraphPathsSaid : Prop := graphPathsRow.holds Try.pinned (OpenSpec.ofChange graphPathsSpec)

/-- ITS FALSE NEIGHBOUR: 'it returns false'. Refute it at one input. -/
def graphPathsWrong : ChangeSpec := { name := "graphPaths", fn := fun _ => fun
  | [d1, d2, d3] => { results := [.lit (.bool false)], args := [d1, d2, d3] }
  | _ => none }
def GraphPathsWrongFalsely : Prop := graphPathsRow.holds Try.pinned (OpenSpec.ofChange graphPathsWrong)

/-- 'tollwaylaw07.GraphBounds': WHATEVER THE INPUT: true; the input reads as it did. -/
def graphBoundsSpec : ChangeSpec := { name := "graphBounds", fn := fun _ => fun
  | [d1, d2] => { results := [.lit (.bool true)], args := [d1, d2] }
  | _ => none }
def graphBoundsRow : OpenClaim := { program := "ytonpmbppmmaheaa", sum := "077230dd3a7d09832a9eb8ed02f750a38a56c6356e8d7592c815be09220da9e8", func := "tollway/tollwaylaw07.GraphBounds", spec := "graphBounds", unfollowed := true, recurses := true, plainKeys := false, apart := false }
def GraphBoundsSaid : Prop := graphBoundsRow.holds Try.pinned (OpenSpec.ofChange graphBoundsSpec)

/-- ITS FALSE NEIGHBOUR: 'it returns false'. Refute it at one input. -/
def graphBoundsWrong : ChangeSpec := { name := "graphBounds", fn := fun _ => fun
  | [d1, d2] => { results := [.lit (.bool false)], args := [d1, d2] }
  | _ => none }
def GraphBoundsWrongFalsely : Prop := graphBoundsRow.holds Try.pinned (OpenSpec.ofChange graphBoundsWrong)

/-- 'tollwaylaw07.GraphLeast': WHATEVER THE INPUT: true; the input reads as it did. -/
def graphLeastSpec : ChangeSpec := { name := "graphLeast", fn := fun _ => fun
  | [d1, d2, d3] => { results := [.lit (.bool true)], args := [d1, d2, d3] }
  | _ => none }
def graphLeastRow : OpenClaim := { program := "ytonpmbppmmaheaa", sum := "077230dd3a7d09832a9eb8ed02f750a38a56c6356e8d7592c815be09220da9e8", func := "tollway/tollwaylaw07.GraphLeast", spec := "graphLeast", unfollowed := true, recurses := true, plainKeys := false, apart := false }
def GraphLeastSaid : Prop := graphLeastRow.holds Try.pinned (OpenSpec.ofChange graphLeastSpec)

/-- ITS FALSE NEIGHBOUR: 'it returns false'. Refute it at one input. -/
def graphLeastWrong : ChangeSpec := { name := "graphLeast", fn := fun _ => fun
  | [d1, d2, d3] => { results := [.lit (.bool false)], args := [d1, d2, d3] }
  | _ => none }
def GraphLeastWrongFalsely : Prop := graphLeastRow.holds Try.pinned (OpenSpec.ofChange graphLeastWrong)

/-- 'tollwaylaw07.GraphSimple': WHATEVER THE INPUT: true; the input reads as it did. -/
def graphSimpleSpec : ChangeSpec := { name := "graphSimple", fn := fun _ => fun
  | [d1, d2, d3] => { results := [.lit (.bool true)], args := [d1, d2, d3] }
  | _ => none }
def graphSimpleRow : OpenClaim := { program := "ytonpmbppmmaheaa", sum := "077230dd3a7d09832a9eb8ed02f750a38a56c6356e8d7592c815be09220da9e8", func := "tollway/tollwaylaw07.GraphSimple", spec := "graphSimple", unfollowed := true, recurses := true, plainKeys := false, apart := false }
def GraphSimpleSaid : Prop := graphSimpleRow.holds Try.pinned (OpenSpec.ofChange graphSimpleSpec)

/-- ITS FALSE NEIGHBOUR: 'it returns false'. Refute it at one input. -/
def graphSimpleWrong : ChangeSpec := { name := "graphSimple", fn := fun _ => fun
  | [d1, d2, d3] => { results := [.lit (.bool false)], args := [d1, d2, d3] }
  | _ => none }
def GraphSimpleWrongFalsely : Prop := graphSimpleRow.holds Try.pinned (OpenSpec.ofChange graphSimpleWrong)

/-- 'tollwaylaw07.GraphClosed': WHATEVER THE INPUT: true; the input reads as it did. -/
def graphClosedSpec : ChangeSpec := { name := "graphClosed", fn := fun _ => fun
  | [d1, d2] => { results := [.lit (.bool true)], args := [d1, d2] }
  | _ => none }
def graphClosedRow : OpenClaim := { program := "ytonpmbppmmaheaa", sum := "077230dd3a7d09832a9eb8ed02f750a38a56c6356e8d7592c815be09220da9e8", func := "tollway/tollwaylaw07.GraphClosed", spec := "graphClosed", unfollowed := true, recurses := true, plainKeys := false, apart := false }
def GraphClosedSaid : Prop := graphClosedRow.holds Try.pinned (OpenSpec.ofChange graphClosedSpec)

/-- ITS FALSE NEIGHBOUR: 'it returns false'. Refute it at one input. -/
def graphClosedWrong : ChangeSpec := { name := "graphClosed", fn := fun _ => fun
  | [d1, d2] => { results := [.lit (.bool false)], args := [d1, d2] }
  | _ => none }
def GraphClosedWrongFalsely : Prop := graphClosedRow.holds Try.pinned (OpenSpec.ofChange graphClosedWrong)

/- THE SECOND FORM. 'bulk': how many values and letters a reading holds, each counted each time it is reached (what is shared counts as often as it is met; a slice's spare places count too). A statement '..UptoSaid' is the law's where the arguments, and the package variables that the reading takes, are together of bulk at most 1048576: NARROWER than '..Said'. Prove '..Said' where nothing that the law and all that it calls make is longer than what came in: it says more and counts as full. Else prove '..UptoSaid'. A law counts once. -/
mutual
def uptoBulk {H : Type} : DataW H → Nat
  | .lit (.string bytes) => bytes.length + 1
  | .lit _ => 1
  | .nil => 1
  | .ptr d => uptoBulk d + 1
  | .slice elems spare => uptoBulkAll elems + uptoBulkAll spare + 1
  | .agg parts => uptoBulkAll parts + 1
  | .iface _ d => uptoBulk d + 1
  | .map entries => uptoBulkEntries entries + 1
  | .held _ => 1
def uptoBulkAll {H : Type} : List (DataW H) → Nat
  | [] => 0
  | d :: r => uptoBulk d + uptoBulkAll r
def uptoBulkEntries {H : Type} : List (Lit × DataW H) → Nat
  | [] => 0
  | x :: r => uptoBulkEntry x + uptoBulkEntries r
def uptoBulkEntry {H : Type} : Lit × DataW H → Nat
  | (.string bytes, d) => bytes.length + uptoBulk d + 1
  | (_, d) => uptoBulk d + 1
 end
def uptoSmall : (H : Type) → List (DataW H) → Bool := fun _ ds => decide (uptoBulkAll ds ≤ 1048576)
def OpenSpec.upto (s : _root_.Go.ChangeSpec) : _root_.Go.OpenSpec := { _root_.Go.OpenSpec.ofChange s with cond := some uptoSmall }

/-- 'tollwaylaw07.GraphChecks', WHERE WHAT IT READS IS OF BULK AT MOST 1048576: true; the input reads as it did. -/
def graphChecksUptoRow : OpenClaim := { program := "ytonpmbppmmaheaa", sum := "077230dd3a7d09832a9eb8ed02f750a38a56c6356e8d7592c815be09220da9e8", func := "tollway/tollwaylaw07.GraphChecks", spec := "graphChecks", unfollowed := true, recurses := true, plainKeys := false, apart := false, narrowed := true }
def GraphChecksUptoSaid : Prop := graphChecksUptoRow.holds Try.pinned (OpenSpec.upto graphChecksSpec)

/-- 'tollwaylaw07.GraphLooks', WHERE WHAT IT READS IS OF BULK AT MOST 1048576: true; the input reads as it did. -/
def graphLooksUptoRow : OpenClaim := { program := "ytonpmbppmmaheaa", sum := "077230dd3a7d09832a9eb8ed02f750a38a56c6356e8d7592c815be09220da9e8", func := "tollway/tollwaylaw07.GraphLooks", spec := "graphLooks", unfollowed := true, recurses := true, plainKeys := false, apart := false, narrowed := true }
def GraphLooksUptoSaid : Prop := graphLooksUptoRow.holds Try.pinned (OpenSpec.upto graphLooksSpec)

/-- 'tollwaylaw07.GraphShortest', WHERE WHAT IT READS IS OF BULK AT MOST 1048576: true; the input reads as it did. -/
def graphShortestUptoRow : OpenClaim := { program := "ytonpmbppmmaheaa", sum := "077230dd3a7d09832a9eb8ed02f750a38a56c6356e8d7592c815be09220da9e8", func := "tollway/tollwaylaw07.GraphShortest", spec := "graphShortest", unfollowed := true, recurses := true, plainKeys := false, apart := false, narrowed := true }
def GraphShortestUptoSaid : Prop := graphShortestUptoRow.holds Try.pinned (OpenSpec.upto graphShortestSpec)

/-- 'tollwaylaw07.GraphPaths', WHERE WHAT IT READS IS OF BULK AT MOST 1048576: true; the input reads as it did. -/
def graphPathsUptoRow : OpenClaim := { program := "ytonpmbppmmaheaa", sum := "077230dd3a7d09832a9eb8ed02f750a38a56c6356e8d7592c815be09220da9e8", func := "tollway/tollwaylaw07.GraphPaths", spec := "graphPaths", unfollowed := true, recurses := true, plainKeys := false, apart := false, narrowed := true }
def GraphPathsUptoSaid : Prop := graphPathsUptoRow.holds Try.pinned (OpenSpec.upto graphPathsSpec)

/-- 'tollwaylaw07.GraphBounds', WHERE WHAT IT READS IS OF BULK AT MOST 1048576: true; the input reads as it did. -/
def graphBoundsUptoRow : OpenClaim := { program := "ytonpmbppmmaheaa", sum := "077230dd3a7d09832a9eb8ed02f750a38a56c6356e8d7592c815be09220da9e8", func := "tollway/tollwaylaw07.GraphBounds", spec := "graphBounds", unfollowed := true, recurses := true, plainKeys := false, apart := false, narrowed := true }
def GraphBoundsUptoSaid : Prop := graphBoundsUptoRow.holds Try.pinned (OpenSpec.upto graphBoundsSpec)

/-- 'tollwaylaw07.GraphLeast', WHERE WHAT IT READS IS OF BULK AT MOST 1048576: true; the input reads as it did. -/
def graphLeastUptoRow : OpenClaim := { program := "ytonpmbppmmaheaa", sum := "077230dd3a7d09832a9eb8ed02f750a38a56c6356e8d7592c815be09220da9e8", func := "tollway/tollwaylaw07.GraphLeast", spec := "graphLeast", unfollowed := true, recurses := true, plainKeys := false, apart := false, narrowed := true }
def GraphLeastUptoSaid : Prop := graphLeastUptoRow.holds Try.pinned (OpenSpec.upto graphLeastSpec)

/-- 'tollwaylaw07.GraphSimple', WHERE WHAT IT READS IS OF BULK AT MOST 1048576: true; the input reads as it did. -/
def graphSimpleUptoRow : OpenClaim := { program := "ytonpmbppmmaheaa", sum := "077230dd3a7d09832a9eb8ed02f750a38a56c6356e8d7592c815be09220da9e8", func := "tollway/tollwaylaw07.GraphSimple", spec := "graphSimple", unfollowed := true, recurses := true, plainKeys := false, apart := false, narrowed := true }
def GraphSimpleUptoSaid : Prop := graphSimpleUptoRow.holds Try.pinned (OpenSpec.upto graphSimpleSpec)

/-- 'tollwaylaw07.GraphClosed', WHERE WHAT IT READS IS OF BULK AT MOST 1048576: true; the input reads as it did. -/
def graphClosedUptoRow : OpenClaim := { program := "ytonpmbppmmaheaa", sum := "077230dd3a7d09832a9eb8ed02f750a38a56c6356e8d7592c815be09220da9e8", func := "tollway/tollwaylaw07.GraphClosed", spec := "graphClosed", unfollowed := true, recurses := true, plainKeys := false, apart := false, narrowed := true }
def GraphClosedUptoSaid : Prop := graphClosedUptoRow.holds Try.pinned (OpenSpec.upto graphClosedSpec)

end Rows
end Go.Proofs.Ytonpmbppmmaheaa
