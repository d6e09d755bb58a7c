/-
  No cell of these rows narrows 'for every input' (looked for: loops, veiled, ifaces, maps, wideKeys, modest, calm, conditions, laid).
  DERIVED. THE GIVEN ROWS OF THIS SEAT. 7 by the template 'for every input the law returns true; each argument reads behind the call as it read before'; 0 by the template 'total and deterministic' (their statements: YtdmfdgkicbhdoaaTotals.lean).
  GIVEN WITH THE SEED: the statements are not yours to turn. If you find one false, say at which input.
  Laid BY PROGRAM, IN A SANDBOX (cutbox-rows.mjs): the forced cells as the released guide's own fill.sh prints them over the translation 3c50bd3c45ec5a74… (all of the seat's roots in one cut). By AI agents, Wed Nov 11 2026. No macro, syntax, notation, axiom, sorry.
-/
import Derived.Test.YtdmfdgkicbhdoaaChecked
import GoSem.Claim
import GoSem.ClaimJoined
import GoSem.ClaimMapViews
import Derived.JoinedTies
import Derived.KernelRfl
namespace Go.Proofs.Ytdmfdgkicbhdoaa
/- THE CELL 'sum', in the pinned program and in every row, IS THE sha256 OF THE DUMP (.gsa) THAT YtdmfdgkicbhdoaaProg.lean LOADS. Nothing in Lean hashes anything: it is a label: what it is worth is what the hold of that sum in a sandbox is worth. -/
noncomputable def Try.pinned : Pinned := { name := "ytdmfdgkicbhdoaa", sum := "3c50bd3c45ec5a74c85f888c9e5287cddaa6d4c2981cd7181fe9ba96822bfffc", checked := Try.checked }
namespace Rows
def none {H : Type} : Left H := { results := [], args := [] }

/-- 'tollwaylaw18.TopologyChecks': WHATEVER THE INPUT: true; the input reads as it did. -/
def topologyChecksSpec : ChangeSpec := { name := "topologyChecks", fn := fun _ => fun
  | [d] => { results := [.lit (.bool true)], args := [d] }
  | _ => none }
def topologyChecksRow : OpenClaim := { program := "ytdmfdgkicbhdoaa", sum := "3c50bd3c45ec5a74c85f888c9e5287cddaa6d4c2981cd7181fe9ba96822bfffc", func := "tollway/tollwaylaw18.TopologyChecks", spec := "topologyChecks", unfollowed := true, recurses := true, plainKeys := false, apart := false }
def TopologyChecksSaid : Prop := topologyChecksRow.holds Try.pinned (OpenSpec.ofChange topologyChecksSpec)

/-- ITS FALSE NEIGHBOUR: 'it returns false'. Refute it at one input. -/
def topologyChecksWrong : ChangeSpec := { name := "topologyChecks", fn := fun _ => fun
  | [d] => { results := [.lit (.bool false)], args := [d] }
  | _ => none }
def TopologyChecksWrongFalsely : Prop := topologyChecksRow.holds Try.pinned (OpenSpec.ofChange topologyChecksWrong)

/-- 'tollwaylaw18.TopologyRoutes': WHATEVER THE INPUT: true; the input reads as it did. -/
def topologyRoutesSpec : ChangeSpec := { name := "topologyRoutes", fn := fun _ => fun
  | [d1, d2, d3] => { results := [.lit (.bool true)], args := [d1, d2, d3] }
  | _ => none }
def topologyRoutesRow : OpenClaim := { program := "ytdmfdgkicbhdoaa", sum := "3c50bd3c45ec5a74c85f888c9e5287cddaa6d4c2981cd7181fe9ba96822bfffc", func := "tollway/tollwaylaw18.TopologyRoutes", spec := "topologyRoutes", unfollowed := true, recurses := true, plainKeys := false, apart := false }
def TopologyRoutesSaid : Prop := topologyRoutesRow.holds Try.pinned (OpenSpec.ofChange topologyRoutesSpec)

/-- ITS FALSE NEIGHBOUR: 'it returns false'. Refute it at one input. -/
def topologyRoutesWrong : ChangeSpec := { name := "topologyRoutes", fn := fun _ => fun
  | [d1, d2, d3] => { results := [.lit (.bool false)], args := [d1, d2, d3] }
  | _ => none }
def TopologyRoutesWrongFalsely : Prop := topologyRoutesRow.holds Try.pinned (OpenSpec.ofChange topologyRoutesWrong)

/-- 'tollwaylaw18.TopologyFeasible': WHATEVER THE INPUT: true; the input reads as it did. -/
def topologyFeasibleSpec : ChangeSpec := { name := "topologyFeasible", fn := fun _ => fun
  | [d1, d2, d3] => { results := [.lit (.bool true)], args := [d1, d2, d3] }
  | _ => none }
def topologyFeasibleRow : OpenClaim := { program := "ytdmfdgkicbhdoaa", sum := "3c50bd3c45ec5a74c85f888c9e5287cddaa6d4c2981cd7181fe9ba96822bfffc", func := "tollway/tollwaylaw18.TopologyFeasible", spec := "topologyFeasible", unfollowed := true, recurses := true, plainKeys := false, apart := false }
def TopologyFeasibleSaid : Prop := topologyFeasibleRow.holds Try.pinned (OpenSpec.ofChange topologyFeasibleSpec)

/-- ITS FALSE NEIGHBOUR: 'it returns false'. Refute it at one input. -/
def topologyFeasibleWrong : ChangeSpec := { name := "topologyFeasible", fn := fun _ => fun
  | [d1, d2, d3] => { results := [.lit (.bool false)], args := [d1, d2, d3] }
  | _ => none }
def TopologyFeasibleWrongFalsely : Prop := topologyFeasibleRow.holds Try.pinned (OpenSpec.ofChange topologyFeasibleWrong)

/-- 'tollwaylaw18.TopologyCovers': WHATEVER THE INPUT: true; the input reads as it did. -/
def topologyCoversSpec : ChangeSpec := { name := "topologyCovers", fn := fun _ => fun
  | [d1, d2, d3] => { results := [.lit (.bool true)], args := [d1, d2, d3] }
  | _ => none }
def topologyCoversRow : OpenClaim := { program := "ytdmfdgkicbhdoaa", sum := "3c50bd3c45ec5a74c85f888c9e5287cddaa6d4c2981cd7181fe9ba96822bfffc", func := "tollway/tollwaylaw18.TopologyCovers", spec := "topologyCovers", unfollowed := true, recurses := true, plainKeys := false, apart := false }
def TopologyCoversSaid : Prop := topologyCoversRow.holds Try.pinned (OpenSpec.ofChange topologyCoversSpec)

/-- ITS FALSE NEIGHBOUR: 'it returns false'. Refute it at one input. -/
def topologyCoversWrong : ChangeSpec := { name := "topologyCovers", fn := fun _ => fun
  | [d1, d2, d3] => { results := [.lit (.bool false)], args := [d1, d2, d3] }
  | _ => none }
def TopologyCoversWrongFalsely : Prop := topologyCoversRow.holds Try.pinned (OpenSpec.ofChange topologyCoversWrong)

/-- 'tollwaylaw18.TopologyWays': WHATEVER THE INPUT: true; the input reads as it did. -/
def topologyWaysSpec : ChangeSpec := { name := "topologyWays", fn := fun _ => fun
  | [d1, d2, d3] => { results := [.lit (.bool true)], args := [d1, d2, d3] }
  | _ => none }
def topologyWaysRow : OpenClaim := { program := "ytdmfdgkicbhdoaa", sum := "3c50bd3c45ec5a74c85f888c9e5287cddaa6d4c2981cd7181fe9ba96822bfffc", func := "tollway/tollwaylaw18.TopologyWays", spec := "topologyWays", unfollowed := true, recurses := true, plainKeys := false, apart := false }
def TopologyWaysSaid : Prop := topologyWaysRow.holds Try.pinned (OpenSpec.ofChange topologyWaysSpec)

/-- ITS FALSE NEIGHBOUR: 'it returns false'. Refute it at one input. -/
def topologyWaysWrong : ChangeSpec := { name := "topologyWays", fn := fun _ => fun
  | [d1, d2, d3] => { results := [.lit (.bool false)], args := [d1, d2, d3] }
  | _ => none }
def TopologyWaysWrongFalsely : Prop := topologyWaysRow.holds Try.pinned (OpenSpec.ofChange topologyWaysWrong)

/-- 'tollwaylaw18.TopologyParts': WHATEVER THE INPUT: true; the input reads as it did. -/
def topologyPartsSpec : ChangeSpec := { name := "topologyParts", fn := fun _ => fun
  | [d] => { results := [.lit (.bool true)], args := [d] }
  | _ => none }
def topologyPartsRow : OpenClaim := { program := "ytdmfdgkicbhdoaa", sum := "3c50bd3c45ec5a74c85f888c9e5287cddaa6d4c2981cd7181fe9ba96822bfffc", func := "tollway/tollwaylaw18.TopologyParts", spec := "topologyParts", unfollowed := true, recurses := true, plainKeys := false, apart := false }
def TopologyPartsSaid : Prop := topologyPartsRow.holds Try.pinned (OpenSpec.ofChange topologyPartsSpec)

/-- ITS FALSE NEIGHBOUR: 'it returns false'. Refute it at one input. -/
def topologyPartsWrong : ChangeSpec := { name := "topologyParts", fn := fun _ => fun
  | [d] => { results := [.lit (.bool false)], args := [d] }
  | _ => none }
def TopologyPartsWrongFalsely : Prop := topologyPartsRow.holds Try.pinned (OpenSpec.ofChange topologyPartsWrong)

/-- 'tollwaylaw18.TopologyAsks': WHATEVER THE INPUT: true; the input reads as it did. -/
def topologyAsksSpec : ChangeSpec := { name := "topologyAsks", fn := fun _ => fun
  | [d1, d2, d3, d4] => { results := [.lit (.bool true)], args := [d1, d2, d3, d4] }
  | _ => none }
def topologyAsksRow : OpenClaim := { program := "ytdmfdgkicbhdoaa", sum := "3c50bd3c45ec5a74c85f888c9e5287cddaa6d4c2981cd7181fe9ba96822bfffc", func := "tollway/tollwaylaw18.TopologyAsks", spec := "topologyAsks", unfollowed := true, recurses := true, plainKeys := false, apart := false }
def TopologyAsksSaid : Prop := topologyAsksRow.holds Try.pinned (OpenSpec.ofChange topologyAsksSpec)

/-- ITS FALSE NEIGHBOUR: 'it returns false'. Refute it at one input. -/
def topologyAsksWrong : ChangeSpec := { name := "topologyAsks", fn := fun _ => fun
  | [d1, d2, d3, d4] => { results := [.lit (.bool false)], args := [d1, d2, d3, d4] }
  | _ => none }
def TopologyAsksWrongFalsely : Prop := topologyAsksRow.holds Try.pinned (OpenSpec.ofChange topologyAsksWrong)

/- THE SECOND FORM. 'bulk': how many values and letters a reading holds, each counted each time it is reached (what is shared counts as often as it is met; a slice's spare places count too). A statement '..UptoSaid' is the law's where the arguments, and the package variables that the reading takes, are together of bulk at most 1048576: NARROWER than '..Said'. Prove '..Said' where nothing that the law and all that it calls make is longer than what came in: it says more and counts as full. Else prove '..UptoSaid'. A law counts once. -/
mutual
def uptoBulk {H : Type} : DataW H → Nat
  | .lit (.string bytes) => bytes.length + 1
  | .lit _ => 1
  | .nil => 1
  | .ptr d => uptoBulk d + 1
  | .slice elems spare => uptoBulkAll elems + uptoBulkAll spare + 1
  | .agg parts => uptoBulkAll parts + 1
  | .iface _ d => uptoBulk d + 1
  | .map entries => uptoBulkEntries entries + 1
  | .held _ => 1
def uptoBulkAll {H : Type} : List (DataW H) → Nat
  | [] => 0
  | d :: r => uptoBulk d + uptoBulkAll r
def uptoBulkEntries {H : Type} : List (Lit × DataW H) → Nat
  | [] => 0
  | x :: r => uptoBulkEntry x + uptoBulkEntries r
def uptoBulkEntry {H : Type} : Lit × DataW H → Nat
  | (.string bytes, d) => bytes.length + uptoBulk d + 1
  | (_, d) => uptoBulk d + 1
 end
def uptoSmall : (H : Type) → List (DataW H) → Bool := fun _ ds => decide (uptoBulkAll ds ≤ 1048576)
def OpenSpec.upto (s : _root_.Go.ChangeSpec) : _root_.Go.OpenSpec := { _root_.Go.OpenSpec.ofChange s with cond := some uptoSmall }

/-- 'tollwaylaw18.TopologyChecks', WHERE WHAT IT READS IS OF BULK AT MOST 1048576: true; the input reads as it did. -/
def topologyChecksUptoRow : OpenClaim := { program := "ytdmfdgkicbhdoaa", sum := "3c50bd3c45ec5a74c85f888c9e5287cddaa6d4c2981cd7181fe9ba96822bfffc", func := "tollway/tollwaylaw18.TopologyChecks", spec := "topologyChecks", unfollowed := true, recurses := true, plainKeys := false, apart := false, narrowed := true }
def TopologyChecksUptoSaid : Prop := topologyChecksUptoRow.holds Try.pinned (OpenSpec.upto topologyChecksSpec)

/-- 'tollwaylaw18.TopologyRoutes', WHERE WHAT IT READS IS OF BULK AT MOST 1048576: true; the input reads as it did. -/
def topologyRoutesUptoRow : OpenClaim := { program := "ytdmfdgkicbhdoaa", sum := "3c50bd3c45ec5a74c85f888c9e5287cddaa6d4c2981cd7181fe9ba96822bfffc", func := "tollway/tollwaylaw18.TopologyRoutes", spec := "topologyRoutes", unfollowed := true, recurses := true, plainKeys := false, apart := false, narrowed := true }
def TopologyRoutesUptoSaid : Prop := topologyRoutesUptoRow.holds Try.pinned (OpenSpec.upto topologyRoutesSpec)

/-- 'tollwaylaw18.TopologyFeasible', WHERE WHAT IT READS IS OF BULK AT MOST 1048576: true; the input reads as it did. -/
def topologyFeasibleUptoRow : OpenClaim := { program := "ytdmfdgkicbhdoaa", sum := "3c50bd3c45ec5a74c85f888c9e5287cddaa6d4c2981cd7181fe9ba96822bfffc", func := "tollway/tollwaylaw18.TopologyFeasible", spec := "topologyFeasible", unfollowed := true, recurses := true, plainKeys := false, apart := false, narrowed := true }
def TopologyFeasibleUptoSaid : Prop := topologyFeasibleUptoRow.holds Try.pinned (OpenSpec.upto topologyFeasibleSpec)

/-- 'tollwaylaw18.TopologyCovers', WHERE WHAT IT READS IS OF BULK AT MOST 1048576: true; the input reads as it did. -/
def topologyCoversUptoRow : OpenClaim := { program := "ytdmfdgkicbhdoaa", sum := "3c50bd3c45ec5a74c85f888c9e5287cddaa6d4c2981cd7181fe9ba96822bfffc", func := "tollway/tollwaylaw18.TopologyCovers", spec := "topologyCovers", unfollowed := true, recurses := true, plainKeys := false, apart := false, narrowed := true }
def TopologyCoversUptoSaid : Prop := topologyCoversUptoRow.holds Try.pinned (OpenSpec.upto topologyCoversSpec)

/-- 'tollwaylaw18.TopologyWays', WHERE WHAT IT READS IS OF BULK AT MOST 1048576: true; the input reads as it did. -/
def topologyWaysUptoRow : OpenClaim := { program := "ytdmfdgkicbhdoaa", sum := "3c50bd3c45ec5a74c85f888c9e5287cddaa6d4c2981cd7181fe9ba96822bfffc", func := "tollway/tollwaylaw18.TopologyWays", spec := "topologyWays", unfollowed := true, recurses := true, plainKeys := false, apart := false, narrowed := true }
def TopologyWaysUptoSaid : Prop := topologyWaysUptoRow.holds Try.pinned (OpenSpec.upto topologyWaysSpec)

/-- 'tollwaylaw18.TopologyParts', WHERE WHAT IT READS IS OF BULK AT MOST 1048576: true; the input reads as it did. -/
def topologyPartsUptoRow : OpenClaim := { program := "ytdmfdgkicbhdoaa", sum := "3c50bd3c45ec5a74c85f888c9e5287cddaa6d4c2981cd7181fe9ba96822bfffc", func := "tollway/tollwaylaw18.TopologyParts", spec := "topologyParts", unfollowed := true, recurses := true, plainKeys := false, apart := false, narrowed := true }
def TopologyPartsUptoSaid : Prop := topologyPartsUptoRow.holds Try.pinned (OpenSpec.upto topologyPartsSpec)

/-- 'tollwaylaw18.TopologyAsks', WHERE WHAT IT READS IS OF BULK AT MOST 1048576: true; the input reads as it did. -/
def topologyAsksUptoRow : OpenClaim := { program := "ytdmfdgkicbhdoaa", sum := "3c50bd3c45ec5a74c85f888c9e5287cddaa6d4c2981cd7181fe9ba96822bfffc", func := "tollway/tollwaylaw18.TopologyAsks", spec := "topologyAsks", unfollowed := true, recurses := true, plainKeys := false, apart := false, narrowed := true }
def TopologyAsksUptoSaid : Prop := topologyAsksUptoRow.holds Try.pinned (OpenSpec.upto topologyAsksSpec)

end Rows
end Go.Proofs.Ytdmfdgkicbhdoaa
