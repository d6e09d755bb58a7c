/-
  No cell of these rows narrows 'for every input' (looked for: loops, veiled, ifaces, maps, wideKeys, modest, calm, conditions, laid).
  DERIVED. THE GIVEN ROWS OF THIS SEAT. 6 by the template 'for every input the law returns true; each argument reads behind the call as it read before'; 0 by the template 'total and deterministic' (their statements: YtjdchnbjegddhaaTotals.lean).
  GIVEN WITH THE SEED: the statements are not yours to turn. If you find one false, say at which input.
  Laid BY PROGRAM, IN A SANDBOX (cutbox-rows.mjs): the forced cells as the released guide's own fill.sh prints them over the translation 5ad44dd24635c424… (all of the seat's roots in one cut). By AI agents, Wed Nov 11 2026. No macro, syntax, notation, axiom, sorry.
-/
import Derived.Test.YtjdchnbjegddhaaChecked
import GoSem.Claim
import GoSem.ClaimJoined
import GoSem.ClaimMapViews
import Derived.JoinedTies
import Derived.KernelRfl
namespace Go.Proofs.Ytjdchnbjegddhaa
/- THE CELL 'sum', in the pinned program and in every row, IS THE sha256 OF THE DUMP (.gsa) THAT YtjdchnbjegddhaaProg.lean LOADS. Nothing in Lean hashes anything: it is a label: what it is worth is what the hold of that sum in a sandbox is worth. -/
noncomputable def Try.pinned : Pinned := { name := "ytjdchnbjegddhaa", sum := "5ad44dd24635c424086867f16407fc31c6fa02c2ae558520a38e1fbf1548ef5a", checked := Try.checked }
namespace Rows
def none {H : Type} : Left H := { results := [], args := [] }

/-- 'tollwaylaw19.ChainFollows': WHATEVER THE INPUT: true; the input reads as it did. -/
def chainFollowsSpec : ChangeSpec := { name := "chainFollows", fn := fun _ => fun
  | [d1, d2] => { results := [.lit (.bool true)], args := [d1, d2] }
  | _ => none }
def chainFollowsRow : OpenClaim := { program := "ytjdchnbjegddhaa", sum := "5ad44dd24635c424086867f16407fc31c6fa02c2ae558520a38e1fbf1548ef5a", func := "tollway/tollwaylaw19.ChainFollows", spec := "chainFollows", unfollowed := true, recurses := true, plainKeys := false, apart := false }
def ChainFollowsSaid : Prop := chainFollowsRow.holds Try.pinned (OpenSpec.ofChange chainFollowsSpec)

/-- ITS FALSE NEIGHBOUR: 'it returns false'. Refute it at one input. -/
def chainFollowsWrong : ChangeSpec := { name := "chainFollows", fn := fun _ => fun
  | [d1, d2] => { results := [.lit (.bool false)], args := [d1, d2] }
  | _ => none }
def ChainFollowsWrongFalsely : Prop := chainFollowsRow.holds Try.pinned (OpenSpec.ofChange chainFollowsWrong)

/-- 'tollwaylaw19.ChainLongests': WHATEVER THE INPUT: true; the input reads as it did. -/
def chainLongestsSpec : ChangeSpec := { name := "chainLongests", fn := fun _ => fun
  | [d1, d2] => { results := [.lit (.bool true)], args := [d1, d2] }
  | _ => none }
def chainLongestsRow : OpenClaim := { program := "ytjdchnbjegddhaa", sum := "5ad44dd24635c424086867f16407fc31c6fa02c2ae558520a38e1fbf1548ef5a", func := "tollway/tollwaylaw19.ChainLongests", spec := "chainLongests", unfollowed := true, recurses := true, plainKeys := false, apart := false }
def ChainLongestsSaid : Prop := chainLongestsRow.holds Try.pinned (OpenSpec.ofChange chainLongestsSpec)

/-- ITS FALSE NEIGHBOUR: 'it returns false'. Refute it at one input. -/
def chainLongestsWrong : ChangeSpec := { name := "chainLongests", fn := fun _ => fun
  | [d1, d2] => { results := [.lit (.bool false)], args := [d1, d2] }
  | _ => none }
def ChainLongestsWrongFalsely : Prop := chainLongestsRow.holds Try.pinned (OpenSpec.ofChange chainLongestsWrong)

/-- 'tollwaylaw19.ChainSegments': WHATEVER THE INPUT: true; the input reads as it did. -/
def chainSegmentsSpec : ChangeSpec := { name := "chainSegments", fn := fun _ => fun
  | [d1, d2, d3] => { results := [.lit (.bool true)], args := [d1, d2, d3] }
  | _ => none }
def chainSegmentsRow : OpenClaim := { program := "ytjdchnbjegddhaa", sum := "5ad44dd24635c424086867f16407fc31c6fa02c2ae558520a38e1fbf1548ef5a", func := "tollway/tollwaylaw19.ChainSegments", spec := "chainSegments", unfollowed := true, recurses := true, plainKeys := false, apart := false }
def ChainSegmentsSaid : Prop := chainSegmentsRow.holds Try.pinned (OpenSpec.ofChange chainSegmentsSpec)

/-- ITS FALSE NEIGHBOUR: 'it returns false'. Refute it at one input. -/
def chainSegmentsWrong : ChangeSpec := { name := "chainSegments", fn := fun _ => fun
  | [d1, d2, d3] => { results := [.lit (.bool false)], args := [d1, d2, d3] }
  | _ => none }
def ChainSegmentsWrongFalsely : Prop := chainSegmentsRow.holds Try.pinned (OpenSpec.ofChange chainSegmentsWrong)

/-- 'tollwaylaw19.ChainMaximal': WHATEVER THE INPUT: true; the input reads as it did. -/
def chainMaximalSpec : ChangeSpec := { name := "chainMaximal", fn := fun _ => fun
  | [d1, d2, d3] => { results := [.lit (.bool true)], args := [d1, d2, d3] }
  | _ => none }
def chainMaximalRow : OpenClaim := { program := "ytjdchnbjegddhaa", sum := "5ad44dd24635c424086867f16407fc31c6fa02c2ae558520a38e1fbf1548ef5a", func := "tollway/tollwaylaw19.ChainMaximal", spec := "chainMaximal", unfollowed := true, recurses := true, plainKeys := false, apart := false }
def ChainMaximalSaid : Prop := chainMaximalRow.holds Try.pinned (OpenSpec.ofChange chainMaximalSpec)

/-- ITS FALSE NEIGHBOUR: 'it returns false'. Refute it at one input. -/
def chainMaximalWrong : ChangeSpec := { name := "chainMaximal", fn := fun _ => fun
  | [d1, d2, d3] => { results := [.lit (.bool false)], args := [d1, d2, d3] }
  | _ => none }
def ChainMaximalWrongFalsely : Prop := chainMaximalRow.holds Try.pinned (OpenSpec.ofChange chainMaximalWrong)

/-- 'tollwaylaw19.ChainPartition': WHATEVER THE INPUT: true; the input reads as it did. -/
def chainPartitionSpec : ChangeSpec := { name := "chainPartition", fn := fun _ => fun
  | [d1, d2] => { results := [.lit (.bool true)], args := [d1, d2] }
  | _ => none }
def chainPartitionRow : OpenClaim := { program := "ytjdchnbjegddhaa", sum := "5ad44dd24635c424086867f16407fc31c6fa02c2ae558520a38e1fbf1548ef5a", func := "tollway/tollwaylaw19.ChainPartition", spec := "chainPartition", unfollowed := true, recurses := true, plainKeys := false, apart := false }
def ChainPartitionSaid : Prop := chainPartitionRow.holds Try.pinned (OpenSpec.ofChange chainPartitionSpec)

/-- ITS FALSE NEIGHBOUR: 'it returns false'. Refute it at one input. -/
def chainPartitionWrong : ChangeSpec := { name := "chainPartition", fn := fun _ => fun
  | [d1, d2] => { results := [.lit (.bool false)], args := [d1, d2] }
  | _ => none }
def ChainPartitionWrongFalsely : Prop := chainPartitionRow.holds Try.pinned (OpenSpec.ofChange chainPartitionWrong)

/-- 'tollwaylaw19.ChainJoined': WHATEVER THE INPUT: true; the input reads as it did. -/
def chainJoinedSpec : ChangeSpec := { name := "chainJoined", fn := fun _ => fun
  | [d1, d2, d3, d4] => { results := [.lit (.bool true)], args := [d1, d2, d3, d4] }
  | _ => none }
def chainJoinedRow : OpenClaim := { program := "ytjdchnbjegddhaa", sum := "5ad44dd24635c424086867f16407fc31c6fa02c2ae558520a38e1fbf1548ef5a", func := "tollway/tollwaylaw19.ChainJoined", spec := "chainJoined", unfollowed := true, recurses := true, plainKeys := false, apart := false }
def ChainJoinedSaid : Prop := chainJoinedRow.holds Try.pinned (OpenSpec.ofChange chainJoinedSpec)

/-- ITS FALSE NEIGHBOUR: 'it returns false'. Refute it at one input. -/
def chainJoinedWrong : ChangeSpec := { name := "chainJoined", fn := fun _ => fun
  | [d1, d2, d3, d4] => { results := [.lit (.bool false)], args := [d1, d2, d3, d4] }
  | _ => none }
def ChainJoinedWrongFalsely : Prop := chainJoinedRow.holds Try.pinned (OpenSpec.ofChange chainJoinedWrong)

/- THE SECOND FORM. 'bulk': how many values and letters a reading holds, each counted each time it is reached (what is shared counts as often as it is met; a slice's spare places count too). A statement '..UptoSaid' is the law's where the arguments, and the package variables that the reading takes, are together of bulk at most 1048576: NARROWER than '..Said'. Prove '..Said' where nothing that the law and all that it calls make is longer than what came in: it says more and counts as full. Else prove '..UptoSaid'. A law counts once. -/
mutual
def uptoBulk {H : Type} : DataW H → Nat
  | .lit (.string bytes) => bytes.length + 1
  | .lit _ => 1
  | .nil => 1
  | .ptr d => uptoBulk d + 1
  | .slice elems spare => uptoBulkAll elems + uptoBulkAll spare + 1
  | .agg parts => uptoBulkAll parts + 1
  | .iface _ d => uptoBulk d + 1
  | .map entries => uptoBulkEntries entries + 1
  | .held _ => 1
def uptoBulkAll {H : Type} : List (DataW H) → Nat
  | [] => 0
  | d :: r => uptoBulk d + uptoBulkAll r
def uptoBulkEntries {H : Type} : List (Lit × DataW H) → Nat
  | [] => 0
  | x :: r => uptoBulkEntry x + uptoBulkEntries r
def uptoBulkEntry {H : Type} : Lit × DataW H → Nat
  | (.string bytes, d) => bytes.length + uptoBulk d + 1
  | (_, d) => uptoBulk d + 1
 end
def uptoSmall : (H : Type) → List (DataW H) → Bool := fun _ ds => decide (uptoBulkAll ds ≤ 1048576)
def OpenSpec.upto (s : _root_.Go.ChangeSpec) : _root_.Go.OpenSpec := { _root_.Go.OpenSpec.ofChange s with cond := some uptoSmall }

/-- 'tollwaylaw19.ChainFollows', WHERE WHAT IT READS IS OF BULK AT MOST 1048576: true; the input reads as it did. -/
def chainFollowsUptoRow : OpenClaim := { program := "ytjdchnbjegddhaa", sum := "5ad44dd24635c424086867f16407fc31c6fa02c2ae558520a38e1fbf1548ef5a", func := "tollway/tollwaylaw19.ChainFollows", spec := "chainFollows", unfollowed := true, recurses := true, plainKeys := false, apart := false, narrowed := true }
def ChainFollowsUptoSaid : Prop := chainFollowsUptoRow.holds Try.pinned (OpenSpec.upto chainFollowsSpec)

/-- 'tollwaylaw19.ChainLongests', WHERE WHAT IT READS IS OF BULK AT MOST 1048576: true; the input reads as it did. -/
def chainLongestsUptoRow : OpenClaim := { program := "ytjdchnbjegddhaa", sum := "5ad44dd24635c424086867f16407fc31c6fa02c2ae558520a38e1fbf1548ef5a", func := "tollway/tollwaylaw19.ChainLongests", spec := "chainLongests", unfollowed := true, recurses := true, plainKeys := false, apart := false, narrowed := true }
def ChainLongestsUptoSaid : Prop := chainLongestsUptoRow.holds Try.pinned (OpenSpec.upto chainLongestsSpec)

/-- 'tollwaylaw19.ChainSegments', WHERE WHAT IT READS IS OF BULK AT MOST 1048576: true; the input reads as it did. -/
def chainSegmentsUptoRow : OpenClaim := { program := "ytjdchnbjegddhaa", sum := "5ad44dd24635c424086867f16407fc31c6fa02c2ae558520a38e1fbf1548ef5a", func := "tollway/tollwaylaw19.ChainSegments", spec := "chainSegments", unfollowed := true, recurses := true, plainKeys := false, apart := false, narrowed := true }
def ChainSegmentsUptoSaid : Prop := chainSegmentsUptoRow.holds Try.pinned (OpenSpec.upto chainSegmentsSpec)

/-- 'tollwaylaw19.ChainMaximal', WHERE WHAT IT READS IS OF BULK AT MOST 1048576: true; the input reads as it did. -/
def chainMaximalUptoRow : OpenClaim := { program := "ytjdchnbjegddhaa", sum := "5ad44dd24635c424086867f16407fc31c6fa02c2ae558520a38e1fbf1548ef5a", func := "tollway/tollwaylaw19.ChainMaximal", spec := "chainMaximal", unfollowed := true, recurses := true, plainKeys := false, apart := false, narrowed := true }
def ChainMaximalUptoSaid : Prop := chainMaximalUptoRow.holds Try.pinned (OpenSpec.upto chainMaximalSpec)

/-- 'tollwaylaw19.ChainPartition', WHERE WHAT IT READS IS OF BULK AT MOST 1048576: true; the input reads as it did. -/
def chainPartitionUptoRow : OpenClaim := { program := "ytjdchnbjegddhaa", sum := "5ad44dd24635c424086867f16407fc31c6fa02c2ae558520a38e1fbf1548ef5a", func := "tollway/tollwaylaw19.ChainPartition", spec := "chainPartition", unfollowed := true, recurses := true, plainKeys := false, apart := false, narrowed := true }
def ChainPartitionUptoSaid : Prop := chainPartitionUptoRow.holds Try.pinned (OpenSpec.upto chainPartitionSpec)

/-- 'tollwaylaw19.ChainJoined', WHERE WHAT IT READS IS OF BULK AT MOST 1048576: true; the input reads as it did. -/
def chainJoinedUptoRow : OpenClaim := { program := "ytjdchnbjegddhaa", sum := "5ad44dd24635c424086867f16407fc31c6fa02c2ae558520a38e1fbf1548ef5a", func := "tollway/tollwaylaw19.ChainJoined", spec := "chainJoined", unfollowed := true, recurses := true, plainKeys := false, apart := false, narrowed := true }
def ChainJoinedUptoSaid : Prop := chainJoinedUptoRow.holds Try.pinned (OpenSpec.upto chainJoinedSpec)

end Rows
end Go.Proofs.Ytjdchnbjegddhaa
