/-
  No cell of these rows narrows 'for every input' (looked for: loops, veiled, ifaces, maps, wideKeys, modest, calm, conditions, laid).
  DERIVED. THE GIVEN ROWS OF THIS SEAT. 7 by the template 'for every input the law returns true; each argument reads behind the call as it read before'; 0 by the template 'total and deterministic' (their statements: YtkpioblbeiaefaaGreatTotals.lean).
  GIVEN WITH THE SEED: the statements are not yours to turn. If you find one false, say at which input.
  Laid BY PROGRAM, IN A SANDBOX (cutbox-rows.mjs): the forced cells as the released guide's own fill.sh prints them over the translation 15484ecfeaaa58b0… (all of the seat's roots in one cut). By AI agents, Wed Nov 11 2026. No macro, syntax, notation, axiom, sorry.
-/
import Derived.Test.YtkpioblbeiaefaaGreatChecked
import GoSem.Claim
import GoSem.ClaimJoined
import GoSem.ClaimMapViews
import Derived.JoinedTies
import Derived.KernelRfl
namespace Go.Proofs.YtkpioblbeiaefaaGreat
/- THE CELL 'sum', in the pinned program and in every row, IS THE sha256 OF THE DUMP (.gsa) THAT YtkpioblbeiaefaaGreatProg.lean LOADS. Nothing in Lean hashes anything: it is a label: what it is worth is what the hold of that sum in a sandbox is worth. -/
noncomputable def Tryz.pinned : Pinned := { name := "ytkpioblbeiaefaagreat", sum := "15484ecfeaaa58b05398367cc6d13318b0df70cb1ed03361238d79d21088b02d", checked := Tryz.checked }
namespace Rows
def none {H : Type} : Left H := { results := [], args := [] }

/-- 'tollwaylaw21.TripBuilds': WHATEVER THE INPUT: true; the input reads as it did. -/
def tripBuildsSpec : ChangeSpec := { name := "tripBuilds", fn := fun _ => fun
  | [d1, d2] => { results := [.lit (.bool true)], args := [d1, d2] }
  | _ => none }
def tripBuildsRow : OpenClaim := { program := "ytkpioblbeiaefaagreat", sum := "15484ecfeaaa58b05398367cc6d13318b0df70cb1ed03361238d79d21088b02d", func := "tollway/tollwaylaw21.TripBuilds", spec := "tripBuilds", unfollowed := true, recurses := true, named := ["math/bits.divideError", "math/bits.overflowError"], plainKeys := false, apart := false }
def TripBuildsSaid : Prop := tripBuildsRow.holds Tryz.pinned (OpenSpec.ofChange tripBuildsSpec)

/-- ITS FALSE NEIGHBOUR: 'it returns false'. Refute it at one input. -/
def tripBuildsWrong : ChangeSpec := { name := "tripBuilds", fn := fun _ => fun
  | [d1, d2] => { results := [.lit (.bool false)], args := [d1, d2] }
  | _ => none }
def TripBuildsWrongFalsely : Prop := tripBuildsRow.holds Tryz.pinned (OpenSpec.ofChange tripBuildsWrong)

/-- 'tollwaylaw21.TripAll': WHATEVER THE INPUT: true; the input reads as it did. -/
def tripAllSpec : ChangeSpec := { name := "tripAll", fn := fun _ => fun
  | [d1, d2] => { results := [.lit (.bool true)], args := [d1, d2] }
  | _ => none }
def tripAllRow : OpenClaim := { program := "ytkpioblbeiaefaagreat", sum := "15484ecfeaaa58b05398367cc6d13318b0df70cb1ed03361238d79d21088b02d", func := "tollway/tollwaylaw21.TripAll", spec := "tripAll", unfollowed := true, recurses := true, named := ["math/bits.divideError", "math/bits.overflowError"], plainKeys := false, apart := false }
def TripAllSaid : Prop := tripAllRow.holds Tryz.pinned (OpenSpec.ofChange tripAllSpec)

/-- ITS FALSE NEIGHBOUR: 'it returns false'. Refute it at one input. -/
def tripAllWrong : ChangeSpec := { name := "tripAll", fn := fun _ => fun
  | [d1, d2] => { results := [.lit (.bool false)], args := [d1, d2] }
  | _ => none }
def TripAllWrongFalsely : Prop := tripAllRow.holds Tryz.pinned (OpenSpec.ofChange tripAllWrong)

/-- 'tollwaylaw21.TripChecks': WHATEVER THE INPUT: true; the input reads as it did. -/
def tripChecksSpec : ChangeSpec := { name := "tripChecks", fn := fun _ => fun
  | [d1, d2] => { results := [.lit (.bool true)], args := [d1, d2] }
  | _ => none }
def tripChecksRow : OpenClaim := { program := "ytkpioblbeiaefaagreat", sum := "15484ecfeaaa58b05398367cc6d13318b0df70cb1ed03361238d79d21088b02d", func := "tollway/tollwaylaw21.TripChecks", spec := "tripChecks", unfollowed := true, recurses := true, named := ["math/bits.divideError", "math/bits.overflowError"], plainKeys := false, apart := false }
def TripChecksSaid : Prop := tripChecksRow.holds Tryz.pinned (OpenSpec.ofChange tripChecksSpec)

/-- ITS FALSE NEIGHBOUR: 'it returns false'. Refute it at one input. -/
def tripChecksWrong : ChangeSpec := { name := "tripChecks", fn := fun _ => fun
  | [d1, d2] => { results := [.lit (.bool false)], args := [d1, d2] }
  | _ => none }
def TripChecksWrongFalsely : Prop := tripChecksRow.holds Tryz.pinned (OpenSpec.ofChange tripChecksWrong)

/-- 'tollwaylaw21.TripNames': WHATEVER THE INPUT: true; the input reads as it did. -/
def tripNamesSpec : ChangeSpec := { name := "tripNames", fn := fun _ => fun
  | [d] => { results := [.lit (.bool true)], args := [d] }
  | _ => none }
def tripNamesRow : OpenClaim := { program := "ytkpioblbeiaefaagreat", sum := "15484ecfeaaa58b05398367cc6d13318b0df70cb1ed03361238d79d21088b02d", func := "tollway/tollwaylaw21.TripNames", spec := "tripNames", unfollowed := true, recurses := true, named := ["math/bits.divideError", "math/bits.overflowError"], plainKeys := false, apart := false }
def TripNamesSaid : Prop := tripNamesRow.holds Tryz.pinned (OpenSpec.ofChange tripNamesSpec)

/-- ITS FALSE NEIGHBOUR: 'it returns false'. Refute it at one input. -/
def tripNamesWrong : ChangeSpec := { name := "tripNames", fn := fun _ => fun
  | [d] => { results := [.lit (.bool false)], args := [d] }
  | _ => none }
def TripNamesWrongFalsely : Prop := tripNamesRow.holds Tryz.pinned (OpenSpec.ofChange tripNamesWrong)

/-- 'tollwaylaw21.TripOnce': WHATEVER THE INPUT: true; the input reads as it did. -/
def tripOnceSpec : ChangeSpec := { name := "tripOnce", fn := fun _ => fun
  | [d1, d2] => { results := [.lit (.bool true)], args := [d1, d2] }
  | _ => none }
def tripOnceRow : OpenClaim := { program := "ytkpioblbeiaefaagreat", sum := "15484ecfeaaa58b05398367cc6d13318b0df70cb1ed03361238d79d21088b02d", func := "tollway/tollwaylaw21.TripOnce", spec := "tripOnce", unfollowed := true, recurses := true, named := ["math/bits.divideError", "math/bits.overflowError"], plainKeys := false, apart := false }
def TripOnceSaid : Prop := tripOnceRow.holds Tryz.pinned (OpenSpec.ofChange tripOnceSpec)

/-- ITS FALSE NEIGHBOUR: 'it returns false'. Refute it at one input. -/
def tripOnceWrong : ChangeSpec := { name := "tripOnce", fn := fun _ => fun
  | [d1, d2] => { results := [.lit (.bool false)], args := [d1, d2] }
  | _ => none }
def TripOnceWrongFalsely : Prop := tripOnceRow.holds Tryz.pinned (OpenSpec.ofChange tripOnceWrong)

/-- 'tollwaylaw21.TripRight': WHATEVER THE INPUT: true; the input reads as it did. -/
def tripRightSpec : ChangeSpec := { name := "tripRight", fn := fun _ => fun
  | [d1, d2] => { results := [.lit (.bool true)], args := [d1, d2] }
  | _ => none }
def tripRightRow : OpenClaim := { program := "ytkpioblbeiaefaagreat", sum := "15484ecfeaaa58b05398367cc6d13318b0df70cb1ed03361238d79d21088b02d", func := "tollway/tollwaylaw21.TripRight", spec := "tripRight", unfollowed := true, recurses := true, named := ["math/bits.divideError", "math/bits.overflowError"], plainKeys := false, apart := false }
def TripRightSaid : Prop := tripRightRow.holds Tryz.pinned (OpenSpec.ofChange tripRightSpec)

/-- ITS FALSE NEIGHBOUR: 'it returns false'. Refute it at one input. -/
def tripRightWrong : ChangeSpec := { name := "tripRight", fn := fun _ => fun
  | [d1, d2] => { results := [.lit (.bool false)], args := [d1, d2] }
  | _ => none }
def TripRightWrongFalsely : Prop := tripRightRow.holds Tryz.pinned (OpenSpec.ofChange tripRightWrong)

/-- 'tollwaylaw21.TripAlone': WHATEVER THE INPUT: true; the input reads as it did. -/
def tripAloneSpec : ChangeSpec := { name := "tripAlone", fn := fun _ => fun
  | [d1, d2, d3] => { results := [.lit (.bool true)], args := [d1, d2, d3] }
  | _ => none }
def tripAloneRow : OpenClaim := { program := "ytkpioblbeiaefaagreat", sum := "15484ecfeaaa58b05398367cc6d13318b0df70cb1ed03361238d79d21088b02d", func := "tollway/tollwaylaw21.TripAlone", spec := "tripAlone", unfollowed := true, recurses := true, named := ["math/bits.divideError", "math/bits.overflowError"], plainKeys := false, apart := false }
def TripAloneSaid : Prop := tripAloneRow.holds Tryz.pinned (OpenSpec.ofChange tripAloneSpec)

/-- ITS FALSE NEIGHBOUR: 'it returns false'. Refute it at one input. -/
def tripAloneWrong : ChangeSpec := { name := "tripAlone", fn := fun _ => fun
  | [d1, d2, d3] => { results := [.lit (.bool false)], args := [d1, d2, d3] }
  | _ => none }
def TripAloneWrongFalsely : Prop := tripAloneRow.holds Tryz.pinned (OpenSpec.ofChange tripAloneWrong)

/- THE SECOND FORM. 'bulk': how many values and letters a reading holds, each counted each time it is reached (what is shared counts as often as it is met; a slice's spare places count too). A statement '..UptoSaid' is the law's where the arguments, and the package variables that the reading takes, are together of bulk at most 1048576: NARROWER than '..Said'. Prove '..Said' where nothing that the law and all that it calls make is longer than what came in: it says more and counts as full. Else prove '..UptoSaid'. A law counts once. -/
mutual
def uptoBulk {H : Type} : DataW H → Nat
  | .lit (.string bytes) => bytes.length + 1
  | .lit _ => 1
  | .nil => 1
  | .ptr d => uptoBulk d + 1
  | .slice elems spare => uptoBulkAll elems + uptoBulkAll spare + 1
  | .agg parts => uptoBulkAll parts + 1
  | .iface _ d => uptoBulk d + 1
  | .map entries => uptoBulkEntries entries + 1
  | .held _ => 1
def uptoBulkAll {H : Type} : List (DataW H) → Nat
  | [] => 0
  | d :: r => uptoBulk d + uptoBulkAll r
def uptoBulkEntries {H : Type} : List (Lit × DataW H) → Nat
  | [] => 0
  | x :: r => uptoBulkEntry x + uptoBulkEntries r
def uptoBulkEntry {H : Type} : Lit × DataW H → Nat
  | (.string bytes, d) => bytes.length + uptoBulk d + 1
  | (_, d) => uptoBulk d + 1
 end
def uptoSmall : (H : Type) → List (DataW H) → Bool := fun _ ds => decide (uptoBulkAll ds ≤ 1048576)
def OpenSpec.upto (s : _root_.Go.ChangeSpec) : _root_.Go.OpenSpec := { _root_.Go.OpenSpec.ofChange s with cond := some uptoSmall }

/-- 'tollwaylaw21.TripBuilds', WHERE WHAT IT READS IS OF BULK AT MOST 1048576: true; the input reads as it did. -/
def tripBuildsUptoRow : OpenClaim := { program := "ytkpioblbeiaefaagreat", sum := "15484ecfeaaa58b05398367cc6d13318b0df70cb1ed03361238d79d21088b02d", func := "tollway/tollwaylaw21.TripBuilds", spec := "tripBuilds", unfollowed := true, recurses := true, named := ["math/bits.divideError", "math/bits.overflowError"], plainKeys := false, apart := false, narrowed := true }
def TripBuildsUptoSaid : Prop := tripBuildsUptoRow.holds Tryz.pinned (OpenSpec.upto tripBuildsSpec)

/-- 'tollwaylaw21.TripAll', WHERE WHAT IT READS IS OF BULK AT MOST 1048576: true; the input reads as it did. -/
def tripAllUptoRow : OpenClaim := { program := "ytkpioblbeiaefaagreat", sum := "15484ecfeaaa58b05398367cc6d13318b0df70cb1ed03361238d79d21088b02d", func := "tollway/tollwaylaw21.TripAll", spec := "tripAll", unfollowed := true, recurses := true, named := ["math/bits.divideError", "math/bits.overflowError"], plainKeys := false, apart := false, narrowed := true }
def TripAllUptoSaid : Prop := tripAllUptoRow.holds Tryz.pinned (OpenSpec.upto tripAllSpec)

/-- 'tollwaylaw21.TripChecks', WHERE WHAT IT READS IS OF BULK AT MOST 1048576: true; the input reads as it did. -/
def tripChecksUptoRow : OpenClaim := { program := "ytkpioblbeiaefaagreat", sum := "15484ecfeaaa58b05398367cc6d13318b0df70cb1ed03361238d79d21088b02d", func := "tollway/tollwaylaw21.TripChecks", spec := "tripChecks", unfollowed := true, recurses := true, named := ["math/bits.divideError", "math/bits.overflowError"], plainKeys := false, apart := false, narrowed := true }
def TripChecksUptoSaid : Prop := tripChecksUptoRow.holds Tryz.pinned (OpenSpec.upto tripChecksSpec)

/-- 'tollwaylaw21.TripNames', WHERE WHAT IT READS IS OF BULK AT MOST 1048576: true; the input reads as it did. -/
def tripNamesUptoRow : OpenClaim := { program := "ytkpioblbeiaefaagreat", sum := "15484ecfeaaa58b05398367cc6d13318b0df70cb1ed03361238d79d21088b02d", func := "tollway/tollwaylaw21.TripNames", spec := "tripNames", unfollowed := true, recurses := true, named := ["math/bits.divideError", "math/bits.overflowError"], plainKeys := false, apart := false, narrowed := true }
def TripNamesUptoSaid : Prop := tripNamesUptoRow.holds Tryz.pinned (OpenSpec.upto tripNamesSpec)

/-- 'tollwaylaw21.TripOnce', WHERE WHAT IT READS IS OF BULK AT MOST 1048576: true; the input reads as it did. -/
def tripOnceUptoRow : OpenClaim := { program := "ytkpioblbeiaefaagreat", sum := "15484ecfeaaa58b05398367cc6d13318b0df70cb1ed03361238d79d21088b02d", func := "tollway/tollwaylaw21.TripOnce", spec := "tripOnce", unfollowed := true, recurses := true, named := ["math/bits.divideError", "math/bits.overflowError"], plainKeys := false, apart := false, narrowed := true }
def TripOnceUptoSaid : Prop := tripOnceUptoRow.holds Tryz.pinned (OpenSpec.upto tripOnceSpec)

/-- 'tollwaylaw21.TripRight', WHERE WHAT IT READS IS OF BULK AT MOST 1048576: true; the input reads as it did. -/
def tripRightUptoRow : OpenClaim := { program := "ytkpioblbeiaefaagreat", sum := "15484ecfeaaa58b05398367cc6d13318b0df70cb1ed03361238d79d21088b02d", func := "tollway/tollwaylaw21.TripRight", spec := "tripRight", unfollowed := true, recurses := true, named := ["math/bits.divideError", "math/bits.overflowError"], plainKeys := false, apart := false, narrowed := true }
def TripRightUptoSaid : Prop := tripRightUptoRow.holds Tryz.pinned (OpenSpec.upto tripRightSpec)

/-- 'tollwaylaw21.TripAlone', WHERE WHAT IT READS IS OF BULK AT MOST 1048576: true; the input reads as it did. -/
def tripAloneUptoRow : OpenClaim := { program := "ytkpioblbeiaefaagreat", sum := "15484ecfeaaa58b05398367cc6d13318b0df70cb1ed03361238d79d21088b02d", func := "tollway/tollwaylaw21.TripAlone", spec := "tripAlone", unfollowed := true, recurses := true, named := ["math/bits.divideError", "math/bits.overflowError"], plainKeys := false, apart := false, narrowed := true }
def TripAloneUptoSaid : Prop := tripAloneUptoRow.holds Tryz.pinned (OpenSpec.upto tripAloneSpec)

end Rows
end Go.Proofs.YtkpioblbeiaefaaGreat
