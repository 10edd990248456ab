/-
  No cell of these rows narrows 'for every input' (looked for: loops, veiled, ifaces, maps, wideKeys, modest, calm, conditions, laid).
  DERIVED. THE GIVEN ROWS OF THIS SEAT. 5 by the template 'for every input the law returns true; each argument reads behind the call as it read before'; 0 by the template 'total and deterministic' (their statements: YtlelgpknkgjaeaaTotals.lean).
  GIVEN WITH THE SEED: the statements are not yours to turn. If you find one false, say at which input.
  Laid BY PROGRAM, IN A SANDBOX (cutbox-rows.mjs): the forced cells as the released guide's own fill.sh prints them over the translation 9868c52de4b76763… (all of the seat's roots in one cut). By AI agents, Wed Nov 11 2026. No macro, syntax, notation, axiom, sorry.
-/
import Derived.Test.YtlelgpknkgjaeaaChecked
import GoSem.Claim
import GoSem.ClaimJoined
import GoSem.ClaimMapViews
import Derived.JoinedTies
import Derived.KernelRfl
namespace Go.Proofs.Ytlelgpknkgjaeaa
/- THE CELL 'sum', in the pinned program and in every row, IS THE sha256 OF THE DUMP (.gsa) THAT YtlelgpknkgjaeaaProg.lean LOADS. Nothing in Lean hashes anything: it is a label: what it is worth is what the hold of that sum in a sandbox is worth. -/
noncomputable def Try.pinned : Pinned := { name := "ytlelgpknkgjaeaa", sum := "9868c52de4b76763c654a343e5199201e3ab27cf9e5839f73478d6d40441428a", checked := Try.checked }
namespace Rows
def none {H : Type} : Left H := { results := [], args := [] }

/-- 'laws.FnExactVoteBytes': WHATEVER THE INPUT: true; the input reads as it did. -/
def fnExactVoteBytesSpec : ChangeSpec := { name := "fnExactVoteBytes", fn := fun _ => fun
  | [d] => { results := [.lit (.bool true)], args := [d] }
  | _ => none }
def fnExactVoteBytesRow : OpenClaim := { program := "ytlelgpknkgjaeaa", sum := "9868c52de4b76763c654a343e5199201e3ab27cf9e5839f73478d6d40441428a", func := "loop.example/g00899/laws.FnExactVoteBytes", spec := "fnExactVoteBytes", apart := false }
def FnExactVoteBytesSaid : Prop := fnExactVoteBytesRow.holds Try.pinned (OpenSpec.ofChange fnExactVoteBytesSpec)

/-- ITS FALSE NEIGHBOUR: 'it returns false'. Refute it at one input. -/
def fnExactVoteBytesWrong : ChangeSpec := { name := "fnExactVoteBytes", fn := fun _ => fun
  | [d] => { results := [.lit (.bool false)], args := [d] }
  | _ => none }
def FnExactVoteBytesWrongFalsely : Prop := fnExactVoteBytesRow.holds Try.pinned (OpenSpec.ofChange fnExactVoteBytesWrong)

/-- 'laws.FnExactSameVoted': WHATEVER THE INPUT: true; the input reads as it did. -/
def fnExactSameVotedSpec : ChangeSpec := { name := "fnExactSameVoted", fn := fun _ => fun
  | [d1, d2] => { results := [.lit (.bool true)], args := [d1, d2] }
  | _ => none }
def fnExactSameVotedRow : OpenClaim := { program := "ytlelgpknkgjaeaa", sum := "9868c52de4b76763c654a343e5199201e3ab27cf9e5839f73478d6d40441428a", func := "loop.example/g00899/laws.FnExactSameVoted", spec := "fnExactSameVoted", unfollowed := true, recurses := true, apart := false }
def FnExactSameVotedSaid : Prop := fnExactSameVotedRow.holds Try.pinned (OpenSpec.ofChange fnExactSameVotedSpec)

/-- ITS FALSE NEIGHBOUR: 'it returns false'. Refute it at one input. -/
def fnExactSameVotedWrong : ChangeSpec := { name := "fnExactSameVoted", fn := fun _ => fun
  | [d1, d2] => { results := [.lit (.bool false)], args := [d1, d2] }
  | _ => none }
def FnExactSameVotedWrongFalsely : Prop := fnExactSameVotedRow.holds Try.pinned (OpenSpec.ofChange fnExactSameVotedWrong)

/-- 'laws.FnExactPlainTrack': WHATEVER THE INPUT: true; the input reads as it did. -/
def fnExactPlainTrackSpec : ChangeSpec := { name := "fnExactPlainTrack", fn := fun _ => fun
  | [d1, d2, d3] => { results := [.lit (.bool true)], args := [d1, d2, d3] }
  | _ => none }
def fnExactPlainTrackRow : OpenClaim := { program := "ytlelgpknkgjaeaa", sum := "9868c52de4b76763c654a343e5199201e3ab27cf9e5839f73478d6d40441428a", func := "loop.example/g00899/laws.FnExactPlainTrack", spec := "fnExactPlainTrack", unfollowed := true, recurses := true, apart := false }
def FnExactPlainTrackSaid : Prop := fnExactPlainTrackRow.holds Try.pinned (OpenSpec.ofChange fnExactPlainTrackSpec)

/-- ITS FALSE NEIGHBOUR: 'it returns false'. Refute it at one input. -/
def fnExactPlainTrackWrong : ChangeSpec := { name := "fnExactPlainTrack", fn := fun _ => fun
  | [d1, d2, d3] => { results := [.lit (.bool false)], args := [d1, d2, d3] }
  | _ => none }
def FnExactPlainTrackWrongFalsely : Prop := fnExactPlainTrackRow.holds Try.pinned (OpenSpec.ofChange fnExactPlainTrackWrong)

/-- 'laws.FnExactWeakFeatures': WHATEVER THE INPUT: true; the input reads as it did. -/
def fnExactWeakFeaturesSpec : ChangeSpec := { name := "fnExactWeakFeatures", fn := fun _ => fun
  | [d] => { results := [.lit (.bool true)], args := [d] }
  | _ => none }
def fnExactWeakFeaturesRow : OpenClaim := { program := "ytlelgpknkgjaeaa", sum := "9868c52de4b76763c654a343e5199201e3ab27cf9e5839f73478d6d40441428a", func := "loop.example/g00899/laws.FnExactWeakFeatures", spec := "fnExactWeakFeatures", apart := false }
def FnExactWeakFeaturesSaid : Prop := fnExactWeakFeaturesRow.holds Try.pinned (OpenSpec.ofChange fnExactWeakFeaturesSpec)

/-- ITS FALSE NEIGHBOUR: 'it returns false'. Refute it at one input. -/
def fnExactWeakFeaturesWrong : ChangeSpec := { name := "fnExactWeakFeatures", fn := fun _ => fun
  | [d] => { results := [.lit (.bool false)], args := [d] }
  | _ => none }
def FnExactWeakFeaturesWrongFalsely : Prop := fnExactWeakFeaturesRow.holds Try.pinned (OpenSpec.ofChange fnExactWeakFeaturesWrong)

/-- 'laws.FnExactMergeFound': WHATEVER THE INPUT: true; the input reads as it did. -/
def fnExactMergeFoundSpec : ChangeSpec := { name := "fnExactMergeFound", fn := fun _ => fun
  | [d] => { results := [.lit (.bool true)], args := [d] }
  | _ => none }
def fnExactMergeFoundRow : OpenClaim := { program := "ytlelgpknkgjaeaa", sum := "9868c52de4b76763c654a343e5199201e3ab27cf9e5839f73478d6d40441428a", func := "loop.example/g00899/laws.FnExactMergeFound", spec := "fnExactMergeFound", unfollowed := true, recurses := true, apart := false }
def FnExactMergeFoundSaid : Prop := fnExactMergeFoundRow.holds Try.pinned (OpenSpec.ofChange fnExactMergeFoundSpec)

/-- ITS FALSE NEIGHBOUR: 'it returns false'. Refute it at one input. -/
def fnExactMergeFoundWrong : ChangeSpec := { name := "fnExactMergeFound", fn := fun _ => fun
  | [d] => { results := [.lit (.bool false)], args := [d] }
  | _ => none }
def FnExactMergeFoundWrongFalsely : Prop := fnExactMergeFoundRow.holds Try.pinned (OpenSpec.ofChange fnExactMergeFoundWrong)

/- THE SECOND FORM. 'bulk': how many values and letters a reading holds, each counted each time it is reached (what is shared counts as often as it is met; a slice's spare places count too). A statement '..UptoSaid' is the law's where the arguments, and the package variables that the reading takes, are together of bulk at most 1048576: NARROWER than '..Said'. Prove '..Said' where nothing that the law and all that it calls make is longer than what came in: it says more and counts as full. Else prove '..UptoSaid'. A law counts once. -/
mutual
def uptoBulk {H : Type} : DataW H → Nat
  | .lit (.string bytes) => bytes.length + 1
  | .lit _ => 1
  | .nil => 1
  | .ptr d => uptoBulk d + 1
  | .slice elems spare => uptoBulkAll elems + uptoBulkAll spare + 1
  | .agg parts => uptoBulkAll parts + 1
  | .iface _ d => uptoBulk d + 1
  | .map entries => uptoBulkEntries entries + 1
  | .held _ => 1
def uptoBulkAll {H : Type} : List (DataW H) → Nat
  | [] => 0
  | d :: r => uptoBulk d + uptoBulkAll r
def uptoBulkEntries {H : Type} : List (Lit × DataW H) → Nat
  | [] => 0
  | x :: r => uptoBulkEntry x + uptoBulkEntries r
def uptoBulkEntry {H : Type} : Lit × DataW H → Nat
  | (.string bytes, d) => bytes.length + uptoBulk d + 1
  | (_, d) => uptoBulk d + 1
 end
def uptoSmall : (H : Type) → List (DataW H) → Bool := fun _ ds => decide (uptoBulkAll ds ≤ 1048576)
def OpenSpec.upto (s : _root_.Go.ChangeSpec) : _root_.Go.OpenSpec := { _root_.Go.OpenSpec.ofChange s with cond := some uptoSmall }

/-- 'laws.FnExactVoteBytes', WHERE WHAT IT READS IS OF BULK AT MOST 1048576: true; the input reads as it did. -/
def fnExactVoteBytesUptoRow : OpenClaim := { program := "ytlelgpknkgjaeaa", sum := "9868c52de4b76763c654a343e5199201e3ab27cf9e5839f73478d6d40441428a", func := "loop.example/g00899/laws.FnExactVoteBytes", spec := "fnExactVoteBytes", apart := false, narrowed := true }
def FnExactVoteBytesUptoSaid : Prop := fnExactVoteBytesUptoRow.holds Try.pinned (OpenSpec.upto fnExactVoteBytesSpec)

/-- 'laws.FnExactSameVoted', WHERE WHAT IT READS IS OF BULK AT MOST 1048576: true; the input reads as it did. -/
def fnExactSameVotedUptoRow : OpenClaim := { program := "ytlelgpknkgjaeaa", sum := "9868c52de4b76763c654a343e5199201e3ab27cf9e5839f73478d6d40441428a", func := "loop.example/g00899/laws.FnExactSameVoted", spec := "fnExactSameVoted", unfollowed := true, recurses := true, apart := false, narrowed := true }
def FnExactSameVotedUptoSaid : Prop := fnExactSameVotedUptoRow.holds Try.pinned (OpenSpec.upto fnExactSameVotedSpec)

/-- 'laws.FnExactPlainTrack', WHERE WHAT IT READS IS OF BULK AT MOST 1048576: true; the input reads as it did. -/
def fnExactPlainTrackUptoRow : OpenClaim := { program := "ytlelgpknkgjaeaa", sum := "9868c52de4b76763c654a343e5199201e3ab27cf9e5839f73478d6d40441428a", func := "loop.example/g00899/laws.FnExactPlainTrack", spec := "fnExactPlainTrack", unfollowed := true, recurses := true, apart := false, narrowed := true }
def FnExactPlainTrackUptoSaid : Prop := fnExactPlainTrackUptoRow.holds Try.pinned (OpenSpec.upto fnExactPlainTrackSpec)

/-- 'laws.FnExactWeakFeatures', WHERE WHAT IT READS IS OF BULK AT MOST 1048576: true; the input reads as it did. -/
def fnExactWeakFeaturesUptoRow : OpenClaim := { program := "ytlelgpknkgjaeaa", sum := "9868c52de4b76763c654a343e5199201e3ab27cf9e5839f73478d6d40441428a", func := "loop.example/g00899/laws.FnExactWeakFeatures", spec := "fnExactWeakFeatures", apart := false, narrowed := true }
def FnExactWeakFeaturesUptoSaid : Prop := fnExactWeakFeaturesUptoRow.holds Try.pinned (OpenSpec.upto fnExactWeakFeaturesSpec)

/-- 'laws.FnExactMergeFound', WHERE WHAT IT READS IS OF BULK AT MOST 1048576: true; the input reads as it did. -/
def fnExactMergeFoundUptoRow : OpenClaim := { program := "ytlelgpknkgjaeaa", sum := "9868c52de4b76763c654a343e5199201e3ab27cf9e5839f73478d6d40441428a", func := "loop.example/g00899/laws.FnExactMergeFound", spec := "fnExactMergeFound", unfollowed := true, recurses := true, apart := false, narrowed := true }
def FnExactMergeFoundUptoSaid : Prop := fnExactMergeFoundUptoRow.holds Try.pinned (OpenSpec.upto fnExactMergeFoundSpec)

end Rows
end Go.Proofs.Ytlelgpknkgjaeaa
