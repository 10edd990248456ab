/-
  No cell of these rows narrows 'for every input' (looked for: loops, veiled, ifaces, maps, wideKeys, modest, calm, conditions, laid).
  DERIVED. THE GIVEN ROWS OF THIS SEAT. 12 by the template 'for every input the law returns true; each argument reads behind the call as it read before'; 0 by the template 'total and deterministic' (their statements: YtomfagckcfmfjaaTotals.lean).
  GIVEN WITH THE SEED: the statements are not yours to turn. If you find one false, say at which input.
  Laid BY PROGRAM, IN A SANDBOX (cutbox-rows.mjs): the forced cells as the released guide's own fill.sh prints them over the translation 78010507024bb807… (all of the seat's roots in one cut). By AI agents, Wed Nov 11 2026. No macro, syntax, notation, axiom, sorry.
-/
import Derived.Test.YtomfagckcfmfjaaChecked
import GoSem.Claim
import GoSem.ClaimJoined
import GoSem.ClaimMapViews
import Derived.JoinedTies
import Derived.KernelRfl
namespace Go.Proofs.Ytomfagckcfmfjaa
/- THE CELL 'sum', in the pinned program and in every row, IS THE sha256 OF THE DUMP (.gsa) THAT YtomfagckcfmfjaaProg.lean LOADS. Nothing in Lean hashes anything: it is a label: what it is worth is what the hold of that sum in a sandbox is worth. -/
noncomputable def Try.pinned : Pinned := { name := "ytomfagckcfmfjaa", sum := "78010507024bb80727c53e75aa43b8ab6d1a90d56e8b7d05a3e9d06161fcbe63", checked := Try.checked }
namespace Rows
def none {H : Type} : Left H := { results := [], args := [] }

/-- 'laws.FnExactSameFound': WHATEVER THE INPUT: true; the input reads as it did. -/
def fnExactSameFoundSpec : ChangeSpec := { name := "fnExactSameFound", fn := fun _ => fun
  | [d1, d2] => { results := [.lit (.bool true)], args := [d1, d2] }
  | _ => none }
def fnExactSameFoundRow : OpenClaim := { program := "ytomfagckcfmfjaa", sum := "78010507024bb80727c53e75aa43b8ab6d1a90d56e8b7d05a3e9d06161fcbe63", func := "loop.example/g00899/laws.FnExactSameFound", spec := "fnExactSameFound", apart := false }
def FnExactSameFoundSaid : Prop := fnExactSameFoundRow.holds Try.pinned (OpenSpec.ofChange fnExactSameFoundSpec)

/-- ITS FALSE NEIGHBOUR: 'it returns false'. Refute it at one input. -/
def fnExactSameFoundWrong : ChangeSpec := { name := "fnExactSameFound", fn := fun _ => fun
  | [d1, d2] => { results := [.lit (.bool false)], args := [d1, d2] }
  | _ => none }
def FnExactSameFoundWrongFalsely : Prop := fnExactSameFoundRow.holds Try.pinned (OpenSpec.ofChange fnExactSameFoundWrong)

/-- 'laws.FnExactSameTrackSpec': WHATEVER THE INPUT: true; the input reads as it did. -/
def fnExactSameTrackSpecSpec : ChangeSpec := { name := "fnExactSameTrackSpec", fn := fun _ => fun
  | [d1, d2] => { results := [.lit (.bool true)], args := [d1, d2] }
  | _ => none }
def fnExactSameTrackSpecRow : OpenClaim := { program := "ytomfagckcfmfjaa", sum := "78010507024bb80727c53e75aa43b8ab6d1a90d56e8b7d05a3e9d06161fcbe63", func := "loop.example/g00899/laws.FnExactSameTrackSpec", spec := "fnExactSameTrackSpec", apart := false }
def FnExactSameTrackSpecSaid : Prop := fnExactSameTrackSpecRow.holds Try.pinned (OpenSpec.ofChange fnExactSameTrackSpecSpec)

/-- ITS FALSE NEIGHBOUR: 'it returns false'. Refute it at one input. -/
def fnExactSameTrackSpecWrong : ChangeSpec := { name := "fnExactSameTrackSpec", fn := fun _ => fun
  | [d1, d2] => { results := [.lit (.bool false)], args := [d1, d2] }
  | _ => none }
def FnExactSameTrackSpecWrongFalsely : Prop := fnExactSameTrackSpecRow.holds Try.pinned (OpenSpec.ofChange fnExactSameTrackSpecWrong)

/-- 'laws.FnExactValidVoted': WHATEVER THE INPUT: true; the input reads as it did. -/
def fnExactValidVotedSpec : ChangeSpec := { name := "fnExactValidVoted", fn := fun _ => fun
  | [d] => { results := [.lit (.bool true)], args := [d] }
  | _ => none }
def fnExactValidVotedRow : OpenClaim := { program := "ytomfagckcfmfjaa", sum := "78010507024bb80727c53e75aa43b8ab6d1a90d56e8b7d05a3e9d06161fcbe63", func := "loop.example/g00899/laws.FnExactValidVoted", spec := "fnExactValidVoted", apart := false }
def FnExactValidVotedSaid : Prop := fnExactValidVotedRow.holds Try.pinned (OpenSpec.ofChange fnExactValidVotedSpec)

/-- ITS FALSE NEIGHBOUR: 'it returns false'. Refute it at one input. -/
def fnExactValidVotedWrong : ChangeSpec := { name := "fnExactValidVoted", fn := fun _ => fun
  | [d] => { results := [.lit (.bool false)], args := [d] }
  | _ => none }
def FnExactValidVotedWrongFalsely : Prop := fnExactValidVotedRow.holds Try.pinned (OpenSpec.ofChange fnExactValidVotedWrong)

/-- 'laws.FnExactIdField': WHATEVER THE INPUT: true; the input reads as it did. -/
def fnExactIdFieldSpec : ChangeSpec := { name := "fnExactIdField", fn := fun _ => fun
  | [d1, d2] => { results := [.lit (.bool true)], args := [d1, d2] }
  | _ => none }
def fnExactIdFieldRow : OpenClaim := { program := "ytomfagckcfmfjaa", sum := "78010507024bb80727c53e75aa43b8ab6d1a90d56e8b7d05a3e9d06161fcbe63", func := "loop.example/g00899/laws.FnExactIdField", spec := "fnExactIdField", apart := false }
def FnExactIdFieldSaid : Prop := fnExactIdFieldRow.holds Try.pinned (OpenSpec.ofChange fnExactIdFieldSpec)

/-- ITS FALSE NEIGHBOUR: 'it returns false'. Refute it at one input. -/
def fnExactIdFieldWrong : ChangeSpec := { name := "fnExactIdField", fn := fun _ => fun
  | [d1, d2] => { results := [.lit (.bool false)], args := [d1, d2] }
  | _ => none }
def FnExactIdFieldWrongFalsely : Prop := fnExactIdFieldRow.holds Try.pinned (OpenSpec.ofChange fnExactIdFieldWrong)

/-- 'laws.FnExactValidTrackSpec': WHATEVER THE INPUT: true; the input reads as it did. -/
def fnExactValidTrackSpecSpec : ChangeSpec := { name := "fnExactValidTrackSpec", fn := fun _ => fun
  | [d] => { results := [.lit (.bool true)], args := [d] }
  | _ => none }
def fnExactValidTrackSpecRow : OpenClaim := { program := "ytomfagckcfmfjaa", sum := "78010507024bb80727c53e75aa43b8ab6d1a90d56e8b7d05a3e9d06161fcbe63", func := "loop.example/g00899/laws.FnExactValidTrackSpec", spec := "fnExactValidTrackSpec", apart := false }
def FnExactValidTrackSpecSaid : Prop := fnExactValidTrackSpecRow.holds Try.pinned (OpenSpec.ofChange fnExactValidTrackSpecSpec)

/-- ITS FALSE NEIGHBOUR: 'it returns false'. Refute it at one input. -/
def fnExactValidTrackSpecWrong : ChangeSpec := { name := "fnExactValidTrackSpec", fn := fun _ => fun
  | [d] => { results := [.lit (.bool false)], args := [d] }
  | _ => none }
def FnExactValidTrackSpecWrongFalsely : Prop := fnExactValidTrackSpecRow.holds Try.pinned (OpenSpec.ofChange fnExactValidTrackSpecWrong)

/-- 'laws.FnExactDataField': WHATEVER THE INPUT: true; the input reads as it did. -/
def fnExactDataFieldSpec : ChangeSpec := { name := "fnExactDataField", fn := fun _ => fun
  | [d1, d2] => { results := [.lit (.bool true)], args := [d1, d2] }
  | _ => none }
def fnExactDataFieldRow : OpenClaim := { program := "ytomfagckcfmfjaa", sum := "78010507024bb80727c53e75aa43b8ab6d1a90d56e8b7d05a3e9d06161fcbe63", func := "loop.example/g00899/laws.FnExactDataField", spec := "fnExactDataField", apart := false }
def FnExactDataFieldSaid : Prop := fnExactDataFieldRow.holds Try.pinned (OpenSpec.ofChange fnExactDataFieldSpec)

/-- ITS FALSE NEIGHBOUR: 'it returns false'. Refute it at one input. -/
def fnExactDataFieldWrong : ChangeSpec := { name := "fnExactDataField", fn := fun _ => fun
  | [d1, d2] => { results := [.lit (.bool false)], args := [d1, d2] }
  | _ => none }
def FnExactDataFieldWrongFalsely : Prop := fnExactDataFieldRow.holds Try.pinned (OpenSpec.ofChange fnExactDataFieldWrong)

/-- 'laws.FnExactBestFound': WHATEVER THE INPUT: true; the input reads as it did. -/
def fnExactBestFoundSpec : ChangeSpec := { name := "fnExactBestFound", fn := fun _ => fun
  | [d1, d2, d3, d4] => { results := [.lit (.bool true)], args := [d1, d2, d3, d4] }
  | _ => none }
def fnExactBestFoundRow : OpenClaim := { program := "ytomfagckcfmfjaa", sum := "78010507024bb80727c53e75aa43b8ab6d1a90d56e8b7d05a3e9d06161fcbe63", func := "loop.example/g00899/laws.FnExactBestFound", spec := "fnExactBestFound", apart := false }
def FnExactBestFoundSaid : Prop := fnExactBestFoundRow.holds Try.pinned (OpenSpec.ofChange fnExactBestFoundSpec)

/-- ITS FALSE NEIGHBOUR: 'it returns false'. Refute it at one input. -/
def fnExactBestFoundWrong : ChangeSpec := { name := "fnExactBestFound", fn := fun _ => fun
  | [d1, d2, d3, d4] => { results := [.lit (.bool false)], args := [d1, d2, d3, d4] }
  | _ => none }
def FnExactBestFoundWrongFalsely : Prop := fnExactBestFoundRow.holds Try.pinned (OpenSpec.ofChange fnExactBestFoundWrong)

/-- 'laws.FnExactVoteBytes': WHATEVER THE INPUT: true; the input reads as it did. -/
def fnExactVoteBytesSpec : ChangeSpec := { name := "fnExactVoteBytes", fn := fun _ => fun
  | [d] => { results := [.lit (.bool true)], args := [d] }
  | _ => none }
def fnExactVoteBytesRow : OpenClaim := { program := "ytomfagckcfmfjaa", sum := "78010507024bb80727c53e75aa43b8ab6d1a90d56e8b7d05a3e9d06161fcbe63", func := "loop.example/g00899/laws.FnExactVoteBytes", spec := "fnExactVoteBytes", apart := false }
def FnExactVoteBytesSaid : Prop := fnExactVoteBytesRow.holds Try.pinned (OpenSpec.ofChange fnExactVoteBytesSpec)

/-- ITS FALSE NEIGHBOUR: 'it returns false'. Refute it at one input. -/
def fnExactVoteBytesWrong : ChangeSpec := { name := "fnExactVoteBytes", fn := fun _ => fun
  | [d] => { results := [.lit (.bool false)], args := [d] }
  | _ => none }
def FnExactVoteBytesWrongFalsely : Prop := fnExactVoteBytesRow.holds Try.pinned (OpenSpec.ofChange fnExactVoteBytesWrong)

/-- 'laws.FnExactSameVoted': WHATEVER THE INPUT: true; the input reads as it did. -/
def fnExactSameVotedSpec : ChangeSpec := { name := "fnExactSameVoted", fn := fun _ => fun
  | [d1, d2] => { results := [.lit (.bool true)], args := [d1, d2] }
  | _ => none }
def fnExactSameVotedRow : OpenClaim := { program := "ytomfagckcfmfjaa", sum := "78010507024bb80727c53e75aa43b8ab6d1a90d56e8b7d05a3e9d06161fcbe63", func := "loop.example/g00899/laws.FnExactSameVoted", spec := "fnExactSameVoted", unfollowed := true, recurses := true, apart := false }
def FnExactSameVotedSaid : Prop := fnExactSameVotedRow.holds Try.pinned (OpenSpec.ofChange fnExactSameVotedSpec)

/-- ITS FALSE NEIGHBOUR: 'it returns false'. Refute it at one input. -/
def fnExactSameVotedWrong : ChangeSpec := { name := "fnExactSameVoted", fn := fun _ => fun
  | [d1, d2] => { results := [.lit (.bool false)], args := [d1, d2] }
  | _ => none }
def FnExactSameVotedWrongFalsely : Prop := fnExactSameVotedRow.holds Try.pinned (OpenSpec.ofChange fnExactSameVotedWrong)

/-- 'laws.FnExactTrackCells': WHATEVER THE INPUT: true; the input reads as it did. -/
def fnExactTrackCellsSpec : ChangeSpec := { name := "fnExactTrackCells", fn := fun _ => fun
  | [d] => { results := [.lit (.bool true)], args := [d] }
  | _ => none }
def fnExactTrackCellsRow : OpenClaim := { program := "ytomfagckcfmfjaa", sum := "78010507024bb80727c53e75aa43b8ab6d1a90d56e8b7d05a3e9d06161fcbe63", func := "loop.example/g00899/laws.FnExactTrackCells", spec := "fnExactTrackCells", apart := false }
def FnExactTrackCellsSaid : Prop := fnExactTrackCellsRow.holds Try.pinned (OpenSpec.ofChange fnExactTrackCellsSpec)

/-- ITS FALSE NEIGHBOUR: 'it returns false'. Refute it at one input. -/
def fnExactTrackCellsWrong : ChangeSpec := { name := "fnExactTrackCells", fn := fun _ => fun
  | [d] => { results := [.lit (.bool false)], args := [d] }
  | _ => none }
def FnExactTrackCellsWrongFalsely : Prop := fnExactTrackCellsRow.holds Try.pinned (OpenSpec.ofChange fnExactTrackCellsWrong)

/-- 'laws.FnExactPlainTrack': WHATEVER THE INPUT: true; the input reads as it did. -/
def fnExactPlainTrackSpec : ChangeSpec := { name := "fnExactPlainTrack", fn := fun _ => fun
  | [d1, d2, d3] => { results := [.lit (.bool true)], args := [d1, d2, d3] }
  | _ => none }
def fnExactPlainTrackRow : OpenClaim := { program := "ytomfagckcfmfjaa", sum := "78010507024bb80727c53e75aa43b8ab6d1a90d56e8b7d05a3e9d06161fcbe63", func := "loop.example/g00899/laws.FnExactPlainTrack", spec := "fnExactPlainTrack", unfollowed := true, recurses := true, apart := false }
def FnExactPlainTrackSaid : Prop := fnExactPlainTrackRow.holds Try.pinned (OpenSpec.ofChange fnExactPlainTrackSpec)

/-- ITS FALSE NEIGHBOUR: 'it returns false'. Refute it at one input. -/
def fnExactPlainTrackWrong : ChangeSpec := { name := "fnExactPlainTrack", fn := fun _ => fun
  | [d1, d2, d3] => { results := [.lit (.bool false)], args := [d1, d2, d3] }
  | _ => none }
def FnExactPlainTrackWrongFalsely : Prop := fnExactPlainTrackRow.holds Try.pinned (OpenSpec.ofChange fnExactPlainTrackWrong)

/-- 'laws.FnExactSpecsOf': WHATEVER THE INPUT: true; the input reads as it did. -/
def fnExactSpecsOfSpec : ChangeSpec := { name := "fnExactSpecsOf", fn := fun _ => fun
  | [d] => { results := [.lit (.bool true)], args := [d] }
  | _ => none }
def fnExactSpecsOfRow : OpenClaim := { program := "ytomfagckcfmfjaa", sum := "78010507024bb80727c53e75aa43b8ab6d1a90d56e8b7d05a3e9d06161fcbe63", func := "loop.example/g00899/laws.FnExactSpecsOf", spec := "fnExactSpecsOf", apart := false }
def FnExactSpecsOfSaid : Prop := fnExactSpecsOfRow.holds Try.pinned (OpenSpec.ofChange fnExactSpecsOfSpec)

/-- ITS FALSE NEIGHBOUR: 'it returns false'. Refute it at one input. -/
def fnExactSpecsOfWrong : ChangeSpec := { name := "fnExactSpecsOf", fn := fun _ => fun
  | [d] => { results := [.lit (.bool false)], args := [d] }
  | _ => none }
def FnExactSpecsOfWrongFalsely : Prop := fnExactSpecsOfRow.holds Try.pinned (OpenSpec.ofChange fnExactSpecsOfWrong)

/- THE SECOND FORM. 'bulk': how many values and letters a reading holds, each counted each time it is reached (what is shared counts as often as it is met; a slice's spare places count too). A statement '..UptoSaid' is the law's where the arguments, and the package variables that the reading takes, are together of bulk at most 1048576: NARROWER than '..Said'. Prove '..Said' where nothing that the law and all that it calls make is longer than what came in: it says more and counts as full. Else prove '..UptoSaid'. A law counts once. -/
mutual
def uptoBulk {H : Type} : DataW H → Nat
  | .lit (.string bytes) => bytes.length + 1
  | .lit _ => 1
  | .nil => 1
  | .ptr d => uptoBulk d + 1
  | .slice elems spare => uptoBulkAll elems + uptoBulkAll spare + 1
  | .agg parts => uptoBulkAll parts + 1
  | .iface _ d => uptoBulk d + 1
  | .map entries => uptoBulkEntries entries + 1
  | .held _ => 1
def uptoBulkAll {H : Type} : List (DataW H) → Nat
  | [] => 0
  | d :: r => uptoBulk d + uptoBulkAll r
def uptoBulkEntries {H : Type} : List (Lit × DataW H) → Nat
  | [] => 0
  | x :: r => uptoBulkEntry x + uptoBulkEntries r
def uptoBulkEntry {H : Type} : Lit × DataW H → Nat
  | (.string bytes, d) => bytes.length + uptoBulk d + 1
  | (_, d) => uptoBulk d + 1
 end
def uptoSmall : (H : Type) → List (DataW H) → Bool := fun _ ds => decide (uptoBulkAll ds ≤ 1048576)
def OpenSpec.upto (s : _root_.Go.ChangeSpec) : _root_.Go.OpenSpec := { _root_.Go.OpenSpec.ofChange s with cond := some uptoSmall }

/-- 'laws.FnExactSameFound', WHERE WHAT IT READS IS OF BULK AT MOST 1048576: true; the input reads as it did. -/
def fnExactSameFoundUptoRow : OpenClaim := { program := "ytomfagckcfmfjaa", sum := "78010507024bb80727c53e75aa43b8ab6d1a90d56e8b7d05a3e9d06161fcbe63", func := "loop.example/g00899/laws.FnExactSameFound", spec := "fnExactSameFound", apart := false, narrowed := true }
def FnExactSameFoundUptoSaid : Prop := fnExactSameFoundUptoRow.holds Try.pinned (OpenSpec.upto fnExactSameFoundSpec)

/-- 'laws.FnExactSameTrackSpec', WHERE WHAT IT READS IS OF BULK AT MOST 1048576: true; the input reads as it did. -/
def fnExactSameTrackSpecUptoRow : OpenClaim := { program := "ytomfagckcfmfjaa", sum := "78010507024bb80727c53e75aa43b8ab6d1a90d56e8b7d05a3e9d06161fcbe63", func := "loop.example/g00899/laws.FnExactSameTrackSpec", spec := "fnExactSameTrackSpec", apart := false, narrowed := true }
def FnExactSameTrackSpecUptoSaid : Prop := fnExactSameTrackSpecUptoRow.holds Try.pinned (OpenSpec.upto fnExactSameTrackSpecSpec)

/-- 'laws.FnExactValidVoted', WHERE WHAT IT READS IS OF BULK AT MOST 1048576: true; the input reads as it did. -/
def fnExactValidVotedUptoRow : OpenClaim := { program := "ytomfagckcfmfjaa", sum := "78010507024bb80727c53e75aa43b8ab6d1a90d56e8b7d05a3e9d06161fcbe63", func := "loop.example/g00899/laws.FnExactValidVoted", spec := "fnExactValidVoted", apart := false, narrowed := true }
def FnExactValidVotedUptoSaid : Prop := fnExactValidVotedUptoRow.holds Try.pinned (OpenSpec.upto fnExactValidVotedSpec)

/-- 'laws.FnExactIdField', WHERE WHAT IT READS IS OF BULK AT MOST 1048576: true; the input reads as it did. -/
def fnExactIdFieldUptoRow : OpenClaim := { program := "ytomfagckcfmfjaa", sum := "78010507024bb80727c53e75aa43b8ab6d1a90d56e8b7d05a3e9d06161fcbe63", func := "loop.example/g00899/laws.FnExactIdField", spec := "fnExactIdField", apart := false, narrowed := true }
def FnExactIdFieldUptoSaid : Prop := fnExactIdFieldUptoRow.holds Try.pinned (OpenSpec.upto fnExactIdFieldSpec)

/-- 'laws.FnExactValidTrackSpec', WHERE WHAT IT READS IS OF BULK AT MOST 1048576: true; the input reads as it did. -/
def fnExactValidTrackSpecUptoRow : OpenClaim := { program := "ytomfagckcfmfjaa", sum := "78010507024bb80727c53e75aa43b8ab6d1a90d56e8b7d05a3e9d06161fcbe63", func := "loop.example/g00899/laws.FnExactValidTrackSpec", spec := "fnExactValidTrackSpec", apart := false, narrowed := true }
def FnExactValidTrackSpecUptoSaid : Prop := fnExactValidTrackSpecUptoRow.holds Try.pinned (OpenSpec.upto fnExactValidTrackSpecSpec)

/-- 'laws.FnExactDataField', WHERE WHAT IT READS IS OF BULK AT MOST 1048576: true; the input reads as it did. -/
def fnExactDataFieldUptoRow : OpenClaim := { program := "ytomfagckcfmfjaa", sum := "78010507024bb80727c53e75aa43b8ab6d1a90d56e8b7d05a3e9d06161fcbe63", func := "loop.example/g00899/laws.FnExactDataField", spec := "fnExactDataField", apart := false, narrowed := true }
def FnExactDataFieldUptoSaid : Prop := fnExactDataFieldUptoRow.holds Try.pinned (OpenSpec.upto fnExactDataFieldSpec)

/-- 'laws.FnExactBestFound', WHERE WHAT IT READS IS OF BULK AT MOST 1048576: true; the input reads as it did. -/
def fnExactBestFoundUptoRow : OpenClaim := { program := "ytomfagckcfmfjaa", sum := "78010507024bb80727c53e75aa43b8ab6d1a90d56e8b7d05a3e9d06161fcbe63", func := "loop.example/g00899/laws.FnExactBestFound", spec := "fnExactBestFound", apart := false, narrowed := true }
def FnExactBestFoundUptoSaid : Prop := fnExactBestFoundUptoRow.holds Try.pinned (OpenSpec.upto fnExactBestFoundSpec)

/-- 'laws.FnExactVoteBytes', WHERE WHAT IT READS IS OF BULK AT MOST 1048576: true; the input reads as it did. -/
def fnExactVoteBytesUptoRow : OpenClaim := { program := "ytomfagckcfmfjaa", sum := "78010507024bb80727c53e75aa43b8ab6d1a90d56e8b7d05a3e9d06161fcbe63", func := "loop.example/g00899/laws.FnExactVoteBytes", spec := "fnExactVoteBytes", apart := false, narrowed := true }
def FnExactVoteBytesUptoSaid : Prop := fnExactVoteBytesUptoRow.holds Try.pinned (OpenSpec.upto fnExactVoteBytesSpec)

/-- 'laws.FnExactSameVoted', WHERE WHAT IT READS IS OF BULK AT MOST 1048576: true; the input reads as it did. -/
def fnExactSameVotedUptoRow : OpenClaim := { program := "ytomfagckcfmfjaa", sum := "78010507024bb80727c53e75aa43b8ab6d1a90d56e8b7d05a3e9d06161fcbe63", func := "loop.example/g00899/laws.FnExactSameVoted", spec := "fnExactSameVoted", unfollowed := true, recurses := true, apart := false, narrowed := true }
def FnExactSameVotedUptoSaid : Prop := fnExactSameVotedUptoRow.holds Try.pinned (OpenSpec.upto fnExactSameVotedSpec)

/-- 'laws.FnExactTrackCells', WHERE WHAT IT READS IS OF BULK AT MOST 1048576: true; the input reads as it did. -/
def fnExactTrackCellsUptoRow : OpenClaim := { program := "ytomfagckcfmfjaa", sum := "78010507024bb80727c53e75aa43b8ab6d1a90d56e8b7d05a3e9d06161fcbe63", func := "loop.example/g00899/laws.FnExactTrackCells", spec := "fnExactTrackCells", apart := false, narrowed := true }
def FnExactTrackCellsUptoSaid : Prop := fnExactTrackCellsUptoRow.holds Try.pinned (OpenSpec.upto fnExactTrackCellsSpec)

/-- 'laws.FnExactPlainTrack', WHERE WHAT IT READS IS OF BULK AT MOST 1048576: true; the input reads as it did. -/
def fnExactPlainTrackUptoRow : OpenClaim := { program := "ytomfagckcfmfjaa", sum := "78010507024bb80727c53e75aa43b8ab6d1a90d56e8b7d05a3e9d06161fcbe63", func := "loop.example/g00899/laws.FnExactPlainTrack", spec := "fnExactPlainTrack", unfollowed := true, recurses := true, apart := false, narrowed := true }
def FnExactPlainTrackUptoSaid : Prop := fnExactPlainTrackUptoRow.holds Try.pinned (OpenSpec.upto fnExactPlainTrackSpec)

/-- 'laws.FnExactSpecsOf', WHERE WHAT IT READS IS OF BULK AT MOST 1048576: true; the input reads as it did. -/
def fnExactSpecsOfUptoRow : OpenClaim := { program := "ytomfagckcfmfjaa", sum := "78010507024bb80727c53e75aa43b8ab6d1a90d56e8b7d05a3e9d06161fcbe63", func := "loop.example/g00899/laws.FnExactSpecsOf", spec := "fnExactSpecsOf", apart := false, narrowed := true }
def FnExactSpecsOfUptoSaid : Prop := fnExactSpecsOfUptoRow.holds Try.pinned (OpenSpec.upto fnExactSpecsOfSpec)

end Rows
end Go.Proofs.Ytomfagckcfmfjaa
