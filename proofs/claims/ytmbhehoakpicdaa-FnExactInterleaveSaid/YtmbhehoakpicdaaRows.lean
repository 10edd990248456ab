/-
  No cell of these rows narrows 'for every input' (looked for: loops, veiled, ifaces, maps, wideKeys, modest, calm, conditions, laid).
  DERIVED. THE GIVEN ROWS OF THIS SEAT. 9 by the template 'for every input the law returns true; each argument reads behind the call as it read before'; 0 by the template 'total and deterministic' (their statements: YtmbhehoakpicdaaTotals.lean).
  GIVEN WITH THE SEED: the statements are not yours to turn. If you find one false, say at which input.
  Laid BY PROGRAM, IN A SANDBOX (cutbox-rows.mjs): the forced cells as the released guide's own fill.sh prints them over the translation 67e625e6862cbec1… (all of the seat's roots in one cut). By AI agents, Wed Nov 11 2026. No macro, syntax, notation, axiom, sorry.
-/
import Derived.Test.YtmbhehoakpicdaaChecked
import GoSem.Claim
import GoSem.ClaimJoined
import GoSem.ClaimMapViews
import Derived.JoinedTies
import Derived.KernelRfl
namespace Go.Proofs.Ytmbhehoakpicdaa
/- THE CELL 'sum', in the pinned program and in every row, IS THE sha256 OF THE DUMP (.gsa) THAT YtmbhehoakpicdaaProg.lean LOADS. Nothing in Lean hashes anything: it is a label: what it is worth is what the hold of that sum in a sandbox is worth. -/
noncomputable def Try.pinned : Pinned := { name := "ytmbhehoakpicdaa", sum := "67e625e6862cbec16dab506cd35cc9aea1711516fae38024660e1fe5f0c9c71f", checked := Try.checked }
namespace Rows
def none {H : Type} : Left H := { results := [], args := [] }

/-- 'laws.FnExactCellsBetween': WHATEVER THE INPUT: true; the input reads as it did. -/
def fnExactCellsBetweenSpec : ChangeSpec := { name := "fnExactCellsBetween", fn := fun _ => fun
  | [d1, d2, d3] => { results := [.lit (.bool true)], args := [d1, d2, d3] }
  | _ => none }
def fnExactCellsBetweenRow : OpenClaim := { program := "ytmbhehoakpicdaa", sum := "67e625e6862cbec16dab506cd35cc9aea1711516fae38024660e1fe5f0c9c71f", func := "loop.example/g00899/laws.FnExactCellsBetween", spec := "fnExactCellsBetween", apart := false }
def FnExactCellsBetweenSaid : Prop := fnExactCellsBetweenRow.holds Try.pinned (OpenSpec.ofChange fnExactCellsBetweenSpec)

/-- ITS FALSE NEIGHBOUR: 'it returns false'. Refute it at one input. -/
def fnExactCellsBetweenWrong : ChangeSpec := { name := "fnExactCellsBetween", fn := fun _ => fun
  | [d1, d2, d3] => { results := [.lit (.bool false)], args := [d1, d2, d3] }
  | _ => none }
def FnExactCellsBetweenWrongFalsely : Prop := fnExactCellsBetweenRow.holds Try.pinned (OpenSpec.ofChange fnExactCellsBetweenWrong)

/-- 'laws.FnExactMarkByte': WHATEVER THE INPUT: true; the input reads as it did. -/
def fnExactMarkByteSpec : ChangeSpec := { name := "fnExactMarkByte", fn := fun _ => fun
  | [d1, d2] => { results := [.lit (.bool true)], args := [d1, d2] }
  | _ => none }
def fnExactMarkByteRow : OpenClaim := { program := "ytmbhehoakpicdaa", sum := "67e625e6862cbec16dab506cd35cc9aea1711516fae38024660e1fe5f0c9c71f", func := "loop.example/g00899/laws.FnExactMarkByte", spec := "fnExactMarkByte", apart := false }
def FnExactMarkByteSaid : Prop := fnExactMarkByteRow.holds Try.pinned (OpenSpec.ofChange fnExactMarkByteSpec)

/-- ITS FALSE NEIGHBOUR: 'it returns false'. Refute it at one input. -/
def fnExactMarkByteWrong : ChangeSpec := { name := "fnExactMarkByte", fn := fun _ => fun
  | [d1, d2] => { results := [.lit (.bool false)], args := [d1, d2] }
  | _ => none }
def FnExactMarkByteWrongFalsely : Prop := fnExactMarkByteRow.holds Try.pinned (OpenSpec.ofChange fnExactMarkByteWrong)

/-- 'laws.FnExactValidSectorSpec': WHATEVER THE INPUT: true; the input reads as it did. -/
def fnExactValidSectorSpecSpec : ChangeSpec := { name := "fnExactValidSectorSpec", fn := fun _ => fun
  | [d] => { results := [.lit (.bool true)], args := [d] }
  | _ => none }
def fnExactValidSectorSpecRow : OpenClaim := { program := "ytmbhehoakpicdaa", sum := "67e625e6862cbec16dab506cd35cc9aea1711516fae38024660e1fe5f0c9c71f", func := "loop.example/g00899/laws.FnExactValidSectorSpec", spec := "fnExactValidSectorSpec", apart := false }
def FnExactValidSectorSpecSaid : Prop := fnExactValidSectorSpecRow.holds Try.pinned (OpenSpec.ofChange fnExactValidSectorSpecSpec)

/-- ITS FALSE NEIGHBOUR: 'it returns false'. Refute it at one input. -/
def fnExactValidSectorSpecWrong : ChangeSpec := { name := "fnExactValidSectorSpec", fn := fun _ => fun
  | [d] => { results := [.lit (.bool false)], args := [d] }
  | _ => none }
def FnExactValidSectorSpecWrongFalsely : Prop := fnExactValidSectorSpecRow.holds Try.pinned (OpenSpec.ofChange fnExactValidSectorSpecWrong)

/-- 'laws.FnExactValidFeature': WHATEVER THE INPUT: true; the input reads as it did. -/
def fnExactValidFeatureSpec : ChangeSpec := { name := "fnExactValidFeature", fn := fun _ => fun
  | [d] => { results := [.lit (.bool true)], args := [d] }
  | _ => none }
def fnExactValidFeatureRow : OpenClaim := { program := "ytmbhehoakpicdaa", sum := "67e625e6862cbec16dab506cd35cc9aea1711516fae38024660e1fe5f0c9c71f", func := "loop.example/g00899/laws.FnExactValidFeature", spec := "fnExactValidFeature", apart := false }
def FnExactValidFeatureSaid : Prop := fnExactValidFeatureRow.holds Try.pinned (OpenSpec.ofChange fnExactValidFeatureSpec)

/-- ITS FALSE NEIGHBOUR: 'it returns false'. Refute it at one input. -/
def fnExactValidFeatureWrong : ChangeSpec := { name := "fnExactValidFeature", fn := fun _ => fun
  | [d] => { results := [.lit (.bool false)], args := [d] }
  | _ => none }
def FnExactValidFeatureWrongFalsely : Prop := fnExactValidFeatureRow.holds Try.pinned (OpenSpec.ofChange fnExactValidFeatureWrong)

/-- 'laws.FnExactValidFound': WHATEVER THE INPUT: true; the input reads as it did. -/
def fnExactValidFoundSpec : ChangeSpec := { name := "fnExactValidFound", fn := fun _ => fun
  | [d] => { results := [.lit (.bool true)], args := [d] }
  | _ => none }
def fnExactValidFoundRow : OpenClaim := { program := "ytmbhehoakpicdaa", sum := "67e625e6862cbec16dab506cd35cc9aea1711516fae38024660e1fe5f0c9c71f", func := "loop.example/g00899/laws.FnExactValidFound", spec := "fnExactValidFound", apart := false }
def FnExactValidFoundSaid : Prop := fnExactValidFoundRow.holds Try.pinned (OpenSpec.ofChange fnExactValidFoundSpec)

/-- ITS FALSE NEIGHBOUR: 'it returns false'. Refute it at one input. -/
def fnExactValidFoundWrong : ChangeSpec := { name := "fnExactValidFound", fn := fun _ => fun
  | [d] => { results := [.lit (.bool false)], args := [d] }
  | _ => none }
def FnExactValidFoundWrongFalsely : Prop := fnExactValidFoundRow.holds Try.pinned (OpenSpec.ofChange fnExactValidFoundWrong)

/-- 'laws.FnExactSectorCells': WHATEVER THE INPUT: true; the input reads as it did. -/
def fnExactSectorCellsSpec : ChangeSpec := { name := "fnExactSectorCells", fn := fun _ => fun
  | [d1, d2] => { results := [.lit (.bool true)], args := [d1, d2] }
  | _ => none }
def fnExactSectorCellsRow : OpenClaim := { program := "ytmbhehoakpicdaa", sum := "67e625e6862cbec16dab506cd35cc9aea1711516fae38024660e1fe5f0c9c71f", func := "loop.example/g00899/laws.FnExactSectorCells", spec := "fnExactSectorCells", apart := false }
def FnExactSectorCellsSaid : Prop := fnExactSectorCellsRow.holds Try.pinned (OpenSpec.ofChange fnExactSectorCellsSpec)

/-- ITS FALSE NEIGHBOUR: 'it returns false'. Refute it at one input. -/
def fnExactSectorCellsWrong : ChangeSpec := { name := "fnExactSectorCells", fn := fun _ => fun
  | [d1, d2] => { results := [.lit (.bool false)], args := [d1, d2] }
  | _ => none }
def FnExactSectorCellsWrongFalsely : Prop := fnExactSectorCellsRow.holds Try.pinned (OpenSpec.ofChange fnExactSectorCellsWrong)

/-- 'laws.FnExactInterleave': WHATEVER THE INPUT: true; the input reads as it did. -/
def fnExactInterleaveSpec : ChangeSpec := { name := "fnExactInterleave", fn := fun _ => fun
  | [d1, d2] => { results := [.lit (.bool true)], args := [d1, d2] }
  | _ => none }
def fnExactInterleaveRow : OpenClaim := { program := "ytmbhehoakpicdaa", sum := "67e625e6862cbec16dab506cd35cc9aea1711516fae38024660e1fe5f0c9c71f", func := "loop.example/g00899/laws.FnExactInterleave", spec := "fnExactInterleave", apart := false }
def FnExactInterleaveSaid : Prop := fnExactInterleaveRow.holds Try.pinned (OpenSpec.ofChange fnExactInterleaveSpec)

/-- ITS FALSE NEIGHBOUR: 'it returns false'. Refute it at one input. -/
def fnExactInterleaveWrong : ChangeSpec := { name := "fnExactInterleave", fn := fun _ => fun
  | [d1, d2] => { results := [.lit (.bool false)], args := [d1, d2] }
  | _ => none }
def FnExactInterleaveWrongFalsely : Prop := fnExactInterleaveRow.holds Try.pinned (OpenSpec.ofChange fnExactInterleaveWrong)

/-- 'laws.FnExactValidMarks': WHATEVER THE INPUT: true; the input reads as it did. -/
def fnExactValidMarksSpec : ChangeSpec := { name := "fnExactValidMarks", fn := fun _ => fun
  | [d1, d2] => { results := [.lit (.bool true)], args := [d1, d2] }
  | _ => none }
def fnExactValidMarksRow : OpenClaim := { program := "ytmbhehoakpicdaa", sum := "67e625e6862cbec16dab506cd35cc9aea1711516fae38024660e1fe5f0c9c71f", func := "loop.example/g00899/laws.FnExactValidMarks", spec := "fnExactValidMarks", apart := false }
def FnExactValidMarksSaid : Prop := fnExactValidMarksRow.holds Try.pinned (OpenSpec.ofChange fnExactValidMarksSpec)

/-- ITS FALSE NEIGHBOUR: 'it returns false'. Refute it at one input. -/
def fnExactValidMarksWrong : ChangeSpec := { name := "fnExactValidMarks", fn := fun _ => fun
  | [d1, d2] => { results := [.lit (.bool false)], args := [d1, d2] }
  | _ => none }
def FnExactValidMarksWrongFalsely : Prop := fnExactValidMarksRow.holds Try.pinned (OpenSpec.ofChange fnExactValidMarksWrong)

/-- 'laws.FnExactNextMark': WHATEVER THE INPUT: true; the input reads as it did. -/
def fnExactNextMarkSpec : ChangeSpec := { name := "fnExactNextMark", fn := fun _ => fun
  | [d1, d2] => { results := [.lit (.bool true)], args := [d1, d2] }
  | _ => none }
def fnExactNextMarkRow : OpenClaim := { program := "ytmbhehoakpicdaa", sum := "67e625e6862cbec16dab506cd35cc9aea1711516fae38024660e1fe5f0c9c71f", func := "loop.example/g00899/laws.FnExactNextMark", spec := "fnExactNextMark", apart := false }
def FnExactNextMarkSaid : Prop := fnExactNextMarkRow.holds Try.pinned (OpenSpec.ofChange fnExactNextMarkSpec)

/-- ITS FALSE NEIGHBOUR: 'it returns false'. Refute it at one input. -/
def fnExactNextMarkWrong : ChangeSpec := { name := "fnExactNextMark", fn := fun _ => fun
  | [d1, d2] => { results := [.lit (.bool false)], args := [d1, d2] }
  | _ => none }
def FnExactNextMarkWrongFalsely : Prop := fnExactNextMarkRow.holds Try.pinned (OpenSpec.ofChange fnExactNextMarkWrong)

/- THE SECOND FORM. 'bulk': how many values and letters a reading holds, each counted each time it is reached (what is shared counts as often as it is met; a slice's spare places count too). A statement '..UptoSaid' is the law's where the arguments, and the package variables that the reading takes, are together of bulk at most 1048576: NARROWER than '..Said'. Prove '..Said' where nothing that the law and all that it calls make is longer than what came in: it says more and counts as full. Else prove '..UptoSaid'. A law counts once. -/
mutual
def uptoBulk {H : Type} : DataW H → Nat
  | .lit (.string bytes) => bytes.length + 1
  | .lit _ => 1
  | .nil => 1
  | .ptr d => uptoBulk d + 1
  | .slice elems spare => uptoBulkAll elems + uptoBulkAll spare + 1
  | .agg parts => uptoBulkAll parts + 1
  | .iface _ d => uptoBulk d + 1
  | .map entries => uptoBulkEntries entries + 1
  | .held _ => 1
def uptoBulkAll {H : Type} : List (DataW H) → Nat
  | [] => 0
  | d :: r => uptoBulk d + uptoBulkAll r
def uptoBulkEntries {H : Type} : List (Lit × DataW H) → Nat
  | [] => 0
  | x :: r => uptoBulkEntry x + uptoBulkEntries r
def uptoBulkEntry {H : Type} : Lit × DataW H → Nat
  | (.string bytes, d) => bytes.length + uptoBulk d + 1
  | (_, d) => uptoBulk d + 1
 end
def uptoSmall : (H : Type) → List (DataW H) → Bool := fun _ ds => decide (uptoBulkAll ds ≤ 1048576)
def OpenSpec.upto (s : _root_.Go.ChangeSpec) : _root_.Go.OpenSpec := { _root_.Go.OpenSpec.ofChange s with cond := some uptoSmall }

/-- 'laws.FnExactCellsBetween', WHERE WHAT IT READS IS OF BULK AT MOST 1048576: true; the input reads as it did. -/
def fnExactCellsBetweenUptoRow : OpenClaim := { program := "ytmbhehoakpicdaa", sum := "67e625e6862cbec16dab506cd35cc9aea1711516fae38024660e1fe5f0c9c71f", func := "loop.example/g00899/laws.FnExactCellsBetween", spec := "fnExactCellsBetween", apart := false, narrowed := true }
def FnExactCellsBetweenUptoSaid : Prop := fnExactCellsBetweenUptoRow.holds Try.pinned (OpenSpec.upto fnExactCellsBetweenSpec)

/-- 'laws.FnExactMarkByte', WHERE WHAT IT READS IS OF BULK AT MOST 1048576: true; the input reads as it did. -/
def fnExactMarkByteUptoRow : OpenClaim := { program := "ytmbhehoakpicdaa", sum := "67e625e6862cbec16dab506cd35cc9aea1711516fae38024660e1fe5f0c9c71f", func := "loop.example/g00899/laws.FnExactMarkByte", spec := "fnExactMarkByte", apart := false, narrowed := true }
def FnExactMarkByteUptoSaid : Prop := fnExactMarkByteUptoRow.holds Try.pinned (OpenSpec.upto fnExactMarkByteSpec)

/-- 'laws.FnExactValidSectorSpec', WHERE WHAT IT READS IS OF BULK AT MOST 1048576: true; the input reads as it did. -/
def fnExactValidSectorSpecUptoRow : OpenClaim := { program := "ytmbhehoakpicdaa", sum := "67e625e6862cbec16dab506cd35cc9aea1711516fae38024660e1fe5f0c9c71f", func := "loop.example/g00899/laws.FnExactValidSectorSpec", spec := "fnExactValidSectorSpec", apart := false, narrowed := true }
def FnExactValidSectorSpecUptoSaid : Prop := fnExactValidSectorSpecUptoRow.holds Try.pinned (OpenSpec.upto fnExactValidSectorSpecSpec)

/-- 'laws.FnExactValidFeature', WHERE WHAT IT READS IS OF BULK AT MOST 1048576: true; the input reads as it did. -/
def fnExactValidFeatureUptoRow : OpenClaim := { program := "ytmbhehoakpicdaa", sum := "67e625e6862cbec16dab506cd35cc9aea1711516fae38024660e1fe5f0c9c71f", func := "loop.example/g00899/laws.FnExactValidFeature", spec := "fnExactValidFeature", apart := false, narrowed := true }
def FnExactValidFeatureUptoSaid : Prop := fnExactValidFeatureUptoRow.holds Try.pinned (OpenSpec.upto fnExactValidFeatureSpec)

/-- 'laws.FnExactValidFound', WHERE WHAT IT READS IS OF BULK AT MOST 1048576: true; the input reads as it did. -/
def fnExactValidFoundUptoRow : OpenClaim := { program := "ytmbhehoakpicdaa", sum := "67e625e6862cbec16dab506cd35cc9aea1711516fae38024660e1fe5f0c9c71f", func := "loop.example/g00899/laws.FnExactValidFound", spec := "fnExactValidFound", apart := false, narrowed := true }
def FnExactValidFoundUptoSaid : Prop := fnExactValidFoundUptoRow.holds Try.pinned (OpenSpec.upto fnExactValidFoundSpec)

/-- 'laws.FnExactSectorCells', WHERE WHAT IT READS IS OF BULK AT MOST 1048576: true; the input reads as it did. -/
def fnExactSectorCellsUptoRow : OpenClaim := { program := "ytmbhehoakpicdaa", sum := "67e625e6862cbec16dab506cd35cc9aea1711516fae38024660e1fe5f0c9c71f", func := "loop.example/g00899/laws.FnExactSectorCells", spec := "fnExactSectorCells", apart := false, narrowed := true }
def FnExactSectorCellsUptoSaid : Prop := fnExactSectorCellsUptoRow.holds Try.pinned (OpenSpec.upto fnExactSectorCellsSpec)

/-- 'laws.FnExactInterleave', WHERE WHAT IT READS IS OF BULK AT MOST 1048576: true; the input reads as it did. -/
def fnExactInterleaveUptoRow : OpenClaim := { program := "ytmbhehoakpicdaa", sum := "67e625e6862cbec16dab506cd35cc9aea1711516fae38024660e1fe5f0c9c71f", func := "loop.example/g00899/laws.FnExactInterleave", spec := "fnExactInterleave", apart := false, narrowed := true }
def FnExactInterleaveUptoSaid : Prop := fnExactInterleaveUptoRow.holds Try.pinned (OpenSpec.upto fnExactInterleaveSpec)

/-- 'laws.FnExactValidMarks', WHERE WHAT IT READS IS OF BULK AT MOST 1048576: true; the input reads as it did. -/
def fnExactValidMarksUptoRow : OpenClaim := { program := "ytmbhehoakpicdaa", sum := "67e625e6862cbec16dab506cd35cc9aea1711516fae38024660e1fe5f0c9c71f", func := "loop.example/g00899/laws.FnExactValidMarks", spec := "fnExactValidMarks", apart := false, narrowed := true }
def FnExactValidMarksUptoSaid : Prop := fnExactValidMarksUptoRow.holds Try.pinned (OpenSpec.upto fnExactValidMarksSpec)

/-- 'laws.FnExactNextMark', WHERE WHAT IT READS IS OF BULK AT MOST 1048576: true; the input reads as it did. -/
def fnExactNextMarkUptoRow : OpenClaim := { program := "ytmbhehoakpicdaa", sum := "67e625e6862cbec16dab506cd35cc9aea1711516fae38024660e1fe5f0c9c71f", func := "loop.example/g00899/laws.FnExactNextMark", spec := "fnExactNextMark", apart := false, narrowed := true }
def FnExactNextMarkUptoSaid : Prop := fnExactNextMarkUptoRow.holds Try.pinned (OpenSpec.upto fnExactNextMarkSpec)

end Rows
end Go.Proofs.Ytmbhehoakpicdaa
