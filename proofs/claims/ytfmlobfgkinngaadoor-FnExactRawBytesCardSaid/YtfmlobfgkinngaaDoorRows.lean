/-
  NARROWER THAN 'FOR EVERY INPUT', by the rows' own cells (each row's printed sentence says how): FnExactRepairGcr: laid · FnExactRawBytes: laid · FnExactMarkCells: laid · FnExactLongestOnes: laid · FnFm: laid · FnGcrRepair: laid · FnExactLongFeature: laid · FnExactSliceCells: laid · FnExactFindPattern: laid · FnExactValidRevolutions: laid · FnExactMajorityCells: laid · FnExactWeakCells: laid.
  DERIVED. THE GIVEN ROWS OF THIS SEAT. 12 by the template 'for every input the law returns true; each argument reads behind the call as it read before'; 0 by the template 'total and deterministic' (their statements: YtfmlobfgkinngaaDoorTotals.lean).
  GIVEN WITH THE SEED: the statements are not yours to turn. If you find one false, say at which input.
  Laid BY PROGRAM, IN A SANDBOX (cutbox-rows.mjs): the forced cells as the released guide's own fill.sh prints them over the translation 3aceceff6d1aa7aa… (all of the seat's roots in one cut). By AI agents, Wed Nov 11 2026. No macro, syntax, notation, axiom, sorry.
-/
import Derived.Test.YtfmlobfgkinngaaDoorChecked
import GoSem.PinnedTables
import GoSem.Claim
import GoSem.ClaimJoined
import GoSem.ClaimMapViews
import Derived.JoinedTies
import Derived.KernelRfl
namespace Go.Proofs.YtfmlobfgkinngaaDoor
/- THE CELL 'sum', in the pinned program and in every row, IS THE sha256 OF THE DUMP (.gsa) THAT YtfmlobfgkinngaaDoorProg.lean LOADS. Nothing in Lean hashes anything: it is a label: what it is worth is what the hold of that sum in a sandbox is worth. -/
noncomputable def Tryd.pinned : Pinned := { name := "ytfmlobfgkinngaadoor", sum := "3aceceff6d1aa7aa121edca3336368f3d3876f30529b45444e1712bd6ba37247", checked := Tryd.checked }
namespace Rows
def none {H : Type} : Left H := { results := [], args := [] }

/- WHAT THE LISTED PACKAGE-LEVEL VARIABLES READ AS WHEN THE CALL BEGINS. Each datum BY PROGRAM (the guide's laid-datum.mjs) off the statement by which the dump's own 'gosem.cut.vars' lays the variable. In a bare row this is a premise. The card (YtfmlobfgkinngaaDoorCards.lean) ties it to the program's text. -/
def laid_unicode_utf8_acceptRanges {H : Type} : DataW H := .agg [.agg [.lit (.int .u8 128), .lit (.int .u8 191)], .agg [.lit (.int .u8 160), .lit (.int .u8 191)], .agg [.lit (.int .u8 128), .lit (.int .u8 159)], .agg [.lit (.int .u8 144), .lit (.int .u8 191)], .agg [.lit (.int .u8 128), .lit (.int .u8 143)], .agg [.lit (.int .u8 0), .lit (.int .u8 0)], .agg [.lit (.int .u8 0), .lit (.int .u8 0)], .agg [.lit (.int .u8 0), .lit (.int .u8 0)], .agg [.lit (.int .u8 0), .lit (.int .u8 0)], .agg [.lit (.int .u8 0), .lit (.int .u8 0)], .agg [.lit (.int .u8 0), .lit (.int .u8 0)], .agg [.lit (.int .u8 0), .lit (.int .u8 0)], .agg [.lit (.int .u8 0), .lit (.int .u8 0)], .agg [.lit (.int .u8 0), .lit (.int .u8 0)], .agg [.lit (.int .u8 0), .lit (.int .u8 0)], .agg [.lit (.int .u8 0), .lit (.int .u8 0)]]
def laid_loop_example_g00899_impl_gcrTable {H : Type} : DataW H := .agg [.lit (.string [48, 49, 48, 49, 48]), .lit (.string [48, 49, 48, 49, 49]), .lit (.string [49, 48, 48, 49, 48]), .lit (.string [49, 48, 48, 49, 49]), .lit (.string [48, 49, 49, 49, 48]), .lit (.string [48, 49, 49, 49, 49]), .lit (.string [49, 48, 49, 49, 48]), .lit (.string [49, 48, 49, 49, 49]), .lit (.string [48, 49, 48, 48, 49]), .lit (.string [49, 49, 48, 48, 49]), .lit (.string [49, 49, 48, 49, 48]), .lit (.string [49, 49, 48, 49, 49]), .lit (.string [48, 49, 49, 48, 49]), .lit (.string [49, 49, 49, 48, 49]), .lit (.string [49, 49, 49, 49, 48]), .lit (.string [49, 48, 49, 48, 49])]
/-- One of Go's own tables, pinned by name: the form's constant. -/
def laid_unicode_utf8_first : DataW Unit := Go.Pinned.utf8First

/-- 'laws.FnExactRepairGcr': WHATEVER THE INPUT: true; the input reads as it did. -/
def fnExactRepairGcrSpec : ChangeSpec := { name := "fnExactRepairGcr", vars := ["loop.example/g00899/impl.gcrTable"], fn := fun _ => fun
  | [d, g1] => { results := [.lit (.bool true)], args := [d], vars := [g1] }
  | _ => none }
def fnExactRepairGcrRow : OpenClaim := { program := "ytfmlobfgkinngaadoor", sum := "3aceceff6d1aa7aa121edca3336368f3d3876f30529b45444e1712bd6ba37247", func := "loop.example/g00899/laws.FnExactRepairGcr", spec := "fnExactRepairGcr", inPlace := ["internal/bytealg.IndexByteString", "internal/bytealg.IndexString", "internal/abi.NoEscape"], named := ["loop.example/g00899/impl.gcrTable", "unicode/utf8.first", "unicode/utf8.acceptRanges", "internal/bytealg.MaxLen"], apart := false, laid := [("unicode/utf8.acceptRanges", laid_unicode_utf8_acceptRanges), ("loop.example/g00899/impl.gcrTable", laid_loop_example_g00899_impl_gcrTable), ("unicode/utf8.first", laid_unicode_utf8_first)] }
def FnExactRepairGcrSaid : Prop := fnExactRepairGcrRow.holds Tryd.pinned (OpenSpec.ofChange fnExactRepairGcrSpec)

/-- ITS FALSE NEIGHBOUR: 'it returns false'. Refute it at one input. -/
def fnExactRepairGcrWrong : ChangeSpec := { name := "fnExactRepairGcr", vars := ["loop.example/g00899/impl.gcrTable"], fn := fun _ => fun
  | [d, g1] => { results := [.lit (.bool false)], args := [d], vars := [g1] }
  | _ => none }
def FnExactRepairGcrWrongFalsely : Prop := fnExactRepairGcrRow.holds Tryd.pinned (OpenSpec.ofChange fnExactRepairGcrWrong)

/-- 'laws.FnExactRawBytes': WHATEVER THE INPUT: true; the input reads as it did. -/
def fnExactRawBytesSpec : ChangeSpec := { name := "fnExactRawBytes", vars := ["loop.example/g00899/impl.gcrTable"], fn := fun _ => fun
  | [d1, d2, g1] => { results := [.lit (.bool true)], args := [d1, d2], vars := [g1] }
  | _ => none }
def fnExactRawBytesRow : OpenClaim := { program := "ytfmlobfgkinngaadoor", sum := "3aceceff6d1aa7aa121edca3336368f3d3876f30529b45444e1712bd6ba37247", func := "loop.example/g00899/laws.FnExactRawBytes", spec := "fnExactRawBytes", inPlace := ["internal/bytealg.IndexByteString", "internal/bytealg.IndexString"], named := ["unicode/utf8.first", "unicode/utf8.acceptRanges", "loop.example/g00899/impl.gcrTable", "internal/bytealg.MaxLen"], apart := false, laid := [("unicode/utf8.acceptRanges", laid_unicode_utf8_acceptRanges), ("loop.example/g00899/impl.gcrTable", laid_loop_example_g00899_impl_gcrTable), ("unicode/utf8.first", laid_unicode_utf8_first)] }
def FnExactRawBytesSaid : Prop := fnExactRawBytesRow.holds Tryd.pinned (OpenSpec.ofChange fnExactRawBytesSpec)

/-- ITS FALSE NEIGHBOUR: 'it returns false'. Refute it at one input. -/
def fnExactRawBytesWrong : ChangeSpec := { name := "fnExactRawBytes", vars := ["loop.example/g00899/impl.gcrTable"], fn := fun _ => fun
  | [d1, d2, g1] => { results := [.lit (.bool false)], args := [d1, d2], vars := [g1] }
  | _ => none }
def FnExactRawBytesWrongFalsely : Prop := fnExactRawBytesRow.holds Tryd.pinned (OpenSpec.ofChange fnExactRawBytesWrong)

/-- 'laws.FnExactMarkCells': WHATEVER THE INPUT: true; the input reads as it did. -/
def fnExactMarkCellsSpec : ChangeSpec := { name := "fnExactMarkCells", vars := ["loop.example/g00899/impl.gcrTable"], fn := fun _ => fun
  | [d1, d2, g1] => { results := [.lit (.bool true)], args := [d1, d2], vars := [g1] }
  | _ => none }
def fnExactMarkCellsRow : OpenClaim := { program := "ytfmlobfgkinngaadoor", sum := "3aceceff6d1aa7aa121edca3336368f3d3876f30529b45444e1712bd6ba37247", func := "loop.example/g00899/laws.FnExactMarkCells", spec := "fnExactMarkCells", inPlace := ["internal/abi.NoEscape", "internal/bytealg.MakeNoZero"], named := ["loop.example/g00899/impl.gcrTable"], apart := false, laid := [("loop.example/g00899/impl.gcrTable", laid_loop_example_g00899_impl_gcrTable)] }
def FnExactMarkCellsSaid : Prop := fnExactMarkCellsRow.holds Tryd.pinned (OpenSpec.ofChange fnExactMarkCellsSpec)

/-- ITS FALSE NEIGHBOUR: 'it returns false'. Refute it at one input. -/
def fnExactMarkCellsWrong : ChangeSpec := { name := "fnExactMarkCells", vars := ["loop.example/g00899/impl.gcrTable"], fn := fun _ => fun
  | [d1, d2, g1] => { results := [.lit (.bool false)], args := [d1, d2], vars := [g1] }
  | _ => none }
def FnExactMarkCellsWrongFalsely : Prop := fnExactMarkCellsRow.holds Tryd.pinned (OpenSpec.ofChange fnExactMarkCellsWrong)

/-- 'laws.FnExactLongestOnes': WHATEVER THE INPUT: true; the input reads as it did. -/
def fnExactLongestOnesSpec : ChangeSpec := { name := "fnExactLongestOnes", fn := fun _ => fun
  | [d] => { results := [.lit (.bool true)], args := [d] }
  | _ => none }
def fnExactLongestOnesRow : OpenClaim := { program := "ytfmlobfgkinngaadoor", sum := "3aceceff6d1aa7aa121edca3336368f3d3876f30529b45444e1712bd6ba37247", func := "loop.example/g00899/laws.FnExactLongestOnes", spec := "fnExactLongestOnes", inPlace := ["internal/bytealg.IndexByteString", "internal/bytealg.IndexString", "internal/bytealg.CountString"], named := ["unicode/utf8.first", "unicode/utf8.acceptRanges", "internal/bytealg.MaxLen"], apart := false, laid := [("unicode/utf8.acceptRanges", laid_unicode_utf8_acceptRanges), ("unicode/utf8.first", laid_unicode_utf8_first)] }
def FnExactLongestOnesSaid : Prop := fnExactLongestOnesRow.holds Tryd.pinned (OpenSpec.ofChange fnExactLongestOnesSpec)

/-- ITS FALSE NEIGHBOUR: 'it returns false'. Refute it at one input. -/
def fnExactLongestOnesWrong : ChangeSpec := { name := "fnExactLongestOnes", fn := fun _ => fun
  | [d] => { results := [.lit (.bool false)], args := [d] }
  | _ => none }
def FnExactLongestOnesWrongFalsely : Prop := fnExactLongestOnesRow.holds Tryd.pinned (OpenSpec.ofChange fnExactLongestOnesWrong)

/-- 'laws.FnFm': WHATEVER THE INPUT: true; the input reads as it did. -/
def fnFmSpec : ChangeSpec := { name := "fnFm", fn := fun _ => fun
  | [d1, d2] => { results := [.lit (.bool true)], args := [d1, d2] }
  | _ => none }
def fnFmRow : OpenClaim := { program := "ytfmlobfgkinngaadoor", sum := "3aceceff6d1aa7aa121edca3336368f3d3876f30529b45444e1712bd6ba37247", func := "loop.example/g00899/laws.FnFm", spec := "fnFm", inPlace := ["internal/bytealg.IndexByteString", "internal/bytealg.IndexString"], named := ["unicode/utf8.first", "unicode/utf8.acceptRanges", "internal/bytealg.MaxLen"], apart := false, laid := [("unicode/utf8.acceptRanges", laid_unicode_utf8_acceptRanges), ("unicode/utf8.first", laid_unicode_utf8_first)] }
def FnFmSaid : Prop := fnFmRow.holds Tryd.pinned (OpenSpec.ofChange fnFmSpec)

/-- ITS FALSE NEIGHBOUR: 'it returns false'. Refute it at one input. -/
def fnFmWrong : ChangeSpec := { name := "fnFm", fn := fun _ => fun
  | [d1, d2] => { results := [.lit (.bool false)], args := [d1, d2] }
  | _ => none }
def FnFmWrongFalsely : Prop := fnFmRow.holds Tryd.pinned (OpenSpec.ofChange fnFmWrong)

/-- 'laws.FnGcrRepair': WHATEVER THE INPUT: true; the input reads as it did. -/
def fnGcrRepairSpec : ChangeSpec := { name := "fnGcrRepair", vars := ["loop.example/g00899/impl.gcrTable"], fn := fun _ => fun
  | [d1, d2, g1] => { results := [.lit (.bool true)], args := [d1, d2], vars := [g1] }
  | _ => none }
def fnGcrRepairRow : OpenClaim := { program := "ytfmlobfgkinngaadoor", sum := "3aceceff6d1aa7aa121edca3336368f3d3876f30529b45444e1712bd6ba37247", func := "loop.example/g00899/laws.FnGcrRepair", spec := "fnGcrRepair", inPlace := ["internal/abi.NoEscape", "internal/bytealg.IndexByteString", "internal/bytealg.IndexString"], named := ["loop.example/g00899/impl.gcrTable", "unicode/utf8.first", "unicode/utf8.acceptRanges", "internal/bytealg.MaxLen"], apart := false, laid := [("unicode/utf8.acceptRanges", laid_unicode_utf8_acceptRanges), ("loop.example/g00899/impl.gcrTable", laid_loop_example_g00899_impl_gcrTable), ("unicode/utf8.first", laid_unicode_utf8_first)] }
def FnGcrRepairSaid : Prop := fnGcrRepairRow.holds Tryd.pinned (OpenSpec.ofChange fnGcrRepairSpec)

/-- ITS FALSE NEIGHBOUR: 'it returns false'. Refute it at one input. -/
def fnGcrRepairWrong : ChangeSpec := { name := "fnGcrRepair", vars := ["loop.example/g00899/impl.gcrTable"], fn := fun _ => fun
  | [d1, d2, g1] => { results := [.lit (.bool false)], args := [d1, d2], vars := [g1] }
  | _ => none }
def FnGcrRepairWrongFalsely : Prop := fnGcrRepairRow.holds Tryd.pinned (OpenSpec.ofChange fnGcrRepairWrong)

/-- 'laws.FnExactLongFeature': WHATEVER THE INPUT: true; the input reads as it did. -/
def fnExactLongFeatureSpec : ChangeSpec := { name := "fnExactLongFeature", fn := fun _ => fun
  | [d1, d2] => { results := [.lit (.bool true)], args := [d1, d2] }
  | _ => none }
def fnExactLongFeatureRow : OpenClaim := { program := "ytfmlobfgkinngaadoor", sum := "3aceceff6d1aa7aa121edca3336368f3d3876f30529b45444e1712bd6ba37247", func := "loop.example/g00899/laws.FnExactLongFeature", spec := "fnExactLongFeature", inPlace := ["internal/bytealg.IndexByteString", "internal/bytealg.IndexString"], named := ["unicode/utf8.first", "unicode/utf8.acceptRanges", "internal/bytealg.MaxLen"], apart := false, laid := [("unicode/utf8.acceptRanges", laid_unicode_utf8_acceptRanges), ("unicode/utf8.first", laid_unicode_utf8_first)] }
def FnExactLongFeatureSaid : Prop := fnExactLongFeatureRow.holds Tryd.pinned (OpenSpec.ofChange fnExactLongFeatureSpec)

/-- ITS FALSE NEIGHBOUR: 'it returns false'. Refute it at one input. -/
def fnExactLongFeatureWrong : ChangeSpec := { name := "fnExactLongFeature", fn := fun _ => fun
  | [d1, d2] => { results := [.lit (.bool false)], args := [d1, d2] }
  | _ => none }
def FnExactLongFeatureWrongFalsely : Prop := fnExactLongFeatureRow.holds Tryd.pinned (OpenSpec.ofChange fnExactLongFeatureWrong)

/-- 'laws.FnExactSliceCells': WHATEVER THE INPUT: true; the input reads as it did. -/
def fnExactSliceCellsSpec : ChangeSpec := { name := "fnExactSliceCells", fn := fun _ => fun
  | [d1, d2, d3] => { results := [.lit (.bool true)], args := [d1, d2, d3] }
  | _ => none }
def fnExactSliceCellsRow : OpenClaim := { program := "ytfmlobfgkinngaadoor", sum := "3aceceff6d1aa7aa121edca3336368f3d3876f30529b45444e1712bd6ba37247", func := "loop.example/g00899/laws.FnExactSliceCells", spec := "fnExactSliceCells", inPlace := ["internal/bytealg.IndexByteString", "internal/bytealg.IndexString"], named := ["unicode/utf8.first", "unicode/utf8.acceptRanges", "internal/bytealg.MaxLen"], apart := false, laid := [("unicode/utf8.acceptRanges", laid_unicode_utf8_acceptRanges), ("unicode/utf8.first", laid_unicode_utf8_first)] }
def FnExactSliceCellsSaid : Prop := fnExactSliceCellsRow.holds Tryd.pinned (OpenSpec.ofChange fnExactSliceCellsSpec)

/-- ITS FALSE NEIGHBOUR: 'it returns false'. Refute it at one input. -/
def fnExactSliceCellsWrong : ChangeSpec := { name := "fnExactSliceCells", fn := fun _ => fun
  | [d1, d2, d3] => { results := [.lit (.bool false)], args := [d1, d2, d3] }
  | _ => none }
def FnExactSliceCellsWrongFalsely : Prop := fnExactSliceCellsRow.holds Tryd.pinned (OpenSpec.ofChange fnExactSliceCellsWrong)

/-- 'laws.FnExactFindPattern': WHATEVER THE INPUT: true; the input reads as it did. -/
def fnExactFindPatternSpec : ChangeSpec := { name := "fnExactFindPattern", fn := fun _ => fun
  | [d1, d2] => { results := [.lit (.bool true)], args := [d1, d2] }
  | _ => none }
def fnExactFindPatternRow : OpenClaim := { program := "ytfmlobfgkinngaadoor", sum := "3aceceff6d1aa7aa121edca3336368f3d3876f30529b45444e1712bd6ba37247", func := "loop.example/g00899/laws.FnExactFindPattern", spec := "fnExactFindPattern", inPlace := ["internal/bytealg.IndexByteString", "internal/bytealg.IndexString"], named := ["unicode/utf8.first", "unicode/utf8.acceptRanges", "internal/bytealg.MaxLen"], apart := false, laid := [("unicode/utf8.acceptRanges", laid_unicode_utf8_acceptRanges), ("unicode/utf8.first", laid_unicode_utf8_first)] }
def FnExactFindPatternSaid : Prop := fnExactFindPatternRow.holds Tryd.pinned (OpenSpec.ofChange fnExactFindPatternSpec)

/-- ITS FALSE NEIGHBOUR: 'it returns false'. Refute it at one input. -/
def fnExactFindPatternWrong : ChangeSpec := { name := "fnExactFindPattern", fn := fun _ => fun
  | [d1, d2] => { results := [.lit (.bool false)], args := [d1, d2] }
  | _ => none }
def FnExactFindPatternWrongFalsely : Prop := fnExactFindPatternRow.holds Tryd.pinned (OpenSpec.ofChange fnExactFindPatternWrong)

/-- 'laws.FnExactValidRevolutions': WHATEVER THE INPUT: true; the input reads as it did. -/
def fnExactValidRevolutionsSpec : ChangeSpec := { name := "fnExactValidRevolutions", fn := fun _ => fun
  | [d] => { results := [.lit (.bool true)], args := [d] }
  | _ => none }
def fnExactValidRevolutionsRow : OpenClaim := { program := "ytfmlobfgkinngaadoor", sum := "3aceceff6d1aa7aa121edca3336368f3d3876f30529b45444e1712bd6ba37247", func := "loop.example/g00899/laws.FnExactValidRevolutions", spec := "fnExactValidRevolutions", inPlace := ["internal/bytealg.IndexByteString", "internal/bytealg.IndexString"], named := ["unicode/utf8.first", "unicode/utf8.acceptRanges", "internal/bytealg.MaxLen"], apart := false, laid := [("unicode/utf8.acceptRanges", laid_unicode_utf8_acceptRanges), ("unicode/utf8.first", laid_unicode_utf8_first)] }
def FnExactValidRevolutionsSaid : Prop := fnExactValidRevolutionsRow.holds Tryd.pinned (OpenSpec.ofChange fnExactValidRevolutionsSpec)

/-- ITS FALSE NEIGHBOUR: 'it returns false'. Refute it at one input. -/
def fnExactValidRevolutionsWrong : ChangeSpec := { name := "fnExactValidRevolutions", fn := fun _ => fun
  | [d] => { results := [.lit (.bool false)], args := [d] }
  | _ => none }
def FnExactValidRevolutionsWrongFalsely : Prop := fnExactValidRevolutionsRow.holds Tryd.pinned (OpenSpec.ofChange fnExactValidRevolutionsWrong)

/-- 'laws.FnExactMajorityCells': WHATEVER THE INPUT: true; the input reads as it did. -/
def fnExactMajorityCellsSpec : ChangeSpec := { name := "fnExactMajorityCells", fn := fun _ => fun
  | [d] => { results := [.lit (.bool true)], args := [d] }
  | _ => none }
def fnExactMajorityCellsRow : OpenClaim := { program := "ytfmlobfgkinngaadoor", sum := "3aceceff6d1aa7aa121edca3336368f3d3876f30529b45444e1712bd6ba37247", func := "loop.example/g00899/laws.FnExactMajorityCells", spec := "fnExactMajorityCells", inPlace := ["internal/bytealg.IndexByteString", "internal/bytealg.IndexString"], named := ["unicode/utf8.first", "unicode/utf8.acceptRanges", "internal/bytealg.MaxLen"], apart := false, laid := [("unicode/utf8.acceptRanges", laid_unicode_utf8_acceptRanges), ("unicode/utf8.first", laid_unicode_utf8_first)] }
def FnExactMajorityCellsSaid : Prop := fnExactMajorityCellsRow.holds Tryd.pinned (OpenSpec.ofChange fnExactMajorityCellsSpec)

/-- ITS FALSE NEIGHBOUR: 'it returns false'. Refute it at one input. -/
def fnExactMajorityCellsWrong : ChangeSpec := { name := "fnExactMajorityCells", fn := fun _ => fun
  | [d] => { results := [.lit (.bool false)], args := [d] }
  | _ => none }
def FnExactMajorityCellsWrongFalsely : Prop := fnExactMajorityCellsRow.holds Tryd.pinned (OpenSpec.ofChange fnExactMajorityCellsWrong)

/-- 'laws.FnExactWeakCells': WHATEVER THE INPUT: true; the input reads as it did. -/
def fnExactWeakCellsSpec : ChangeSpec := { name := "fnExactWeakCells", fn := fun _ => fun
  | [d] => { results := [.lit (.bool true)], args := [d] }
  | _ => none }
def fnExactWeakCellsRow : OpenClaim := { program := "ytfmlobfgkinngaadoor", sum := "3aceceff6d1aa7aa121edca3336368f3d3876f30529b45444e1712bd6ba37247", func := "loop.example/g00899/laws.FnExactWeakCells", spec := "fnExactWeakCells", inPlace := ["internal/bytealg.IndexByteString", "internal/bytealg.IndexString"], named := ["unicode/utf8.first", "unicode/utf8.acceptRanges", "internal/bytealg.MaxLen"], apart := false, laid := [("unicode/utf8.acceptRanges", laid_unicode_utf8_acceptRanges), ("unicode/utf8.first", laid_unicode_utf8_first)] }
def FnExactWeakCellsSaid : Prop := fnExactWeakCellsRow.holds Tryd.pinned (OpenSpec.ofChange fnExactWeakCellsSpec)

/-- ITS FALSE NEIGHBOUR: 'it returns false'. Refute it at one input. -/
def fnExactWeakCellsWrong : ChangeSpec := { name := "fnExactWeakCells", fn := fun _ => fun
  | [d] => { results := [.lit (.bool false)], args := [d] }
  | _ => none }
def FnExactWeakCellsWrongFalsely : Prop := fnExactWeakCellsRow.holds Tryd.pinned (OpenSpec.ofChange fnExactWeakCellsWrong)

/- THE SECOND FORM. 'bulk': how many values and letters a reading holds, each counted each time it is reached (what is shared counts as often as it is met; a slice's spare places count too). A statement '..UptoSaid' is the law's where the arguments, and the package variables that the reading takes, are together of bulk at most 1048576: NARROWER than '..Said'. Prove '..Said' where nothing that the law and all that it calls make is longer than what came in: it says more and counts as full. Else prove '..UptoSaid'. A law counts once. -/
mutual
def uptoBulk {H : Type} : DataW H → Nat
  | .lit (.string bytes) => bytes.length + 1
  | .lit _ => 1
  | .nil => 1
  | .ptr d => uptoBulk d + 1
  | .slice elems spare => uptoBulkAll elems + uptoBulkAll spare + 1
  | .agg parts => uptoBulkAll parts + 1
  | .iface _ d => uptoBulk d + 1
  | .map entries => uptoBulkEntries entries + 1
  | .held _ => 1
def uptoBulkAll {H : Type} : List (DataW H) → Nat
  | [] => 0
  | d :: r => uptoBulk d + uptoBulkAll r
def uptoBulkEntries {H : Type} : List (Lit × DataW H) → Nat
  | [] => 0
  | x :: r => uptoBulkEntry x + uptoBulkEntries r
def uptoBulkEntry {H : Type} : Lit × DataW H → Nat
  | (.string bytes, d) => bytes.length + uptoBulk d + 1
  | (_, d) => uptoBulk d + 1
 end
def uptoSmall : (H : Type) → List (DataW H) → Bool := fun _ ds => decide (uptoBulkAll ds ≤ 1048576)
def OpenSpec.upto (s : _root_.Go.ChangeSpec) : _root_.Go.OpenSpec := { _root_.Go.OpenSpec.ofChange s with cond := some uptoSmall }

/-- 'laws.FnExactRepairGcr', WHERE WHAT IT READS IS OF BULK AT MOST 1048576: true; the input reads as it did. -/
def fnExactRepairGcrUptoRow : OpenClaim := { program := "ytfmlobfgkinngaadoor", sum := "3aceceff6d1aa7aa121edca3336368f3d3876f30529b45444e1712bd6ba37247", func := "loop.example/g00899/laws.FnExactRepairGcr", spec := "fnExactRepairGcr", inPlace := ["internal/bytealg.IndexByteString", "internal/bytealg.IndexString", "internal/abi.NoEscape"], named := ["loop.example/g00899/impl.gcrTable", "unicode/utf8.first", "unicode/utf8.acceptRanges", "internal/bytealg.MaxLen"], apart := false, laid := [("unicode/utf8.acceptRanges", laid_unicode_utf8_acceptRanges), ("loop.example/g00899/impl.gcrTable", laid_loop_example_g00899_impl_gcrTable), ("unicode/utf8.first", laid_unicode_utf8_first)], narrowed := true }
def FnExactRepairGcrUptoSaid : Prop := fnExactRepairGcrUptoRow.holds Tryd.pinned (OpenSpec.upto fnExactRepairGcrSpec)

/-- 'laws.FnExactRawBytes', WHERE WHAT IT READS IS OF BULK AT MOST 1048576: true; the input reads as it did. -/
def fnExactRawBytesUptoRow : OpenClaim := { program := "ytfmlobfgkinngaadoor", sum := "3aceceff6d1aa7aa121edca3336368f3d3876f30529b45444e1712bd6ba37247", func := "loop.example/g00899/laws.FnExactRawBytes", spec := "fnExactRawBytes", inPlace := ["internal/bytealg.IndexByteString", "internal/bytealg.IndexString"], named := ["unicode/utf8.first", "unicode/utf8.acceptRanges", "loop.example/g00899/impl.gcrTable", "internal/bytealg.MaxLen"], apart := false, laid := [("unicode/utf8.acceptRanges", laid_unicode_utf8_acceptRanges), ("loop.example/g00899/impl.gcrTable", laid_loop_example_g00899_impl_gcrTable), ("unicode/utf8.first", laid_unicode_utf8_first)], narrowed := true }
def FnExactRawBytesUptoSaid : Prop := fnExactRawBytesUptoRow.holds Tryd.pinned (OpenSpec.upto fnExactRawBytesSpec)

/-- 'laws.FnExactMarkCells', WHERE WHAT IT READS IS OF BULK AT MOST 1048576: true; the input reads as it did. -/
def fnExactMarkCellsUptoRow : OpenClaim := { program := "ytfmlobfgkinngaadoor", sum := "3aceceff6d1aa7aa121edca3336368f3d3876f30529b45444e1712bd6ba37247", func := "loop.example/g00899/laws.FnExactMarkCells", spec := "fnExactMarkCells", inPlace := ["internal/abi.NoEscape", "internal/bytealg.MakeNoZero"], named := ["loop.example/g00899/impl.gcrTable"], apart := false, laid := [("loop.example/g00899/impl.gcrTable", laid_loop_example_g00899_impl_gcrTable)], narrowed := true }
def FnExactMarkCellsUptoSaid : Prop := fnExactMarkCellsUptoRow.holds Tryd.pinned (OpenSpec.upto fnExactMarkCellsSpec)

/-- 'laws.FnExactLongestOnes', WHERE WHAT IT READS IS OF BULK AT MOST 1048576: true; the input reads as it did. -/
def fnExactLongestOnesUptoRow : OpenClaim := { program := "ytfmlobfgkinngaadoor", sum := "3aceceff6d1aa7aa121edca3336368f3d3876f30529b45444e1712bd6ba37247", func := "loop.example/g00899/laws.FnExactLongestOnes", spec := "fnExactLongestOnes", inPlace := ["internal/bytealg.IndexByteString", "internal/bytealg.IndexString", "internal/bytealg.CountString"], named := ["unicode/utf8.first", "unicode/utf8.acceptRanges", "internal/bytealg.MaxLen"], apart := false, laid := [("unicode/utf8.acceptRanges", laid_unicode_utf8_acceptRanges), ("unicode/utf8.first", laid_unicode_utf8_first)], narrowed := true }
def FnExactLongestOnesUptoSaid : Prop := fnExactLongestOnesUptoRow.holds Tryd.pinned (OpenSpec.upto fnExactLongestOnesSpec)

/-- 'laws.FnFm', WHERE WHAT IT READS IS OF BULK AT MOST 1048576: true; the input reads as it did. -/
def fnFmUptoRow : OpenClaim := { program := "ytfmlobfgkinngaadoor", sum := "3aceceff6d1aa7aa121edca3336368f3d3876f30529b45444e1712bd6ba37247", func := "loop.example/g00899/laws.FnFm", spec := "fnFm", inPlace := ["internal/bytealg.IndexByteString", "internal/bytealg.IndexString"], named := ["unicode/utf8.first", "unicode/utf8.acceptRanges", "internal/bytealg.MaxLen"], apart := false, laid := [("unicode/utf8.acceptRanges", laid_unicode_utf8_acceptRanges), ("unicode/utf8.first", laid_unicode_utf8_first)], narrowed := true }
def FnFmUptoSaid : Prop := fnFmUptoRow.holds Tryd.pinned (OpenSpec.upto fnFmSpec)

/-- 'laws.FnGcrRepair', WHERE WHAT IT READS IS OF BULK AT MOST 1048576: true; the input reads as it did. -/
def fnGcrRepairUptoRow : OpenClaim := { program := "ytfmlobfgkinngaadoor", sum := "3aceceff6d1aa7aa121edca3336368f3d3876f30529b45444e1712bd6ba37247", func := "loop.example/g00899/laws.FnGcrRepair", spec := "fnGcrRepair", inPlace := ["internal/abi.NoEscape", "internal/bytealg.IndexByteString", "internal/bytealg.IndexString"], named := ["loop.example/g00899/impl.gcrTable", "unicode/utf8.first", "unicode/utf8.acceptRanges", "internal/bytealg.MaxLen"], apart := false, laid := [("unicode/utf8.acceptRanges", laid_unicode_utf8_acceptRanges), ("loop.example/g00899/impl.gcrTable", laid_loop_example_g00899_impl_gcrTable), ("unicode/utf8.first", laid_unicode_utf8_first)], narrowed := true }
def FnGcrRepairUptoSaid : Prop := fnGcrRepairUptoRow.holds Tryd.pinned (OpenSpec.upto fnGcrRepairSpec)

/-- 'laws.FnExactLongFeature', WHERE WHAT IT READS IS OF BULK AT MOST 1048576: true; the input reads as it did. -/
def fnExactLongFeatureUptoRow : OpenClaim := { program := "ytfmlobfgkinngaadoor", sum := "3aceceff6d1aa7aa121edca3336368f3d3876f30529b45444e1712bd6ba37247", func := "loop.example/g00899/laws.FnExactLongFeature", spec := "fnExactLongFeature", inPlace := ["internal/bytealg.IndexByteString", "internal/bytealg.IndexString"], named := ["unicode/utf8.first", "unicode/utf8.acceptRanges", "internal/bytealg.MaxLen"], apart := false, laid := [("unicode/utf8.acceptRanges", laid_unicode_utf8_acceptRanges), ("unicode/utf8.first", laid_unicode_utf8_first)], narrowed := true }
def FnExactLongFeatureUptoSaid : Prop := fnExactLongFeatureUptoRow.holds Tryd.pinned (OpenSpec.upto fnExactLongFeatureSpec)

/-- 'laws.FnExactSliceCells', WHERE WHAT IT READS IS OF BULK AT MOST 1048576: true; the input reads as it did. -/
def fnExactSliceCellsUptoRow : OpenClaim := { program := "ytfmlobfgkinngaadoor", sum := "3aceceff6d1aa7aa121edca3336368f3d3876f30529b45444e1712bd6ba37247", func := "loop.example/g00899/laws.FnExactSliceCells", spec := "fnExactSliceCells", inPlace := ["internal/bytealg.IndexByteString", "internal/bytealg.IndexString"], named := ["unicode/utf8.first", "unicode/utf8.acceptRanges", "internal/bytealg.MaxLen"], apart := false, laid := [("unicode/utf8.acceptRanges", laid_unicode_utf8_acceptRanges), ("unicode/utf8.first", laid_unicode_utf8_first)], narrowed := true }
def FnExactSliceCellsUptoSaid : Prop := fnExactSliceCellsUptoRow.holds Tryd.pinned (OpenSpec.upto fnExactSliceCellsSpec)

/-- 'laws.FnExactFindPattern', WHERE WHAT IT READS IS OF BULK AT MOST 1048576: true; the input reads as it did. -/
def fnExactFindPatternUptoRow : OpenClaim := { program := "ytfmlobfgkinngaadoor", sum := "3aceceff6d1aa7aa121edca3336368f3d3876f30529b45444e1712bd6ba37247", func := "loop.example/g00899/laws.FnExactFindPattern", spec := "fnExactFindPattern", inPlace := ["internal/bytealg.IndexByteString", "internal/bytealg.IndexString"], named := ["unicode/utf8.first", "unicode/utf8.acceptRanges", "internal/bytealg.MaxLen"], apart := false, laid := [("unicode/utf8.acceptRanges", laid_unicode_utf8_acceptRanges), ("unicode/utf8.first", laid_unicode_utf8_first)], narrowed := true }
def FnExactFindPatternUptoSaid : Prop := fnExactFindPatternUptoRow.holds Tryd.pinned (OpenSpec.upto fnExactFindPatternSpec)

/-- 'laws.FnExactValidRevolutions', WHERE WHAT IT READS IS OF BULK AT MOST 1048576: true; the input reads as it did. -/
def fnExactValidRevolutionsUptoRow : OpenClaim := { program := "ytfmlobfgkinngaadoor", sum := "3aceceff6d1aa7aa121edca3336368f3d3876f30529b45444e1712bd6ba37247", func := "loop.example/g00899/laws.FnExactValidRevolutions", spec := "fnExactValidRevolutions", inPlace := ["internal/bytealg.IndexByteString", "internal/bytealg.IndexString"], named := ["unicode/utf8.first", "unicode/utf8.acceptRanges", "internal/bytealg.MaxLen"], apart := false, laid := [("unicode/utf8.acceptRanges", laid_unicode_utf8_acceptRanges), ("unicode/utf8.first", laid_unicode_utf8_first)], narrowed := true }
def FnExactValidRevolutionsUptoSaid : Prop := fnExactValidRevolutionsUptoRow.holds Tryd.pinned (OpenSpec.upto fnExactValidRevolutionsSpec)

/-- 'laws.FnExactMajorityCells', WHERE WHAT IT READS IS OF BULK AT MOST 1048576: true; the input reads as it did. -/
def fnExactMajorityCellsUptoRow : OpenClaim := { program := "ytfmlobfgkinngaadoor", sum := "3aceceff6d1aa7aa121edca3336368f3d3876f30529b45444e1712bd6ba37247", func := "loop.example/g00899/laws.FnExactMajorityCells", spec := "fnExactMajorityCells", inPlace := ["internal/bytealg.IndexByteString", "internal/bytealg.IndexString"], named := ["unicode/utf8.first", "unicode/utf8.acceptRanges", "internal/bytealg.MaxLen"], apart := false, laid := [("unicode/utf8.acceptRanges", laid_unicode_utf8_acceptRanges), ("unicode/utf8.first", laid_unicode_utf8_first)], narrowed := true }
def FnExactMajorityCellsUptoSaid : Prop := fnExactMajorityCellsUptoRow.holds Tryd.pinned (OpenSpec.upto fnExactMajorityCellsSpec)

/-- 'laws.FnExactWeakCells', WHERE WHAT IT READS IS OF BULK AT MOST 1048576: true; the input reads as it did. -/
def fnExactWeakCellsUptoRow : OpenClaim := { program := "ytfmlobfgkinngaadoor", sum := "3aceceff6d1aa7aa121edca3336368f3d3876f30529b45444e1712bd6ba37247", func := "loop.example/g00899/laws.FnExactWeakCells", spec := "fnExactWeakCells", inPlace := ["internal/bytealg.IndexByteString", "internal/bytealg.IndexString"], named := ["unicode/utf8.first", "unicode/utf8.acceptRanges", "internal/bytealg.MaxLen"], apart := false, laid := [("unicode/utf8.acceptRanges", laid_unicode_utf8_acceptRanges), ("unicode/utf8.first", laid_unicode_utf8_first)], narrowed := true }
def FnExactWeakCellsUptoSaid : Prop := fnExactWeakCellsUptoRow.holds Tryd.pinned (OpenSpec.upto fnExactWeakCellsSpec)

end Rows
end Go.Proofs.YtfmlobfgkinngaaDoor
