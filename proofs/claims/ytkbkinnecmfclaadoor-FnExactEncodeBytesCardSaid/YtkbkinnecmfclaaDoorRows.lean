/-
  NARROWER THAN 'FOR EVERY INPUT', by the rows' own cells (each row's printed sentence says how): FnExactEncodeBytes: laid · FnExactMarkCells: laid · FnExactGcrDistance: laid · FnExactDecodeGcr: laid · FnExactGcrFaults: laid · FnExactNearestGcr: laid · FnExactRepairGcr: laid · FnExactLongestOnes: laid · FnGcrRepair: laid · FnGcr: laid · FnExactRawBytes: laid · FnFm: laid.
  DERIVED. THE GIVEN ROWS OF THIS SEAT. 12 by the template 'for every input the law returns true; each argument reads behind the call as it read before'; 0 by the template 'total and deterministic' (their statements: YtkbkinnecmfclaaDoorTotals.lean).
  GIVEN WITH THE SEED: the statements are not yours to turn. If you find one false, say at which input.
  Laid BY PROGRAM, IN A SANDBOX (cutbox-rows.mjs): the forced cells as the released guide's own fill.sh prints them over the translation 6ab4914a3c9b5d76… (all of the seat's roots in one cut). By AI agents, Wed Nov 11 2026. No macro, syntax, notation, axiom, sorry.
-/
import Derived.Test.YtkbkinnecmfclaaDoorChecked
import GoSem.PinnedTables
import GoSem.Claim
import GoSem.ClaimJoined
import GoSem.ClaimMapViews
import Derived.JoinedTies
import Derived.KernelRfl
namespace Go.Proofs.YtkbkinnecmfclaaDoor
/- THE CELL 'sum', in the pinned program and in every row, IS THE sha256 OF THE DUMP (.gsa) THAT YtkbkinnecmfclaaDoorProg.lean LOADS. Nothing in Lean hashes anything: it is a label: what it is worth is what the hold of that sum in a sandbox is worth. -/
noncomputable def Tryd.pinned : Pinned := { name := "ytkbkinnecmfclaadoor", sum := "6ab4914a3c9b5d76f9de30adab9ef737e99c7bd7856c02f6819b8decf3133ab9", checked := Tryd.checked }
namespace Rows
def none {H : Type} : Left H := { results := [], args := [] }

/- WHAT THE LISTED PACKAGE-LEVEL VARIABLES READ AS WHEN THE CALL BEGINS. Each datum BY PROGRAM (the guide's laid-datum.mjs) off the statement by which the dump's own 'gosem.cut.vars' lays the variable. In a bare row this is a premise. The card (YtkbkinnecmfclaaDoorCards.lean) ties it to the program's text. -/
def laid_loop_example_g00899_impl_gcrTable {H : Type} : DataW H := .agg [.lit (.string [48, 49, 48, 49, 48]), .lit (.string [48, 49, 48, 49, 49]), .lit (.string [49, 48, 48, 49, 48]), .lit (.string [49, 48, 48, 49, 49]), .lit (.string [48, 49, 49, 49, 48]), .lit (.string [48, 49, 49, 49, 49]), .lit (.string [49, 48, 49, 49, 48]), .lit (.string [49, 48, 49, 49, 49]), .lit (.string [48, 49, 48, 48, 49]), .lit (.string [49, 49, 48, 48, 49]), .lit (.string [49, 49, 48, 49, 48]), .lit (.string [49, 49, 48, 49, 49]), .lit (.string [48, 49, 49, 48, 49]), .lit (.string [49, 49, 49, 48, 49]), .lit (.string [49, 49, 49, 49, 48]), .lit (.string [49, 48, 49, 48, 49])]
def laid_unicode_utf8_acceptRanges {H : Type} : DataW H := .agg [.agg [.lit (.int .u8 128), .lit (.int .u8 191)], .agg [.lit (.int .u8 160), .lit (.int .u8 191)], .agg [.lit (.int .u8 128), .lit (.int .u8 159)], .agg [.lit (.int .u8 144), .lit (.int .u8 191)], .agg [.lit (.int .u8 128), .lit (.int .u8 143)], .agg [.lit (.int .u8 0), .lit (.int .u8 0)], .agg [.lit (.int .u8 0), .lit (.int .u8 0)], .agg [.lit (.int .u8 0), .lit (.int .u8 0)], .agg [.lit (.int .u8 0), .lit (.int .u8 0)], .agg [.lit (.int .u8 0), .lit (.int .u8 0)], .agg [.lit (.int .u8 0), .lit (.int .u8 0)], .agg [.lit (.int .u8 0), .lit (.int .u8 0)], .agg [.lit (.int .u8 0), .lit (.int .u8 0)], .agg [.lit (.int .u8 0), .lit (.int .u8 0)], .agg [.lit (.int .u8 0), .lit (.int .u8 0)], .agg [.lit (.int .u8 0), .lit (.int .u8 0)]]
/-- One of Go's own tables, pinned by name: the form's constant. -/
def laid_unicode_utf8_first : DataW Unit := Go.Pinned.utf8First

/-- 'laws.FnExactEncodeBytes': WHATEVER THE INPUT: true; the input reads as it did. -/
def fnExactEncodeBytesSpec : ChangeSpec := { name := "fnExactEncodeBytes", vars := ["loop.example/g00899/impl.gcrTable"], fn := fun _ => fun
  | [d1, d2, d3, g1] => { results := [.lit (.bool true)], args := [d1, d2, d3], vars := [g1] }
  | _ => none }
def fnExactEncodeBytesRow : OpenClaim := { program := "ytkbkinnecmfclaadoor", sum := "6ab4914a3c9b5d76f9de30adab9ef737e99c7bd7856c02f6819b8decf3133ab9", func := "loop.example/g00899/laws.FnExactEncodeBytes", spec := "fnExactEncodeBytes", inPlace := ["internal/abi.NoEscape"], named := ["loop.example/g00899/impl.gcrTable"], apart := false, laid := [("loop.example/g00899/impl.gcrTable", laid_loop_example_g00899_impl_gcrTable)] }
def FnExactEncodeBytesSaid : Prop := fnExactEncodeBytesRow.holds Tryd.pinned (OpenSpec.ofChange fnExactEncodeBytesSpec)

/-- ITS FALSE NEIGHBOUR: 'it returns false'. Refute it at one input. -/
def fnExactEncodeBytesWrong : ChangeSpec := { name := "fnExactEncodeBytes", vars := ["loop.example/g00899/impl.gcrTable"], fn := fun _ => fun
  | [d1, d2, d3, g1] => { results := [.lit (.bool false)], args := [d1, d2, d3], vars := [g1] }
  | _ => none }
def FnExactEncodeBytesWrongFalsely : Prop := fnExactEncodeBytesRow.holds Tryd.pinned (OpenSpec.ofChange fnExactEncodeBytesWrong)

/-- 'laws.FnExactMarkCells': WHATEVER THE INPUT: true; the input reads as it did. -/
def fnExactMarkCellsSpec : ChangeSpec := { name := "fnExactMarkCells", vars := ["loop.example/g00899/impl.gcrTable"], fn := fun _ => fun
  | [d1, d2, g1] => { results := [.lit (.bool true)], args := [d1, d2], vars := [g1] }
  | _ => none }
def fnExactMarkCellsRow : OpenClaim := { program := "ytkbkinnecmfclaadoor", sum := "6ab4914a3c9b5d76f9de30adab9ef737e99c7bd7856c02f6819b8decf3133ab9", func := "loop.example/g00899/laws.FnExactMarkCells", spec := "fnExactMarkCells", inPlace := ["internal/abi.NoEscape", "internal/bytealg.MakeNoZero"], named := ["loop.example/g00899/impl.gcrTable"], apart := false, laid := [("loop.example/g00899/impl.gcrTable", laid_loop_example_g00899_impl_gcrTable)] }
def FnExactMarkCellsSaid : Prop := fnExactMarkCellsRow.holds Tryd.pinned (OpenSpec.ofChange fnExactMarkCellsSpec)

/-- ITS FALSE NEIGHBOUR: 'it returns false'. Refute it at one input. -/
def fnExactMarkCellsWrong : ChangeSpec := { name := "fnExactMarkCells", vars := ["loop.example/g00899/impl.gcrTable"], fn := fun _ => fun
  | [d1, d2, g1] => { results := [.lit (.bool false)], args := [d1, d2], vars := [g1] }
  | _ => none }
def FnExactMarkCellsWrongFalsely : Prop := fnExactMarkCellsRow.holds Tryd.pinned (OpenSpec.ofChange fnExactMarkCellsWrong)

/-- 'laws.FnExactGcrDistance': WHATEVER THE INPUT: true; the input reads as it did. -/
def fnExactGcrDistanceSpec : ChangeSpec := { name := "fnExactGcrDistance", fn := fun _ => fun
  | [d1, d2] => { results := [.lit (.bool true)], args := [d1, d2] }
  | _ => none }
def fnExactGcrDistanceRow : OpenClaim := { program := "ytkbkinnecmfclaadoor", sum := "6ab4914a3c9b5d76f9de30adab9ef737e99c7bd7856c02f6819b8decf3133ab9", func := "loop.example/g00899/laws.FnExactGcrDistance", spec := "fnExactGcrDistance", inPlace := ["internal/bytealg.IndexByteString", "internal/bytealg.IndexString"], named := ["unicode/utf8.first", "unicode/utf8.acceptRanges", "internal/bytealg.MaxLen"], apart := false, laid := [("unicode/utf8.acceptRanges", laid_unicode_utf8_acceptRanges), ("unicode/utf8.first", laid_unicode_utf8_first)] }
def FnExactGcrDistanceSaid : Prop := fnExactGcrDistanceRow.holds Tryd.pinned (OpenSpec.ofChange fnExactGcrDistanceSpec)

/-- ITS FALSE NEIGHBOUR: 'it returns false'. Refute it at one input. -/
def fnExactGcrDistanceWrong : ChangeSpec := { name := "fnExactGcrDistance", fn := fun _ => fun
  | [d1, d2] => { results := [.lit (.bool false)], args := [d1, d2] }
  | _ => none }
def FnExactGcrDistanceWrongFalsely : Prop := fnExactGcrDistanceRow.holds Tryd.pinned (OpenSpec.ofChange fnExactGcrDistanceWrong)

/-- 'laws.FnExactDecodeGcr': WHATEVER THE INPUT: true; the input reads as it did. -/
def fnExactDecodeGcrSpec : ChangeSpec := { name := "fnExactDecodeGcr", vars := ["loop.example/g00899/impl.gcrTable"], fn := fun _ => fun
  | [d, g1] => { results := [.lit (.bool true)], args := [d], vars := [g1] }
  | _ => none }
def fnExactDecodeGcrRow : OpenClaim := { program := "ytkbkinnecmfclaadoor", sum := "6ab4914a3c9b5d76f9de30adab9ef737e99c7bd7856c02f6819b8decf3133ab9", func := "loop.example/g00899/laws.FnExactDecodeGcr", spec := "fnExactDecodeGcr", inPlace := ["internal/bytealg.IndexByteString", "internal/bytealg.IndexString"], named := ["unicode/utf8.first", "unicode/utf8.acceptRanges", "loop.example/g00899/impl.gcrTable", "internal/bytealg.MaxLen"], apart := false, laid := [("unicode/utf8.acceptRanges", laid_unicode_utf8_acceptRanges), ("loop.example/g00899/impl.gcrTable", laid_loop_example_g00899_impl_gcrTable), ("unicode/utf8.first", laid_unicode_utf8_first)] }
def FnExactDecodeGcrSaid : Prop := fnExactDecodeGcrRow.holds Tryd.pinned (OpenSpec.ofChange fnExactDecodeGcrSpec)

/-- ITS FALSE NEIGHBOUR: 'it returns false'. Refute it at one input. -/
def fnExactDecodeGcrWrong : ChangeSpec := { name := "fnExactDecodeGcr", vars := ["loop.example/g00899/impl.gcrTable"], fn := fun _ => fun
  | [d, g1] => { results := [.lit (.bool false)], args := [d], vars := [g1] }
  | _ => none }
def FnExactDecodeGcrWrongFalsely : Prop := fnExactDecodeGcrRow.holds Tryd.pinned (OpenSpec.ofChange fnExactDecodeGcrWrong)

/-- 'laws.FnExactGcrFaults': WHATEVER THE INPUT: true; the input reads as it did. -/
def fnExactGcrFaultsSpec : ChangeSpec := { name := "fnExactGcrFaults", vars := ["loop.example/g00899/impl.gcrTable"], fn := fun _ => fun
  | [d, g1] => { results := [.lit (.bool true)], args := [d], vars := [g1] }
  | _ => none }
def fnExactGcrFaultsRow : OpenClaim := { program := "ytkbkinnecmfclaadoor", sum := "6ab4914a3c9b5d76f9de30adab9ef737e99c7bd7856c02f6819b8decf3133ab9", func := "loop.example/g00899/laws.FnExactGcrFaults", spec := "fnExactGcrFaults", inPlace := ["internal/bytealg.IndexByteString", "internal/bytealg.IndexString"], named := ["unicode/utf8.first", "unicode/utf8.acceptRanges", "loop.example/g00899/impl.gcrTable", "internal/bytealg.MaxLen"], apart := false, laid := [("unicode/utf8.acceptRanges", laid_unicode_utf8_acceptRanges), ("loop.example/g00899/impl.gcrTable", laid_loop_example_g00899_impl_gcrTable), ("unicode/utf8.first", laid_unicode_utf8_first)] }
def FnExactGcrFaultsSaid : Prop := fnExactGcrFaultsRow.holds Tryd.pinned (OpenSpec.ofChange fnExactGcrFaultsSpec)

/-- ITS FALSE NEIGHBOUR: 'it returns false'. Refute it at one input. -/
def fnExactGcrFaultsWrong : ChangeSpec := { name := "fnExactGcrFaults", vars := ["loop.example/g00899/impl.gcrTable"], fn := fun _ => fun
  | [d, g1] => { results := [.lit (.bool false)], args := [d], vars := [g1] }
  | _ => none }
def FnExactGcrFaultsWrongFalsely : Prop := fnExactGcrFaultsRow.holds Tryd.pinned (OpenSpec.ofChange fnExactGcrFaultsWrong)

/-- 'laws.FnExactNearestGcr': WHATEVER THE INPUT: true; the input reads as it did. -/
def fnExactNearestGcrSpec : ChangeSpec := { name := "fnExactNearestGcr", vars := ["loop.example/g00899/impl.gcrTable"], fn := fun _ => fun
  | [d, g1] => { results := [.lit (.bool true)], args := [d], vars := [g1] }
  | _ => none }
def fnExactNearestGcrRow : OpenClaim := { program := "ytkbkinnecmfclaadoor", sum := "6ab4914a3c9b5d76f9de30adab9ef737e99c7bd7856c02f6819b8decf3133ab9", func := "loop.example/g00899/laws.FnExactNearestGcr", spec := "fnExactNearestGcr", inPlace := ["internal/bytealg.IndexByteString", "internal/bytealg.IndexString"], named := ["loop.example/g00899/impl.gcrTable", "unicode/utf8.first", "unicode/utf8.acceptRanges", "internal/bytealg.MaxLen"], apart := false, laid := [("unicode/utf8.acceptRanges", laid_unicode_utf8_acceptRanges), ("loop.example/g00899/impl.gcrTable", laid_loop_example_g00899_impl_gcrTable), ("unicode/utf8.first", laid_unicode_utf8_first)] }
def FnExactNearestGcrSaid : Prop := fnExactNearestGcrRow.holds Tryd.pinned (OpenSpec.ofChange fnExactNearestGcrSpec)

/-- ITS FALSE NEIGHBOUR: 'it returns false'. Refute it at one input. -/
def fnExactNearestGcrWrong : ChangeSpec := { name := "fnExactNearestGcr", vars := ["loop.example/g00899/impl.gcrTable"], fn := fun _ => fun
  | [d, g1] => { results := [.lit (.bool false)], args := [d], vars := [g1] }
  | _ => none }
def FnExactNearestGcrWrongFalsely : Prop := fnExactNearestGcrRow.holds Tryd.pinned (OpenSpec.ofChange fnExactNearestGcrWrong)

/-- 'laws.FnExactRepairGcr': WHATEVER THE INPUT: true; the input reads as it did. -/
def fnExactRepairGcrSpec : ChangeSpec := { name := "fnExactRepairGcr", vars := ["loop.example/g00899/impl.gcrTable"], fn := fun _ => fun
  | [d, g1] => { results := [.lit (.bool true)], args := [d], vars := [g1] }
  | _ => none }
def fnExactRepairGcrRow : OpenClaim := { program := "ytkbkinnecmfclaadoor", sum := "6ab4914a3c9b5d76f9de30adab9ef737e99c7bd7856c02f6819b8decf3133ab9", func := "loop.example/g00899/laws.FnExactRepairGcr", spec := "fnExactRepairGcr", inPlace := ["internal/bytealg.IndexByteString", "internal/bytealg.IndexString", "internal/abi.NoEscape"], named := ["loop.example/g00899/impl.gcrTable", "unicode/utf8.first", "unicode/utf8.acceptRanges", "internal/bytealg.MaxLen"], apart := false, laid := [("unicode/utf8.acceptRanges", laid_unicode_utf8_acceptRanges), ("loop.example/g00899/impl.gcrTable", laid_loop_example_g00899_impl_gcrTable), ("unicode/utf8.first", laid_unicode_utf8_first)] }
def FnExactRepairGcrSaid : Prop := fnExactRepairGcrRow.holds Tryd.pinned (OpenSpec.ofChange fnExactRepairGcrSpec)

/-- ITS FALSE NEIGHBOUR: 'it returns false'. Refute it at one input. -/
def fnExactRepairGcrWrong : ChangeSpec := { name := "fnExactRepairGcr", vars := ["loop.example/g00899/impl.gcrTable"], fn := fun _ => fun
  | [d, g1] => { results := [.lit (.bool false)], args := [d], vars := [g1] }
  | _ => none }
def FnExactRepairGcrWrongFalsely : Prop := fnExactRepairGcrRow.holds Tryd.pinned (OpenSpec.ofChange fnExactRepairGcrWrong)

/-- 'laws.FnExactLongestOnes': WHATEVER THE INPUT: true; the input reads as it did. -/
def fnExactLongestOnesSpec : ChangeSpec := { name := "fnExactLongestOnes", fn := fun _ => fun
  | [d] => { results := [.lit (.bool true)], args := [d] }
  | _ => none }
def fnExactLongestOnesRow : OpenClaim := { program := "ytkbkinnecmfclaadoor", sum := "6ab4914a3c9b5d76f9de30adab9ef737e99c7bd7856c02f6819b8decf3133ab9", func := "loop.example/g00899/laws.FnExactLongestOnes", spec := "fnExactLongestOnes", inPlace := ["internal/bytealg.IndexByteString", "internal/bytealg.IndexString", "internal/bytealg.CountString"], named := ["unicode/utf8.first", "unicode/utf8.acceptRanges", "internal/bytealg.MaxLen"], apart := false, laid := [("unicode/utf8.acceptRanges", laid_unicode_utf8_acceptRanges), ("unicode/utf8.first", laid_unicode_utf8_first)] }
def FnExactLongestOnesSaid : Prop := fnExactLongestOnesRow.holds Tryd.pinned (OpenSpec.ofChange fnExactLongestOnesSpec)

/-- ITS FALSE NEIGHBOUR: 'it returns false'. Refute it at one input. -/
def fnExactLongestOnesWrong : ChangeSpec := { name := "fnExactLongestOnes", fn := fun _ => fun
  | [d] => { results := [.lit (.bool false)], args := [d] }
  | _ => none }
def FnExactLongestOnesWrongFalsely : Prop := fnExactLongestOnesRow.holds Tryd.pinned (OpenSpec.ofChange fnExactLongestOnesWrong)

/-- 'laws.FnGcrRepair': WHATEVER THE INPUT: true; the input reads as it did. -/
def fnGcrRepairSpec : ChangeSpec := { name := "fnGcrRepair", vars := ["loop.example/g00899/impl.gcrTable"], fn := fun _ => fun
  | [d1, d2, g1] => { results := [.lit (.bool true)], args := [d1, d2], vars := [g1] }
  | _ => none }
def fnGcrRepairRow : OpenClaim := { program := "ytkbkinnecmfclaadoor", sum := "6ab4914a3c9b5d76f9de30adab9ef737e99c7bd7856c02f6819b8decf3133ab9", func := "loop.example/g00899/laws.FnGcrRepair", spec := "fnGcrRepair", inPlace := ["internal/abi.NoEscape", "internal/bytealg.IndexByteString", "internal/bytealg.IndexString"], named := ["loop.example/g00899/impl.gcrTable", "unicode/utf8.first", "unicode/utf8.acceptRanges", "internal/bytealg.MaxLen"], apart := false, laid := [("unicode/utf8.acceptRanges", laid_unicode_utf8_acceptRanges), ("loop.example/g00899/impl.gcrTable", laid_loop_example_g00899_impl_gcrTable), ("unicode/utf8.first", laid_unicode_utf8_first)] }
def FnGcrRepairSaid : Prop := fnGcrRepairRow.holds Tryd.pinned (OpenSpec.ofChange fnGcrRepairSpec)

/-- ITS FALSE NEIGHBOUR: 'it returns false'. Refute it at one input. -/
def fnGcrRepairWrong : ChangeSpec := { name := "fnGcrRepair", vars := ["loop.example/g00899/impl.gcrTable"], fn := fun _ => fun
  | [d1, d2, g1] => { results := [.lit (.bool false)], args := [d1, d2], vars := [g1] }
  | _ => none }
def FnGcrRepairWrongFalsely : Prop := fnGcrRepairRow.holds Tryd.pinned (OpenSpec.ofChange fnGcrRepairWrong)

/-- 'laws.FnGcr': WHATEVER THE INPUT: true; the input reads as it did. -/
def fnGcrSpec : ChangeSpec := { name := "fnGcr", vars := ["loop.example/g00899/impl.gcrTable"], fn := fun _ => fun
  | [d, g1] => { results := [.lit (.bool true)], args := [d], vars := [g1] }
  | _ => none }
def fnGcrRow : OpenClaim := { program := "ytkbkinnecmfclaadoor", sum := "6ab4914a3c9b5d76f9de30adab9ef737e99c7bd7856c02f6819b8decf3133ab9", func := "loop.example/g00899/laws.FnGcr", spec := "fnGcr", inPlace := ["internal/abi.NoEscape", "internal/bytealg.IndexByteString", "internal/bytealg.IndexString", "internal/bytealg.CountString"], named := ["loop.example/g00899/impl.gcrTable", "unicode/utf8.first", "unicode/utf8.acceptRanges", "internal/bytealg.MaxLen"], apart := false, laid := [("unicode/utf8.acceptRanges", laid_unicode_utf8_acceptRanges), ("loop.example/g00899/impl.gcrTable", laid_loop_example_g00899_impl_gcrTable), ("unicode/utf8.first", laid_unicode_utf8_first)] }
def FnGcrSaid : Prop := fnGcrRow.holds Tryd.pinned (OpenSpec.ofChange fnGcrSpec)

/-- ITS FALSE NEIGHBOUR: 'it returns false'. Refute it at one input. -/
def fnGcrWrong : ChangeSpec := { name := "fnGcr", vars := ["loop.example/g00899/impl.gcrTable"], fn := fun _ => fun
  | [d, g1] => { results := [.lit (.bool false)], args := [d], vars := [g1] }
  | _ => none }
def FnGcrWrongFalsely : Prop := fnGcrRow.holds Tryd.pinned (OpenSpec.ofChange fnGcrWrong)

/-- 'laws.FnExactRawBytes': WHATEVER THE INPUT: true; the input reads as it did. -/
def fnExactRawBytesSpec : ChangeSpec := { name := "fnExactRawBytes", vars := ["loop.example/g00899/impl.gcrTable"], fn := fun _ => fun
  | [d1, d2, g1] => { results := [.lit (.bool true)], args := [d1, d2], vars := [g1] }
  | _ => none }
def fnExactRawBytesRow : OpenClaim := { program := "ytkbkinnecmfclaadoor", sum := "6ab4914a3c9b5d76f9de30adab9ef737e99c7bd7856c02f6819b8decf3133ab9", func := "loop.example/g00899/laws.FnExactRawBytes", spec := "fnExactRawBytes", inPlace := ["internal/bytealg.IndexByteString", "internal/bytealg.IndexString"], named := ["unicode/utf8.first", "unicode/utf8.acceptRanges", "loop.example/g00899/impl.gcrTable", "internal/bytealg.MaxLen"], apart := false, laid := [("unicode/utf8.acceptRanges", laid_unicode_utf8_acceptRanges), ("loop.example/g00899/impl.gcrTable", laid_loop_example_g00899_impl_gcrTable), ("unicode/utf8.first", laid_unicode_utf8_first)] }
def FnExactRawBytesSaid : Prop := fnExactRawBytesRow.holds Tryd.pinned (OpenSpec.ofChange fnExactRawBytesSpec)

/-- ITS FALSE NEIGHBOUR: 'it returns false'. Refute it at one input. -/
def fnExactRawBytesWrong : ChangeSpec := { name := "fnExactRawBytes", vars := ["loop.example/g00899/impl.gcrTable"], fn := fun _ => fun
  | [d1, d2, g1] => { results := [.lit (.bool false)], args := [d1, d2], vars := [g1] }
  | _ => none }
def FnExactRawBytesWrongFalsely : Prop := fnExactRawBytesRow.holds Tryd.pinned (OpenSpec.ofChange fnExactRawBytesWrong)

/-- 'laws.FnFm': WHATEVER THE INPUT: true; the input reads as it did. -/
def fnFmSpec : ChangeSpec := { name := "fnFm", fn := fun _ => fun
  | [d1, d2] => { results := [.lit (.bool true)], args := [d1, d2] }
  | _ => none }
def fnFmRow : OpenClaim := { program := "ytkbkinnecmfclaadoor", sum := "6ab4914a3c9b5d76f9de30adab9ef737e99c7bd7856c02f6819b8decf3133ab9", func := "loop.example/g00899/laws.FnFm", spec := "fnFm", inPlace := ["internal/bytealg.IndexByteString", "internal/bytealg.IndexString"], named := ["unicode/utf8.first", "unicode/utf8.acceptRanges", "internal/bytealg.MaxLen"], apart := false, laid := [("unicode/utf8.acceptRanges", laid_unicode_utf8_acceptRanges), ("unicode/utf8.first", laid_unicode_utf8_first)] }
def FnFmSaid : Prop := fnFmRow.holds Tryd.pinned (OpenSpec.ofChange fnFmSpec)

/-- ITS FALSE NEIGHBOUR: 'it returns false'. Refute it at one input. -/
def fnFmWrong : ChangeSpec := { name := "fnFm", fn := fun _ => fun
  | [d1, d2] => { results := [.lit (.bool false)], args := [d1, d2] }
  | _ => none }
def FnFmWrongFalsely : Prop := fnFmRow.holds Tryd.pinned (OpenSpec.ofChange fnFmWrong)

/- THE SECOND FORM. 'bulk': how many values and letters a reading holds, each counted each time it is reached (what is shared counts as often as it is met; a slice's spare places count too). A statement '..UptoSaid' is the law's where the arguments, and the package variables that the reading takes, are together of bulk at most 1048576: NARROWER than '..Said'. Prove '..Said' where nothing that the law and all that it calls make is longer than what came in: it says more and counts as full. Else prove '..UptoSaid'. A law counts once. -/
mutual
def uptoBulk {H : Type} : DataW H → Nat
  | .lit (.string bytes) => bytes.length + 1
  | .lit _ => 1
  | .nil => 1
  | .ptr d => uptoBulk d + 1
  | .slice elems spare => uptoBulkAll elems + uptoBulkAll spare + 1
  | .agg parts => uptoBulkAll parts + 1
  | .iface _ d => uptoBulk d + 1
  | .map entries => uptoBulkEntries entries + 1
  | .held _ => 1
def uptoBulkAll {H : Type} : List (DataW H) → Nat
  | [] => 0
  | d :: r => uptoBulk d + uptoBulkAll r
def uptoBulkEntries {H : Type} : List (Lit × DataW H) → Nat
  | [] => 0
  | x :: r => uptoBulkEntry x + uptoBulkEntries r
def uptoBulkEntry {H : Type} : Lit × DataW H → Nat
  | (.string bytes, d) => bytes.length + uptoBulk d + 1
  | (_, d) => uptoBulk d + 1
 end
def uptoSmall : (H : Type) → List (DataW H) → Bool := fun _ ds => decide (uptoBulkAll ds ≤ 1048576)
def OpenSpec.upto (s : _root_.Go.ChangeSpec) : _root_.Go.OpenSpec := { _root_.Go.OpenSpec.ofChange s with cond := some uptoSmall }

/-- 'laws.FnExactEncodeBytes', WHERE WHAT IT READS IS OF BULK AT MOST 1048576: true; the input reads as it did. -/
def fnExactEncodeBytesUptoRow : OpenClaim := { program := "ytkbkinnecmfclaadoor", sum := "6ab4914a3c9b5d76f9de30adab9ef737e99c7bd7856c02f6819b8decf3133ab9", func := "loop.example/g00899/laws.FnExactEncodeBytes", spec := "fnExactEncodeBytes", inPlace := ["internal/abi.NoEscape"], named := ["loop.example/g00899/impl.gcrTable"], apart := false, laid := [("loop.example/g00899/impl.gcrTable", laid_loop_example_g00899_impl_gcrTable)], narrowed := true }
def FnExactEncodeBytesUptoSaid : Prop := fnExactEncodeBytesUptoRow.holds Tryd.pinned (OpenSpec.upto fnExactEncodeBytesSpec)

/-- 'laws.FnExactMarkCells', WHERE WHAT IT READS IS OF BULK AT MOST 1048576: true; the input reads as it did. -/
def fnExactMarkCellsUptoRow : OpenClaim := { program := "ytkbkinnecmfclaadoor", sum := "6ab4914a3c9b5d76f9de30adab9ef737e99c7bd7856c02f6819b8decf3133ab9", func := "loop.example/g00899/laws.FnExactMarkCells", spec := "fnExactMarkCells", inPlace := ["internal/abi.NoEscape", "internal/bytealg.MakeNoZero"], named := ["loop.example/g00899/impl.gcrTable"], apart := false, laid := [("loop.example/g00899/impl.gcrTable", laid_loop_example_g00899_impl_gcrTable)], narrowed := true }
def FnExactMarkCellsUptoSaid : Prop := fnExactMarkCellsUptoRow.holds Tryd.pinned (OpenSpec.upto fnExactMarkCellsSpec)

/-- 'laws.FnExactGcrDistance', WHERE WHAT IT READS IS OF BULK AT MOST 1048576: true; the input reads as it did. -/
def fnExactGcrDistanceUptoRow : OpenClaim := { program := "ytkbkinnecmfclaadoor", sum := "6ab4914a3c9b5d76f9de30adab9ef737e99c7bd7856c02f6819b8decf3133ab9", func := "loop.example/g00899/laws.FnExactGcrDistance", spec := "fnExactGcrDistance", inPlace := ["internal/bytealg.IndexByteString", "internal/bytealg.IndexString"], named := ["unicode/utf8.first", "unicode/utf8.acceptRanges", "internal/bytealg.MaxLen"], apart := false, laid := [("unicode/utf8.acceptRanges", laid_unicode_utf8_acceptRanges), ("unicode/utf8.first", laid_unicode_utf8_first)], narrowed := true }
def FnExactGcrDistanceUptoSaid : Prop := fnExactGcrDistanceUptoRow.holds Tryd.pinned (OpenSpec.upto fnExactGcrDistanceSpec)

/-- 'laws.FnExactDecodeGcr', WHERE WHAT IT READS IS OF BULK AT MOST 1048576: true; the input reads as it did. -/
def fnExactDecodeGcrUptoRow : OpenClaim := { program := "ytkbkinnecmfclaadoor", sum := "6ab4914a3c9b5d76f9de30adab9ef737e99c7bd7856c02f6819b8decf3133ab9", func := "loop.example/g00899/laws.FnExactDecodeGcr", spec := "fnExactDecodeGcr", inPlace := ["internal/bytealg.IndexByteString", "internal/bytealg.IndexString"], named := ["unicode/utf8.first", "unicode/utf8.acceptRanges", "loop.example/g00899/impl.gcrTable", "internal/bytealg.MaxLen"], apart := false, laid := [("unicode/utf8.acceptRanges", laid_unicode_utf8_acceptRanges), ("loop.example/g00899/impl.gcrTable", laid_loop_example_g00899_impl_gcrTable), ("unicode/utf8.first", laid_unicode_utf8_first)], narrowed := true }
def FnExactDecodeGcrUptoSaid : Prop := fnExactDecodeGcrUptoRow.holds Tryd.pinned (OpenSpec.upto fnExactDecodeGcrSpec)

/-- 'laws.FnExactGcrFaults', WHERE WHAT IT READS IS OF BULK AT MOST 1048576: true; the input reads as it did. -/
def fnExactGcrFaultsUptoRow : OpenClaim := { program := "ytkbkinnecmfclaadoor", sum := "6ab4914a3c9b5d76f9de30adab9ef737e99c7bd7856c02f6819b8decf3133ab9", func := "loop.example/g00899/laws.FnExactGcrFaults", spec := "fnExactGcrFaults", inPlace := ["internal/bytealg.IndexByteString", "internal/bytealg.IndexString"], named := ["unicode/utf8.first", "unicode/utf8.acceptRanges", "loop.example/g00899/impl.gcrTable", "internal/bytealg.MaxLen"], apart := false, laid := [("unicode/utf8.acceptRanges", laid_unicode_utf8_acceptRanges), ("loop.example/g00899/impl.gcrTable", laid_loop_example_g00899_impl_gcrTable), ("unicode/utf8.first", laid_unicode_utf8_first)], narrowed := true }
def FnExactGcrFaultsUptoSaid : Prop := fnExactGcrFaultsUptoRow.holds Tryd.pinned (OpenSpec.upto fnExactGcrFaultsSpec)

/-- 'laws.FnExactNearestGcr', WHERE WHAT IT READS IS OF BULK AT MOST 1048576: true; the input reads as it did. -/
def fnExactNearestGcrUptoRow : OpenClaim := { program := "ytkbkinnecmfclaadoor", sum := "6ab4914a3c9b5d76f9de30adab9ef737e99c7bd7856c02f6819b8decf3133ab9", func := "loop.example/g00899/laws.FnExactNearestGcr", spec := "fnExactNearestGcr", inPlace := ["internal/bytealg.IndexByteString", "internal/bytealg.IndexString"], named := ["loop.example/g00899/impl.gcrTable", "unicode/utf8.first", "unicode/utf8.acceptRanges", "internal/bytealg.MaxLen"], apart := false, laid := [("unicode/utf8.acceptRanges", laid_unicode_utf8_acceptRanges), ("loop.example/g00899/impl.gcrTable", laid_loop_example_g00899_impl_gcrTable), ("unicode/utf8.first", laid_unicode_utf8_first)], narrowed := true }
def FnExactNearestGcrUptoSaid : Prop := fnExactNearestGcrUptoRow.holds Tryd.pinned (OpenSpec.upto fnExactNearestGcrSpec)

/-- 'laws.FnExactRepairGcr', WHERE WHAT IT READS IS OF BULK AT MOST 1048576: true; the input reads as it did. -/
def fnExactRepairGcrUptoRow : OpenClaim := { program := "ytkbkinnecmfclaadoor", sum := "6ab4914a3c9b5d76f9de30adab9ef737e99c7bd7856c02f6819b8decf3133ab9", func := "loop.example/g00899/laws.FnExactRepairGcr", spec := "fnExactRepairGcr", inPlace := ["internal/bytealg.IndexByteString", "internal/bytealg.IndexString", "internal/abi.NoEscape"], named := ["loop.example/g00899/impl.gcrTable", "unicode/utf8.first", "unicode/utf8.acceptRanges", "internal/bytealg.MaxLen"], apart := false, laid := [("unicode/utf8.acceptRanges", laid_unicode_utf8_acceptRanges), ("loop.example/g00899/impl.gcrTable", laid_loop_example_g00899_impl_gcrTable), ("unicode/utf8.first", laid_unicode_utf8_first)], narrowed := true }
def FnExactRepairGcrUptoSaid : Prop := fnExactRepairGcrUptoRow.holds Tryd.pinned (OpenSpec.upto fnExactRepairGcrSpec)

/-- 'laws.FnExactLongestOnes', WHERE WHAT IT READS IS OF BULK AT MOST 1048576: true; the input reads as it did. -/
def fnExactLongestOnesUptoRow : OpenClaim := { program := "ytkbkinnecmfclaadoor", sum := "6ab4914a3c9b5d76f9de30adab9ef737e99c7bd7856c02f6819b8decf3133ab9", func := "loop.example/g00899/laws.FnExactLongestOnes", spec := "fnExactLongestOnes", inPlace := ["internal/bytealg.IndexByteString", "internal/bytealg.IndexString", "internal/bytealg.CountString"], named := ["unicode/utf8.first", "unicode/utf8.acceptRanges", "internal/bytealg.MaxLen"], apart := false, laid := [("unicode/utf8.acceptRanges", laid_unicode_utf8_acceptRanges), ("unicode/utf8.first", laid_unicode_utf8_first)], narrowed := true }
def FnExactLongestOnesUptoSaid : Prop := fnExactLongestOnesUptoRow.holds Tryd.pinned (OpenSpec.upto fnExactLongestOnesSpec)

/-- 'laws.FnGcrRepair', WHERE WHAT IT READS IS OF BULK AT MOST 1048576: true; the input reads as it did. -/
def fnGcrRepairUptoRow : OpenClaim := { program := "ytkbkinnecmfclaadoor", sum := "6ab4914a3c9b5d76f9de30adab9ef737e99c7bd7856c02f6819b8decf3133ab9", func := "loop.example/g00899/laws.FnGcrRepair", spec := "fnGcrRepair", inPlace := ["internal/abi.NoEscape", "internal/bytealg.IndexByteString", "internal/bytealg.IndexString"], named := ["loop.example/g00899/impl.gcrTable", "unicode/utf8.first", "unicode/utf8.acceptRanges", "internal/bytealg.MaxLen"], apart := false, laid := [("unicode/utf8.acceptRanges", laid_unicode_utf8_acceptRanges), ("loop.example/g00899/impl.gcrTable", laid_loop_example_g00899_impl_gcrTable), ("unicode/utf8.first", laid_unicode_utf8_first)], narrowed := true }
def FnGcrRepairUptoSaid : Prop := fnGcrRepairUptoRow.holds Tryd.pinned (OpenSpec.upto fnGcrRepairSpec)

/-- 'laws.FnGcr', WHERE WHAT IT READS IS OF BULK AT MOST 1048576: true; the input reads as it did. -/
def fnGcrUptoRow : OpenClaim := { program := "ytkbkinnecmfclaadoor", sum := "6ab4914a3c9b5d76f9de30adab9ef737e99c7bd7856c02f6819b8decf3133ab9", func := "loop.example/g00899/laws.FnGcr", spec := "fnGcr", inPlace := ["internal/abi.NoEscape", "internal/bytealg.IndexByteString", "internal/bytealg.IndexString", "internal/bytealg.CountString"], named := ["loop.example/g00899/impl.gcrTable", "unicode/utf8.first", "unicode/utf8.acceptRanges", "internal/bytealg.MaxLen"], apart := false, laid := [("unicode/utf8.acceptRanges", laid_unicode_utf8_acceptRanges), ("loop.example/g00899/impl.gcrTable", laid_loop_example_g00899_impl_gcrTable), ("unicode/utf8.first", laid_unicode_utf8_first)], narrowed := true }
def FnGcrUptoSaid : Prop := fnGcrUptoRow.holds Tryd.pinned (OpenSpec.upto fnGcrSpec)

/-- 'laws.FnExactRawBytes', WHERE WHAT IT READS IS OF BULK AT MOST 1048576: true; the input reads as it did. -/
def fnExactRawBytesUptoRow : OpenClaim := { program := "ytkbkinnecmfclaadoor", sum := "6ab4914a3c9b5d76f9de30adab9ef737e99c7bd7856c02f6819b8decf3133ab9", func := "loop.example/g00899/laws.FnExactRawBytes", spec := "fnExactRawBytes", inPlace := ["internal/bytealg.IndexByteString", "internal/bytealg.IndexString"], named := ["unicode/utf8.first", "unicode/utf8.acceptRanges", "loop.example/g00899/impl.gcrTable", "internal/bytealg.MaxLen"], apart := false, laid := [("unicode/utf8.acceptRanges", laid_unicode_utf8_acceptRanges), ("loop.example/g00899/impl.gcrTable", laid_loop_example_g00899_impl_gcrTable), ("unicode/utf8.first", laid_unicode_utf8_first)], narrowed := true }
def FnExactRawBytesUptoSaid : Prop := fnExactRawBytesUptoRow.holds Tryd.pinned (OpenSpec.upto fnExactRawBytesSpec)

/-- 'laws.FnFm', WHERE WHAT IT READS IS OF BULK AT MOST 1048576: true; the input reads as it did. -/
def fnFmUptoRow : OpenClaim := { program := "ytkbkinnecmfclaadoor", sum := "6ab4914a3c9b5d76f9de30adab9ef737e99c7bd7856c02f6819b8decf3133ab9", func := "loop.example/g00899/laws.FnFm", spec := "fnFm", inPlace := ["internal/bytealg.IndexByteString", "internal/bytealg.IndexString"], named := ["unicode/utf8.first", "unicode/utf8.acceptRanges", "internal/bytealg.MaxLen"], apart := false, laid := [("unicode/utf8.acceptRanges", laid_unicode_utf8_acceptRanges), ("unicode/utf8.first", laid_unicode_utf8_first)], narrowed := true }
def FnFmUptoSaid : Prop := fnFmUptoRow.holds Tryd.pinned (OpenSpec.upto fnFmSpec)

end Rows
end Go.Proofs.YtkbkinnecmfclaaDoor
