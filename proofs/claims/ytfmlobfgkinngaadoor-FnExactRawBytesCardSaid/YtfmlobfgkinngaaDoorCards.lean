/-
  DERIVED. GIVEN WITH THE SEED: THE CARDS: each row of YtfmlobfgkinngaaDoorRows.lean that lists a variable, with what it lists TIED to the program's text (the seventh form; the later family's looks); each row that meets fmt, with fmt's text TOLD by the authors' own Lean function (tested against real Go, not proved from fmt's source: count such statements apart). THE CARD IS WHAT COUNTS. Prove the row's statement (the work); the ties are given (YtfmlobfgkinngaaDoorTie.lean); close each card by the builder's one call (the guide's Derived/Test/ToyasCard.lean, 'card_holds'). Laid BY PROGRAM, IN A SANDBOX (cutbox-door.mjs). By AI agents, Wed Nov 11 2026. No macro, syntax, notation, axiom, sorry.
-/
import Derived.Test.YtfmlobfgkinngaaDoorRows
import GoSem.ClaimSeven
namespace Go.Proofs.YtfmlobfgkinngaaDoor
namespace Rows

/-- THE TIED CARD OF 'laws.FnExactRepairGcr'. -/
def fnExactRepairGcrCard : Claim7 := { stood := { row := fnExactRepairGcrRow, standIns := [], harness := (true, "18460dbcd082e34f5fc06023bb1e831d89f4dfa8b3d3ec9b40d511ecaa0f6581"), looks := false }, kinds := [], alts := [], laidByText := true, laidKinds := [.data, .data, .pinned], laidTests := true, laidLooks := .later }
def FnExactRepairGcrCardSaid : Prop := Claim7.holds Tryd.pinned (.plain (OpenSpec.ofChange fnExactRepairGcrSpec)) fnExactRepairGcrCard

/-- THE TIED CARD OF 'laws.FnExactRawBytes'. -/
def fnExactRawBytesCard : Claim7 := { stood := { row := fnExactRawBytesRow, standIns := [], harness := (true, "18460dbcd082e34f5fc06023bb1e831d89f4dfa8b3d3ec9b40d511ecaa0f6581"), looks := false }, kinds := [], alts := [], laidByText := true, laidKinds := [.data, .data, .pinned], laidTests := true, laidLooks := .later }
def FnExactRawBytesCardSaid : Prop := Claim7.holds Tryd.pinned (.plain (OpenSpec.ofChange fnExactRawBytesSpec)) fnExactRawBytesCard

/-- THE TIED CARD OF 'laws.FnExactMarkCells'. -/
def fnExactMarkCellsCard : Claim7 := { stood := { row := fnExactMarkCellsRow, standIns := [], harness := (true, "18460dbcd082e34f5fc06023bb1e831d89f4dfa8b3d3ec9b40d511ecaa0f6581"), looks := false }, kinds := [], alts := [], laidByText := true, laidKinds := [.data], laidTests := true, laidLooks := .later }
def FnExactMarkCellsCardSaid : Prop := Claim7.holds Tryd.pinned (.plain (OpenSpec.ofChange fnExactMarkCellsSpec)) fnExactMarkCellsCard

/-- THE TIED CARD OF 'laws.FnExactLongestOnes'. -/
def fnExactLongestOnesCard : Claim7 := { stood := { row := fnExactLongestOnesRow, standIns := [], harness := (true, "18460dbcd082e34f5fc06023bb1e831d89f4dfa8b3d3ec9b40d511ecaa0f6581"), looks := false }, kinds := [], alts := [], laidByText := true, laidKinds := [.data, .pinned], laidTests := true, laidLooks := .later }
def FnExactLongestOnesCardSaid : Prop := Claim7.holds Tryd.pinned (.plain (OpenSpec.ofChange fnExactLongestOnesSpec)) fnExactLongestOnesCard

/-- THE TIED CARD OF 'laws.FnFm'. -/
def fnFmCard : Claim7 := { stood := { row := fnFmRow, standIns := [], harness := (true, "18460dbcd082e34f5fc06023bb1e831d89f4dfa8b3d3ec9b40d511ecaa0f6581"), looks := false }, kinds := [], alts := [], laidByText := true, laidKinds := [.data, .pinned], laidTests := true, laidLooks := .later }
def FnFmCardSaid : Prop := Claim7.holds Tryd.pinned (.plain (OpenSpec.ofChange fnFmSpec)) fnFmCard

/-- THE TIED CARD OF 'laws.FnGcrRepair'. -/
def fnGcrRepairCard : Claim7 := { stood := { row := fnGcrRepairRow, standIns := [], harness := (true, "18460dbcd082e34f5fc06023bb1e831d89f4dfa8b3d3ec9b40d511ecaa0f6581"), looks := false }, kinds := [], alts := [], laidByText := true, laidKinds := [.data, .data, .pinned], laidTests := true, laidLooks := .later }
def FnGcrRepairCardSaid : Prop := Claim7.holds Tryd.pinned (.plain (OpenSpec.ofChange fnGcrRepairSpec)) fnGcrRepairCard

/-- THE TIED CARD OF 'laws.FnExactLongFeature'. -/
def fnExactLongFeatureCard : Claim7 := { stood := { row := fnExactLongFeatureRow, standIns := [], harness := (true, "18460dbcd082e34f5fc06023bb1e831d89f4dfa8b3d3ec9b40d511ecaa0f6581"), looks := false }, kinds := [], alts := [], laidByText := true, laidKinds := [.data, .pinned], laidTests := true, laidLooks := .later }
def FnExactLongFeatureCardSaid : Prop := Claim7.holds Tryd.pinned (.plain (OpenSpec.ofChange fnExactLongFeatureSpec)) fnExactLongFeatureCard

/-- THE TIED CARD OF 'laws.FnExactSliceCells'. -/
def fnExactSliceCellsCard : Claim7 := { stood := { row := fnExactSliceCellsRow, standIns := [], harness := (true, "18460dbcd082e34f5fc06023bb1e831d89f4dfa8b3d3ec9b40d511ecaa0f6581"), looks := false }, kinds := [], alts := [], laidByText := true, laidKinds := [.data, .pinned], laidTests := true, laidLooks := .later }
def FnExactSliceCellsCardSaid : Prop := Claim7.holds Tryd.pinned (.plain (OpenSpec.ofChange fnExactSliceCellsSpec)) fnExactSliceCellsCard

/-- THE TIED CARD OF 'laws.FnExactFindPattern'. -/
def fnExactFindPatternCard : Claim7 := { stood := { row := fnExactFindPatternRow, standIns := [], harness := (true, "18460dbcd082e34f5fc06023bb1e831d89f4dfa8b3d3ec9b40d511ecaa0f6581"), looks := false }, kinds := [], alts := [], laidByText := true, laidKinds := [.data, .pinned], laidTests := true, laidLooks := .later }
def FnExactFindPatternCardSaid : Prop := Claim7.holds Tryd.pinned (.plain (OpenSpec.ofChange fnExactFindPatternSpec)) fnExactFindPatternCard

/-- THE TIED CARD OF 'laws.FnExactValidRevolutions'. -/
def fnExactValidRevolutionsCard : Claim7 := { stood := { row := fnExactValidRevolutionsRow, standIns := [], harness := (true, "18460dbcd082e34f5fc06023bb1e831d89f4dfa8b3d3ec9b40d511ecaa0f6581"), looks := false }, kinds := [], alts := [], laidByText := true, laidKinds := [.data, .pinned], laidTests := true, laidLooks := .later }
def FnExactValidRevolutionsCardSaid : Prop := Claim7.holds Tryd.pinned (.plain (OpenSpec.ofChange fnExactValidRevolutionsSpec)) fnExactValidRevolutionsCard

/-- THE TIED CARD OF 'laws.FnExactMajorityCells'. -/
def fnExactMajorityCellsCard : Claim7 := { stood := { row := fnExactMajorityCellsRow, standIns := [], harness := (true, "18460dbcd082e34f5fc06023bb1e831d89f4dfa8b3d3ec9b40d511ecaa0f6581"), looks := false }, kinds := [], alts := [], laidByText := true, laidKinds := [.data, .pinned], laidTests := true, laidLooks := .later }
def FnExactMajorityCellsCardSaid : Prop := Claim7.holds Tryd.pinned (.plain (OpenSpec.ofChange fnExactMajorityCellsSpec)) fnExactMajorityCellsCard

/-- THE TIED CARD OF 'laws.FnExactWeakCells'. -/
def fnExactWeakCellsCard : Claim7 := { stood := { row := fnExactWeakCellsRow, standIns := [], harness := (true, "18460dbcd082e34f5fc06023bb1e831d89f4dfa8b3d3ec9b40d511ecaa0f6581"), looks := false }, kinds := [], alts := [], laidByText := true, laidKinds := [.data, .pinned], laidTests := true, laidLooks := .later }
def FnExactWeakCellsCardSaid : Prop := Claim7.holds Tryd.pinned (.plain (OpenSpec.ofChange fnExactWeakCellsSpec)) fnExactWeakCellsCard

/-- THE SECOND FORM's CARD OF 'laws.FnExactRepairGcr'. -/
def fnExactRepairGcrUptoCard : Claim7 := { stood := { row := fnExactRepairGcrUptoRow, standIns := [], harness := (true, "18460dbcd082e34f5fc06023bb1e831d89f4dfa8b3d3ec9b40d511ecaa0f6581"), looks := false }, kinds := [], alts := [], laidByText := true, laidKinds := [.data, .data, .pinned], laidTests := true, laidLooks := .later }
def FnExactRepairGcrUptoCardSaid : Prop := Claim7.holds Tryd.pinned (.plain (OpenSpec.upto fnExactRepairGcrSpec)) fnExactRepairGcrUptoCard

/-- THE SECOND FORM's CARD OF 'laws.FnExactRawBytes'. -/
def fnExactRawBytesUptoCard : Claim7 := { stood := { row := fnExactRawBytesUptoRow, standIns := [], harness := (true, "18460dbcd082e34f5fc06023bb1e831d89f4dfa8b3d3ec9b40d511ecaa0f6581"), looks := false }, kinds := [], alts := [], laidByText := true, laidKinds := [.data, .data, .pinned], laidTests := true, laidLooks := .later }
def FnExactRawBytesUptoCardSaid : Prop := Claim7.holds Tryd.pinned (.plain (OpenSpec.upto fnExactRawBytesSpec)) fnExactRawBytesUptoCard

/-- THE SECOND FORM's CARD OF 'laws.FnExactMarkCells'. -/
def fnExactMarkCellsUptoCard : Claim7 := { stood := { row := fnExactMarkCellsUptoRow, standIns := [], harness := (true, "18460dbcd082e34f5fc06023bb1e831d89f4dfa8b3d3ec9b40d511ecaa0f6581"), looks := false }, kinds := [], alts := [], laidByText := true, laidKinds := [.data], laidTests := true, laidLooks := .later }
def FnExactMarkCellsUptoCardSaid : Prop := Claim7.holds Tryd.pinned (.plain (OpenSpec.upto fnExactMarkCellsSpec)) fnExactMarkCellsUptoCard

/-- THE SECOND FORM's CARD OF 'laws.FnExactLongestOnes'. -/
def fnExactLongestOnesUptoCard : Claim7 := { stood := { row := fnExactLongestOnesUptoRow, standIns := [], harness := (true, "18460dbcd082e34f5fc06023bb1e831d89f4dfa8b3d3ec9b40d511ecaa0f6581"), looks := false }, kinds := [], alts := [], laidByText := true, laidKinds := [.data, .pinned], laidTests := true, laidLooks := .later }
def FnExactLongestOnesUptoCardSaid : Prop := Claim7.holds Tryd.pinned (.plain (OpenSpec.upto fnExactLongestOnesSpec)) fnExactLongestOnesUptoCard

/-- THE SECOND FORM's CARD OF 'laws.FnFm'. -/
def fnFmUptoCard : Claim7 := { stood := { row := fnFmUptoRow, standIns := [], harness := (true, "18460dbcd082e34f5fc06023bb1e831d89f4dfa8b3d3ec9b40d511ecaa0f6581"), looks := false }, kinds := [], alts := [], laidByText := true, laidKinds := [.data, .pinned], laidTests := true, laidLooks := .later }
def FnFmUptoCardSaid : Prop := Claim7.holds Tryd.pinned (.plain (OpenSpec.upto fnFmSpec)) fnFmUptoCard

/-- THE SECOND FORM's CARD OF 'laws.FnGcrRepair'. -/
def fnGcrRepairUptoCard : Claim7 := { stood := { row := fnGcrRepairUptoRow, standIns := [], harness := (true, "18460dbcd082e34f5fc06023bb1e831d89f4dfa8b3d3ec9b40d511ecaa0f6581"), looks := false }, kinds := [], alts := [], laidByText := true, laidKinds := [.data, .data, .pinned], laidTests := true, laidLooks := .later }
def FnGcrRepairUptoCardSaid : Prop := Claim7.holds Tryd.pinned (.plain (OpenSpec.upto fnGcrRepairSpec)) fnGcrRepairUptoCard

/-- THE SECOND FORM's CARD OF 'laws.FnExactLongFeature'. -/
def fnExactLongFeatureUptoCard : Claim7 := { stood := { row := fnExactLongFeatureUptoRow, standIns := [], harness := (true, "18460dbcd082e34f5fc06023bb1e831d89f4dfa8b3d3ec9b40d511ecaa0f6581"), looks := false }, kinds := [], alts := [], laidByText := true, laidKinds := [.data, .pinned], laidTests := true, laidLooks := .later }
def FnExactLongFeatureUptoCardSaid : Prop := Claim7.holds Tryd.pinned (.plain (OpenSpec.upto fnExactLongFeatureSpec)) fnExactLongFeatureUptoCard

/-- THE SECOND FORM's CARD OF 'laws.FnExactSliceCells'. -/
def fnExactSliceCellsUptoCard : Claim7 := { stood := { row := fnExactSliceCellsUptoRow, standIns := [], harness := (true, "18460dbcd082e34f5fc06023bb1e831d89f4dfa8b3d3ec9b40d511ecaa0f6581"), looks := false }, kinds := [], alts := [], laidByText := true, laidKinds := [.data, .pinned], laidTests := true, laidLooks := .later }
def FnExactSliceCellsUptoCardSaid : Prop := Claim7.holds Tryd.pinned (.plain (OpenSpec.upto fnExactSliceCellsSpec)) fnExactSliceCellsUptoCard

/-- THE SECOND FORM's CARD OF 'laws.FnExactFindPattern'. -/
def fnExactFindPatternUptoCard : Claim7 := { stood := { row := fnExactFindPatternUptoRow, standIns := [], harness := (true, "18460dbcd082e34f5fc06023bb1e831d89f4dfa8b3d3ec9b40d511ecaa0f6581"), looks := false }, kinds := [], alts := [], laidByText := true, laidKinds := [.data, .pinned], laidTests := true, laidLooks := .later }
def FnExactFindPatternUptoCardSaid : Prop := Claim7.holds Tryd.pinned (.plain (OpenSpec.upto fnExactFindPatternSpec)) fnExactFindPatternUptoCard

/-- THE SECOND FORM's CARD OF 'laws.FnExactValidRevolutions'. -/
def fnExactValidRevolutionsUptoCard : Claim7 := { stood := { row := fnExactValidRevolutionsUptoRow, standIns := [], harness := (true, "18460dbcd082e34f5fc06023bb1e831d89f4dfa8b3d3ec9b40d511ecaa0f6581"), looks := false }, kinds := [], alts := [], laidByText := true, laidKinds := [.data, .pinned], laidTests := true, laidLooks := .later }
def FnExactValidRevolutionsUptoCardSaid : Prop := Claim7.holds Tryd.pinned (.plain (OpenSpec.upto fnExactValidRevolutionsSpec)) fnExactValidRevolutionsUptoCard

/-- THE SECOND FORM's CARD OF 'laws.FnExactMajorityCells'. -/
def fnExactMajorityCellsUptoCard : Claim7 := { stood := { row := fnExactMajorityCellsUptoRow, standIns := [], harness := (true, "18460dbcd082e34f5fc06023bb1e831d89f4dfa8b3d3ec9b40d511ecaa0f6581"), looks := false }, kinds := [], alts := [], laidByText := true, laidKinds := [.data, .pinned], laidTests := true, laidLooks := .later }
def FnExactMajorityCellsUptoCardSaid : Prop := Claim7.holds Tryd.pinned (.plain (OpenSpec.upto fnExactMajorityCellsSpec)) fnExactMajorityCellsUptoCard

/-- THE SECOND FORM's CARD OF 'laws.FnExactWeakCells'. -/
def fnExactWeakCellsUptoCard : Claim7 := { stood := { row := fnExactWeakCellsUptoRow, standIns := [], harness := (true, "18460dbcd082e34f5fc06023bb1e831d89f4dfa8b3d3ec9b40d511ecaa0f6581"), looks := false }, kinds := [], alts := [], laidByText := true, laidKinds := [.data, .pinned], laidTests := true, laidLooks := .later }
def FnExactWeakCellsUptoCardSaid : Prop := Claim7.holds Tryd.pinned (.plain (OpenSpec.upto fnExactWeakCellsSpec)) fnExactWeakCellsUptoCard
end Rows
end Go.Proofs.YtfmlobfgkinngaaDoor
