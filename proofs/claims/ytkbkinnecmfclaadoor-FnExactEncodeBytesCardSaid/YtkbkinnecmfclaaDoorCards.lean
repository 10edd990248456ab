/-
  DERIVED. GIVEN WITH THE SEED: THE CARDS: each row of YtkbkinnecmfclaaDoorRows.lean that lists a variable, with what it lists TIED to the program's text (the seventh form; the later family's looks); each row that meets fmt, with fmt's text TOLD by the authors' own Lean function (tested against real Go, not proved from fmt's source: count such statements apart). THE CARD IS WHAT COUNTS. Prove the row's statement (the work); the ties are given (YtkbkinnecmfclaaDoorTie.lean); close each card by the builder's one call (the guide's Derived/Test/ToyasCard.lean, 'card_holds'). Laid BY PROGRAM, IN A SANDBOX (cutbox-door.mjs). By AI agents, Wed Nov 11 2026. No macro, syntax, notation, axiom, sorry.
-/
import Derived.Test.YtkbkinnecmfclaaDoorRows
import GoSem.ClaimSeven
namespace Go.Proofs.YtkbkinnecmfclaaDoor
namespace Rows

/-- THE TIED CARD OF 'laws.FnExactEncodeBytes'. -/
def fnExactEncodeBytesCard : Claim7 := { stood := { row := fnExactEncodeBytesRow, standIns := [], harness := (true, "6cf5140d7819648e6d3965bb97282b97ef650f0cae4dc564dc9bb655ac6f61c8"), looks := false }, kinds := [], alts := [], laidByText := true, laidKinds := [.data], laidTests := true, laidLooks := .later }
def FnExactEncodeBytesCardSaid : Prop := Claim7.holds Tryd.pinned (.plain (OpenSpec.ofChange fnExactEncodeBytesSpec)) fnExactEncodeBytesCard

/-- THE TIED CARD OF 'laws.FnExactMarkCells'. -/
def fnExactMarkCellsCard : Claim7 := { stood := { row := fnExactMarkCellsRow, standIns := [], harness := (true, "6cf5140d7819648e6d3965bb97282b97ef650f0cae4dc564dc9bb655ac6f61c8"), looks := false }, kinds := [], alts := [], laidByText := true, laidKinds := [.data], laidTests := true, laidLooks := .later }
def FnExactMarkCellsCardSaid : Prop := Claim7.holds Tryd.pinned (.plain (OpenSpec.ofChange fnExactMarkCellsSpec)) fnExactMarkCellsCard

/-- THE TIED CARD OF 'laws.FnExactGcrDistance'. -/
def fnExactGcrDistanceCard : Claim7 := { stood := { row := fnExactGcrDistanceRow, standIns := [], harness := (true, "6cf5140d7819648e6d3965bb97282b97ef650f0cae4dc564dc9bb655ac6f61c8"), looks := false }, kinds := [], alts := [], laidByText := true, laidKinds := [.data, .pinned], laidTests := true, laidLooks := .later }
def FnExactGcrDistanceCardSaid : Prop := Claim7.holds Tryd.pinned (.plain (OpenSpec.ofChange fnExactGcrDistanceSpec)) fnExactGcrDistanceCard

/-- THE TIED CARD OF 'laws.FnExactDecodeGcr'. -/
def fnExactDecodeGcrCard : Claim7 := { stood := { row := fnExactDecodeGcrRow, standIns := [], harness := (true, "6cf5140d7819648e6d3965bb97282b97ef650f0cae4dc564dc9bb655ac6f61c8"), looks := false }, kinds := [], alts := [], laidByText := true, laidKinds := [.data, .data, .pinned], laidTests := true, laidLooks := .later }
def FnExactDecodeGcrCardSaid : Prop := Claim7.holds Tryd.pinned (.plain (OpenSpec.ofChange fnExactDecodeGcrSpec)) fnExactDecodeGcrCard

/-- THE TIED CARD OF 'laws.FnExactGcrFaults'. -/
def fnExactGcrFaultsCard : Claim7 := { stood := { row := fnExactGcrFaultsRow, standIns := [], harness := (true, "6cf5140d7819648e6d3965bb97282b97ef650f0cae4dc564dc9bb655ac6f61c8"), looks := false }, kinds := [], alts := [], laidByText := true, laidKinds := [.data, .data, .pinned], laidTests := true, laidLooks := .later }
def FnExactGcrFaultsCardSaid : Prop := Claim7.holds Tryd.pinned (.plain (OpenSpec.ofChange fnExactGcrFaultsSpec)) fnExactGcrFaultsCard

/-- THE TIED CARD OF 'laws.FnExactNearestGcr'. -/
def fnExactNearestGcrCard : Claim7 := { stood := { row := fnExactNearestGcrRow, standIns := [], harness := (true, "6cf5140d7819648e6d3965bb97282b97ef650f0cae4dc564dc9bb655ac6f61c8"), looks := false }, kinds := [], alts := [], laidByText := true, laidKinds := [.data, .data, .pinned], laidTests := true, laidLooks := .later }
def FnExactNearestGcrCardSaid : Prop := Claim7.holds Tryd.pinned (.plain (OpenSpec.ofChange fnExactNearestGcrSpec)) fnExactNearestGcrCard

/-- THE TIED CARD OF 'laws.FnExactRepairGcr'. -/
def fnExactRepairGcrCard : Claim7 := { stood := { row := fnExactRepairGcrRow, standIns := [], harness := (true, "6cf5140d7819648e6d3965bb97282b97ef650f0cae4dc564dc9bb655ac6f61c8"), looks := false }, kinds := [], alts := [], laidByText := true, laidKinds := [.data, .data, .pinned], laidTests := true, laidLooks := .later }
def FnExactRepairGcrCardSaid : Prop := Claim7.holds Tryd.pinned (.plain (OpenSpec.ofChange fnExactRepairGcrSpec)) fnExactRepairGcrCard

/-- THE TIED CARD OF 'laws.FnExactLongestOnes'. -/
def fnExactLongestOnesCard : Claim7 := { stood := { row := fnExactLongestOnesRow, standIns := [], harness := (true, "6cf5140d7819648e6d3965bb97282b97ef650f0cae4dc564dc9bb655ac6f61c8"), looks := false }, kinds := [], alts := [], laidByText := true, laidKinds := [.data, .pinned], laidTests := true, laidLooks := .later }
def FnExactLongestOnesCardSaid : Prop := Claim7.holds Tryd.pinned (.plain (OpenSpec.ofChange fnExactLongestOnesSpec)) fnExactLongestOnesCard

/-- THE TIED CARD OF 'laws.FnGcrRepair'. -/
def fnGcrRepairCard : Claim7 := { stood := { row := fnGcrRepairRow, standIns := [], harness := (true, "6cf5140d7819648e6d3965bb97282b97ef650f0cae4dc564dc9bb655ac6f61c8"), looks := false }, kinds := [], alts := [], laidByText := true, laidKinds := [.data, .data, .pinned], laidTests := true, laidLooks := .later }
def FnGcrRepairCardSaid : Prop := Claim7.holds Tryd.pinned (.plain (OpenSpec.ofChange fnGcrRepairSpec)) fnGcrRepairCard

/-- THE TIED CARD OF 'laws.FnGcr'. -/
def fnGcrCard : Claim7 := { stood := { row := fnGcrRow, standIns := [], harness := (true, "6cf5140d7819648e6d3965bb97282b97ef650f0cae4dc564dc9bb655ac6f61c8"), looks := false }, kinds := [], alts := [], laidByText := true, laidKinds := [.data, .data, .pinned], laidTests := true, laidLooks := .later }
def FnGcrCardSaid : Prop := Claim7.holds Tryd.pinned (.plain (OpenSpec.ofChange fnGcrSpec)) fnGcrCard

/-- THE TIED CARD OF 'laws.FnExactRawBytes'. -/
def fnExactRawBytesCard : Claim7 := { stood := { row := fnExactRawBytesRow, standIns := [], harness := (true, "6cf5140d7819648e6d3965bb97282b97ef650f0cae4dc564dc9bb655ac6f61c8"), looks := false }, kinds := [], alts := [], laidByText := true, laidKinds := [.data, .data, .pinned], laidTests := true, laidLooks := .later }
def FnExactRawBytesCardSaid : Prop := Claim7.holds Tryd.pinned (.plain (OpenSpec.ofChange fnExactRawBytesSpec)) fnExactRawBytesCard

/-- THE TIED CARD OF 'laws.FnFm'. -/
def fnFmCard : Claim7 := { stood := { row := fnFmRow, standIns := [], harness := (true, "6cf5140d7819648e6d3965bb97282b97ef650f0cae4dc564dc9bb655ac6f61c8"), looks := false }, kinds := [], alts := [], laidByText := true, laidKinds := [.data, .pinned], laidTests := true, laidLooks := .later }
def FnFmCardSaid : Prop := Claim7.holds Tryd.pinned (.plain (OpenSpec.ofChange fnFmSpec)) fnFmCard

/-- THE SECOND FORM's CARD OF 'laws.FnExactEncodeBytes'. -/
def fnExactEncodeBytesUptoCard : Claim7 := { stood := { row := fnExactEncodeBytesUptoRow, standIns := [], harness := (true, "6cf5140d7819648e6d3965bb97282b97ef650f0cae4dc564dc9bb655ac6f61c8"), looks := false }, kinds := [], alts := [], laidByText := true, laidKinds := [.data], laidTests := true, laidLooks := .later }
def FnExactEncodeBytesUptoCardSaid : Prop := Claim7.holds Tryd.pinned (.plain (OpenSpec.upto fnExactEncodeBytesSpec)) fnExactEncodeBytesUptoCard

/-- THE SECOND FORM's CARD OF 'laws.FnExactMarkCells'. -/
def fnExactMarkCellsUptoCard : Claim7 := { stood := { row := fnExactMarkCellsUptoRow, standIns := [], harness := (true, "6cf5140d7819648e6d3965bb97282b97ef650f0cae4dc564dc9bb655ac6f61c8"), looks := false }, kinds := [], alts := [], laidByText := true, laidKinds := [.data], laidTests := true, laidLooks := .later }
def FnExactMarkCellsUptoCardSaid : Prop := Claim7.holds Tryd.pinned (.plain (OpenSpec.upto fnExactMarkCellsSpec)) fnExactMarkCellsUptoCard

/-- THE SECOND FORM's CARD OF 'laws.FnExactGcrDistance'. -/
def fnExactGcrDistanceUptoCard : Claim7 := { stood := { row := fnExactGcrDistanceUptoRow, standIns := [], harness := (true, "6cf5140d7819648e6d3965bb97282b97ef650f0cae4dc564dc9bb655ac6f61c8"), looks := false }, kinds := [], alts := [], laidByText := true, laidKinds := [.data, .pinned], laidTests := true, laidLooks := .later }
def FnExactGcrDistanceUptoCardSaid : Prop := Claim7.holds Tryd.pinned (.plain (OpenSpec.upto fnExactGcrDistanceSpec)) fnExactGcrDistanceUptoCard

/-- THE SECOND FORM's CARD OF 'laws.FnExactDecodeGcr'. -/
def fnExactDecodeGcrUptoCard : Claim7 := { stood := { row := fnExactDecodeGcrUptoRow, standIns := [], harness := (true, "6cf5140d7819648e6d3965bb97282b97ef650f0cae4dc564dc9bb655ac6f61c8"), looks := false }, kinds := [], alts := [], laidByText := true, laidKinds := [.data, .data, .pinned], laidTests := true, laidLooks := .later }
def FnExactDecodeGcrUptoCardSaid : Prop := Claim7.holds Tryd.pinned (.plain (OpenSpec.upto fnExactDecodeGcrSpec)) fnExactDecodeGcrUptoCard

/-- THE SECOND FORM's CARD OF 'laws.FnExactGcrFaults'. -/
def fnExactGcrFaultsUptoCard : Claim7 := { stood := { row := fnExactGcrFaultsUptoRow, standIns := [], harness := (true, "6cf5140d7819648e6d3965bb97282b97ef650f0cae4dc564dc9bb655ac6f61c8"), looks := false }, kinds := [], alts := [], laidByText := true, laidKinds := [.data, .data, .pinned], laidTests := true, laidLooks := .later }
def FnExactGcrFaultsUptoCardSaid : Prop := Claim7.holds Tryd.pinned (.plain (OpenSpec.upto fnExactGcrFaultsSpec)) fnExactGcrFaultsUptoCard

/-- THE SECOND FORM's CARD OF 'laws.FnExactNearestGcr'. -/
def fnExactNearestGcrUptoCard : Claim7 := { stood := { row := fnExactNearestGcrUptoRow, standIns := [], harness := (true, "6cf5140d7819648e6d3965bb97282b97ef650f0cae4dc564dc9bb655ac6f61c8"), looks := false }, kinds := [], alts := [], laidByText := true, laidKinds := [.data, .data, .pinned], laidTests := true, laidLooks := .later }
def FnExactNearestGcrUptoCardSaid : Prop := Claim7.holds Tryd.pinned (.plain (OpenSpec.upto fnExactNearestGcrSpec)) fnExactNearestGcrUptoCard

/-- THE SECOND FORM's CARD OF 'laws.FnExactRepairGcr'. -/
def fnExactRepairGcrUptoCard : Claim7 := { stood := { row := fnExactRepairGcrUptoRow, standIns := [], harness := (true, "6cf5140d7819648e6d3965bb97282b97ef650f0cae4dc564dc9bb655ac6f61c8"), looks := false }, kinds := [], alts := [], laidByText := true, laidKinds := [.data, .data, .pinned], laidTests := true, laidLooks := .later }
def FnExactRepairGcrUptoCardSaid : Prop := Claim7.holds Tryd.pinned (.plain (OpenSpec.upto fnExactRepairGcrSpec)) fnExactRepairGcrUptoCard

/-- THE SECOND FORM's CARD OF 'laws.FnExactLongestOnes'. -/
def fnExactLongestOnesUptoCard : Claim7 := { stood := { row := fnExactLongestOnesUptoRow, standIns := [], harness := (true, "6cf5140d7819648e6d3965bb97282b97ef650f0cae4dc564dc9bb655ac6f61c8"), looks := false }, kinds := [], alts := [], laidByText := true, laidKinds := [.data, .pinned], laidTests := true, laidLooks := .later }
def FnExactLongestOnesUptoCardSaid : Prop := Claim7.holds Tryd.pinned (.plain (OpenSpec.upto fnExactLongestOnesSpec)) fnExactLongestOnesUptoCard

/-- THE SECOND FORM's CARD OF 'laws.FnGcrRepair'. -/
def fnGcrRepairUptoCard : Claim7 := { stood := { row := fnGcrRepairUptoRow, standIns := [], harness := (true, "6cf5140d7819648e6d3965bb97282b97ef650f0cae4dc564dc9bb655ac6f61c8"), looks := false }, kinds := [], alts := [], laidByText := true, laidKinds := [.data, .data, .pinned], laidTests := true, laidLooks := .later }
def FnGcrRepairUptoCardSaid : Prop := Claim7.holds Tryd.pinned (.plain (OpenSpec.upto fnGcrRepairSpec)) fnGcrRepairUptoCard

/-- THE SECOND FORM's CARD OF 'laws.FnGcr'. -/
def fnGcrUptoCard : Claim7 := { stood := { row := fnGcrUptoRow, standIns := [], harness := (true, "6cf5140d7819648e6d3965bb97282b97ef650f0cae4dc564dc9bb655ac6f61c8"), looks := false }, kinds := [], alts := [], laidByText := true, laidKinds := [.data, .data, .pinned], laidTests := true, laidLooks := .later }
def FnGcrUptoCardSaid : Prop := Claim7.holds Tryd.pinned (.plain (OpenSpec.upto fnGcrSpec)) fnGcrUptoCard

/-- THE SECOND FORM's CARD OF 'laws.FnExactRawBytes'. -/
def fnExactRawBytesUptoCard : Claim7 := { stood := { row := fnExactRawBytesUptoRow, standIns := [], harness := (true, "6cf5140d7819648e6d3965bb97282b97ef650f0cae4dc564dc9bb655ac6f61c8"), looks := false }, kinds := [], alts := [], laidByText := true, laidKinds := [.data, .data, .pinned], laidTests := true, laidLooks := .later }
def FnExactRawBytesUptoCardSaid : Prop := Claim7.holds Tryd.pinned (.plain (OpenSpec.upto fnExactRawBytesSpec)) fnExactRawBytesUptoCard

/-- THE SECOND FORM's CARD OF 'laws.FnFm'. -/
def fnFmUptoCard : Claim7 := { stood := { row := fnFmUptoRow, standIns := [], harness := (true, "6cf5140d7819648e6d3965bb97282b97ef650f0cae4dc564dc9bb655ac6f61c8"), looks := false }, kinds := [], alts := [], laidByText := true, laidKinds := [.data, .pinned], laidTests := true, laidLooks := .later }
def FnFmUptoCardSaid : Prop := Claim7.holds Tryd.pinned (.plain (OpenSpec.upto fnFmSpec)) fnFmUptoCard
end Rows
end Go.Proofs.YtkbkinnecmfclaaDoor
