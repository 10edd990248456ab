/-
  DERIVED. GIVEN WITH THE SEED: THE CARDS: each row of YtfmlobfgkinngabDoorRows.lean that lists a variable, with what it lists TIED to the program's text (the seventh form; the later family's looks); each row that meets fmt, with fmt's text TOLD by the authors' own Lean function (tested against real Go, not proved from fmt's source: count such statements apart). THE CARD IS WHAT COUNTS. Prove the row's statement (the work); the ties are given (YtfmlobfgkinngabDoorTie.lean); close each card by the builder's one call (the guide's Derived/Test/ToyasCard.lean, 'card_holds'). Laid BY PROGRAM, IN A SANDBOX (cutbox-door.mjs). By AI agents, Wed Nov 11 2026. No macro, syntax, notation, axiom, sorry.
-/
import Derived.Test.YtfmlobfgkinngabDoorRows
import GoSem.ClaimSeven
namespace Go.Proofs.YtfmlobfgkinngabDoor
namespace Rows

/-- THE TIED CARD OF 'laws.FnExactSyncRuns'. -/
def fnExactSyncRunsCard : Claim7 := { stood := { row := fnExactSyncRunsRow, standIns := [], harness := (true, "50f74976f23455bc8a5ca4cd9189ec734a185495f618e8ca00cc2f7ad25e865f"), looks := false }, kinds := [], alts := [], laidByText := true, laidKinds := [.data, .pinned], laidTests := true, laidLooks := .later }
def FnExactSyncRunsCardSaid : Prop := Claim7.holds Tryd.pinned (.plain (OpenSpec.ofChange fnExactSyncRunsSpec)) fnExactSyncRunsCard

/-- THE TIED CARD OF 'laws.FnExactBestShift'. -/
def fnExactBestShiftCard : Claim7 := { stood := { row := fnExactBestShiftRow, standIns := [], harness := (true, "50f74976f23455bc8a5ca4cd9189ec734a185495f618e8ca00cc2f7ad25e865f"), looks := false }, kinds := [], alts := [], laidByText := true, laidKinds := [.data, .pinned], laidTests := true, laidLooks := .later }
def FnExactBestShiftCardSaid : Prop := Claim7.holds Tryd.pinned (.plain (OpenSpec.ofChange fnExactBestShiftSpec)) fnExactBestShiftCard

/-- THE TIED CARD OF 'laws.FnExactAlignRevolutions'. -/
def fnExactAlignRevolutionsCard : Claim7 := { stood := { row := fnExactAlignRevolutionsRow, standIns := [], harness := (true, "50f74976f23455bc8a5ca4cd9189ec734a185495f618e8ca00cc2f7ad25e865f"), looks := false }, kinds := [], alts := [], laidByText := true, laidKinds := [.data, .pinned], laidTests := true, laidLooks := .later }
def FnExactAlignRevolutionsCardSaid : Prop := Claim7.holds Tryd.pinned (.plain (OpenSpec.ofChange fnExactAlignRevolutionsSpec)) fnExactAlignRevolutionsCard

/-- THE TIED CARD OF 'laws.FnExactDataMarkOf'. -/
def fnExactDataMarkOfCard : Claim7 := { stood := { row := fnExactDataMarkOfRow, standIns := [], harness := (true, "50f74976f23455bc8a5ca4cd9189ec734a185495f618e8ca00cc2f7ad25e865f"), looks := false }, kinds := [], alts := [], laidByText := true, laidKinds := [.data, .pinned], laidTests := true, laidLooks := .later }
def FnExactDataMarkOfCardSaid : Prop := Claim7.holds Tryd.pinned (.plain (OpenSpec.ofChange fnExactDataMarkOfSpec)) fnExactDataMarkOfCard

/-- THE SECOND FORM's CARD OF 'laws.FnExactSyncRuns'. -/
def fnExactSyncRunsUptoCard : Claim7 := { stood := { row := fnExactSyncRunsUptoRow, standIns := [], harness := (true, "50f74976f23455bc8a5ca4cd9189ec734a185495f618e8ca00cc2f7ad25e865f"), looks := false }, kinds := [], alts := [], laidByText := true, laidKinds := [.data, .pinned], laidTests := true, laidLooks := .later }
def FnExactSyncRunsUptoCardSaid : Prop := Claim7.holds Tryd.pinned (.plain (OpenSpec.upto fnExactSyncRunsSpec)) fnExactSyncRunsUptoCard

/-- THE SECOND FORM's CARD OF 'laws.FnExactBestShift'. -/
def fnExactBestShiftUptoCard : Claim7 := { stood := { row := fnExactBestShiftUptoRow, standIns := [], harness := (true, "50f74976f23455bc8a5ca4cd9189ec734a185495f618e8ca00cc2f7ad25e865f"), looks := false }, kinds := [], alts := [], laidByText := true, laidKinds := [.data, .pinned], laidTests := true, laidLooks := .later }
def FnExactBestShiftUptoCardSaid : Prop := Claim7.holds Tryd.pinned (.plain (OpenSpec.upto fnExactBestShiftSpec)) fnExactBestShiftUptoCard

/-- THE SECOND FORM's CARD OF 'laws.FnExactAlignRevolutions'. -/
def fnExactAlignRevolutionsUptoCard : Claim7 := { stood := { row := fnExactAlignRevolutionsUptoRow, standIns := [], harness := (true, "50f74976f23455bc8a5ca4cd9189ec734a185495f618e8ca00cc2f7ad25e865f"), looks := false }, kinds := [], alts := [], laidByText := true, laidKinds := [.data, .pinned], laidTests := true, laidLooks := .later }
def FnExactAlignRevolutionsUptoCardSaid : Prop := Claim7.holds Tryd.pinned (.plain (OpenSpec.upto fnExactAlignRevolutionsSpec)) fnExactAlignRevolutionsUptoCard

/-- THE SECOND FORM's CARD OF 'laws.FnExactDataMarkOf'. -/
def fnExactDataMarkOfUptoCard : Claim7 := { stood := { row := fnExactDataMarkOfUptoRow, standIns := [], harness := (true, "50f74976f23455bc8a5ca4cd9189ec734a185495f618e8ca00cc2f7ad25e865f"), looks := false }, kinds := [], alts := [], laidByText := true, laidKinds := [.data, .pinned], laidTests := true, laidLooks := .later }
def FnExactDataMarkOfUptoCardSaid : Prop := Claim7.holds Tryd.pinned (.plain (OpenSpec.upto fnExactDataMarkOfSpec)) fnExactDataMarkOfUptoCard
end Rows
end Go.Proofs.YtfmlobfgkinngabDoor
