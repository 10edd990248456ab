/-
  DERIVED. GIVEN WITH THE SEED: THE CARDS: each row of YtlelgpknkgjaeaaDoorRows.lean that lists a variable, with what it lists TIED to the program's text (the seventh form; the later family's looks); each row that meets fmt, with fmt's text TOLD by the authors' own Lean function (tested against real Go, not proved from fmt's source: count such statements apart). THE CARD IS WHAT COUNTS. Prove the row's statement (the work); the ties are given (YtlelgpknkgjaeaaDoorTie.lean); close each card by the builder's one call (the guide's Derived/Test/ToyasCard.lean, 'card_holds'). Laid BY PROGRAM, IN A SANDBOX (cutbox-door.mjs). By AI agents, Wed Nov 11 2026. No macro, syntax, notation, axiom, sorry.
-/
import Derived.Test.YtlelgpknkgjaeaaDoorRows
import GoSem.ClaimSeven
namespace Go.Proofs.YtlelgpknkgjaeaaDoor
namespace Rows

/-- THE TIED CARD OF 'laws.FnAligned'. -/
def fnAlignedCard : Claim7 := { stood := { row := fnAlignedRow, standIns := [], harness := (true, "283eb552b7f6c58a5ae95d1517e44d4ff4ad238f073a78da1a934a752cd42a76"), looks := false }, kinds := [], alts := [], laidByText := true, laidKinds := [.data, .pinned], laidTests := true, laidLooks := .later }
def FnAlignedCardSaid : Prop := Claim7.holds Tryd.pinned (.plain (OpenSpec.ofChange fnAlignedSpec)) fnAlignedCard

/-- THE TIED CARD OF 'laws.FnSyncs'. -/
def fnSyncsCard : Claim7 := { stood := { row := fnSyncsRow, standIns := [], harness := (true, "283eb552b7f6c58a5ae95d1517e44d4ff4ad238f073a78da1a934a752cd42a76"), looks := false }, kinds := [], alts := [], laidByText := true, laidKinds := [.data, .pinned], laidTests := true, laidLooks := .later }
def FnSyncsCardSaid : Prop := Claim7.holds Tryd.pinned (.plain (OpenSpec.ofChange fnSyncsSpec)) fnSyncsCard

/-- THE SECOND FORM's CARD OF 'laws.FnAligned'. -/
def fnAlignedUptoCard : Claim7 := { stood := { row := fnAlignedUptoRow, standIns := [], harness := (true, "283eb552b7f6c58a5ae95d1517e44d4ff4ad238f073a78da1a934a752cd42a76"), looks := false }, kinds := [], alts := [], laidByText := true, laidKinds := [.data, .pinned], laidTests := true, laidLooks := .later }
def FnAlignedUptoCardSaid : Prop := Claim7.holds Tryd.pinned (.plain (OpenSpec.upto fnAlignedSpec)) fnAlignedUptoCard

/-- THE SECOND FORM's CARD OF 'laws.FnSyncs'. -/
def fnSyncsUptoCard : Claim7 := { stood := { row := fnSyncsUptoRow, standIns := [], harness := (true, "283eb552b7f6c58a5ae95d1517e44d4ff4ad238f073a78da1a934a752cd42a76"), looks := false }, kinds := [], alts := [], laidByText := true, laidKinds := [.data, .pinned], laidTests := true, laidLooks := .later }
def FnSyncsUptoCardSaid : Prop := Claim7.holds Tryd.pinned (.plain (OpenSpec.upto fnSyncsSpec)) fnSyncsUptoCard
end Rows
end Go.Proofs.YtlelgpknkgjaeaaDoor
