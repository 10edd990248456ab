/-
  DERIVED. GIVEN WITH THE SEED: THE CARDS: each row of YtlelgpknkgjaeaaGreatDoorRows.lean that lists a variable, with what it lists TIED to the program's text (the seventh form; the later family's looks); each row that meets fmt, with fmt's text TOLD by the authors' own Lean function (tested against real Go, not proved from fmt's source: count such statements apart). THE CARD IS WHAT COUNTS. Prove the row's statement (the work); the ties are given (YtlelgpknkgjaeaaGreatDoorTie.lean); close each card by the builder's one call (the guide's Derived/Test/ToyasCard.lean, 'card_holds'). Laid BY PROGRAM, IN A SANDBOX (cutbox-door.mjs). By AI agents, Wed Nov 11 2026. No macro, syntax, notation, axiom, sorry.
-/
import Derived.Test.YtlelgpknkgjaeaaGreatDoorRows
import GoSem.ClaimSeven
namespace Go.Proofs.YtlelgpknkgjaeaaGreatDoor
namespace Rows

/-- THE TIED CARD OF 'laws.FnExactFindMarks'. -/
def fnExactFindMarksCard : Claim7 := { stood := { row := fnExactFindMarksRow, standIns := [], harness := (true, "1bccea72c96c7e03b4144b021cc40e2c93c22838b66dd8cea375b3c0c44d23f7"), looks := false }, kinds := [], alts := [], laidByText := true, laidKinds := [.data, .data, .pinned], laidTests := true, laidLooks := .later }
def FnExactFindMarksCardSaid : Prop := Claim7.holds Tryz.pinned (.plain (OpenSpec.ofChange fnExactFindMarksSpec)) fnExactFindMarksCard

/-- THE TIED CARD OF 'laws.FnExactReadTrack'. -/
def fnExactReadTrackCard : Claim7 := { stood := { row := fnExactReadTrackRow, standIns := [], harness := (true, "1bccea72c96c7e03b4144b021cc40e2c93c22838b66dd8cea375b3c0c44d23f7"), looks := false }, kinds := [], alts := [], laidByText := true, laidKinds := [.data, .data, .pinned], laidTests := true, laidLooks := .later }
def FnExactReadTrackCardSaid : Prop := Claim7.holds Tryz.pinned (.plain (OpenSpec.ofChange fnExactReadTrackSpec)) fnExactReadTrackCard

/-- THE TIED CARD OF 'laws.FnExactReadRevolutions'. -/
def fnExactReadRevolutionsCard : Claim7 := { stood := { row := fnExactReadRevolutionsRow, standIns := [], harness := (true, "1bccea72c96c7e03b4144b021cc40e2c93c22838b66dd8cea375b3c0c44d23f7"), looks := false }, kinds := [], alts := [], laidByText := true, laidKinds := [.data, .data, .pinned], laidTests := true, laidLooks := .later }
def FnExactReadRevolutionsCardSaid : Prop := Claim7.holds Tryz.pinned (.plain (OpenSpec.ofChange fnExactReadRevolutionsSpec)) fnExactReadRevolutionsCard

/-- THE TIED CARD OF 'laws.FnMarks'. -/
def fnMarksCard : Claim7 := { stood := { row := fnMarksRow, standIns := [], harness := (true, "1bccea72c96c7e03b4144b021cc40e2c93c22838b66dd8cea375b3c0c44d23f7"), looks := false }, kinds := [], alts := [], laidByText := true, laidKinds := [.data, .data, .pinned], laidTests := true, laidLooks := .later }
def FnMarksCardSaid : Prop := Claim7.holds Tryz.pinned (.plain (OpenSpec.ofChange fnMarksSpec)) fnMarksCard

/-- THE SECOND FORM's CARD OF 'laws.FnExactFindMarks'. -/
def fnExactFindMarksUptoCard : Claim7 := { stood := { row := fnExactFindMarksUptoRow, standIns := [], harness := (true, "1bccea72c96c7e03b4144b021cc40e2c93c22838b66dd8cea375b3c0c44d23f7"), looks := false }, kinds := [], alts := [], laidByText := true, laidKinds := [.data, .data, .pinned], laidTests := true, laidLooks := .later }
def FnExactFindMarksUptoCardSaid : Prop := Claim7.holds Tryz.pinned (.plain (OpenSpec.upto fnExactFindMarksSpec)) fnExactFindMarksUptoCard

/-- THE SECOND FORM's CARD OF 'laws.FnExactReadTrack'. -/
def fnExactReadTrackUptoCard : Claim7 := { stood := { row := fnExactReadTrackUptoRow, standIns := [], harness := (true, "1bccea72c96c7e03b4144b021cc40e2c93c22838b66dd8cea375b3c0c44d23f7"), looks := false }, kinds := [], alts := [], laidByText := true, laidKinds := [.data, .data, .pinned], laidTests := true, laidLooks := .later }
def FnExactReadTrackUptoCardSaid : Prop := Claim7.holds Tryz.pinned (.plain (OpenSpec.upto fnExactReadTrackSpec)) fnExactReadTrackUptoCard

/-- THE SECOND FORM's CARD OF 'laws.FnExactReadRevolutions'. -/
def fnExactReadRevolutionsUptoCard : Claim7 := { stood := { row := fnExactReadRevolutionsUptoRow, standIns := [], harness := (true, "1bccea72c96c7e03b4144b021cc40e2c93c22838b66dd8cea375b3c0c44d23f7"), looks := false }, kinds := [], alts := [], laidByText := true, laidKinds := [.data, .data, .pinned], laidTests := true, laidLooks := .later }
def FnExactReadRevolutionsUptoCardSaid : Prop := Claim7.holds Tryz.pinned (.plain (OpenSpec.upto fnExactReadRevolutionsSpec)) fnExactReadRevolutionsUptoCard

/-- THE SECOND FORM's CARD OF 'laws.FnMarks'. -/
def fnMarksUptoCard : Claim7 := { stood := { row := fnMarksUptoRow, standIns := [], harness := (true, "1bccea72c96c7e03b4144b021cc40e2c93c22838b66dd8cea375b3c0c44d23f7"), looks := false }, kinds := [], alts := [], laidByText := true, laidKinds := [.data, .data, .pinned], laidTests := true, laidLooks := .later }
def FnMarksUptoCardSaid : Prop := Claim7.holds Tryz.pinned (.plain (OpenSpec.upto fnMarksSpec)) fnMarksUptoCard
end Rows
end Go.Proofs.YtlelgpknkgjaeaaGreatDoor
