/-
  DERIVED. GIVEN WITH THE SEED: THE CARDS: each row of YtnipneeolkkleabDoorRows.lean that lists a variable, with what it lists TIED to the program's text (the seventh form; the later family's looks); each row that meets fmt, with fmt's text TOLD by the authors' own Lean function (tested against real Go, not proved from fmt's source: count such statements apart). THE CARD IS WHAT COUNTS. Prove the row's statement (the work); the ties are given (YtnipneeolkkleabDoorTie.lean); close each card by the builder's one call (the guide's Derived/Test/ToyasCard.lean, 'card_holds'). Laid BY PROGRAM, IN A SANDBOX (cutbox-door.mjs). By AI agents, Wed Nov 11 2026. No macro, syntax, notation, axiom, sorry.
-/
import Derived.Test.YtnipneeolkkleabDoorRows
import GoSem.ClaimSeven
namespace Go.Proofs.YtnipneeolkkleabDoor
namespace Rows

/-- THE TIED CARD OF 'laws.FnExactFieldAt'. -/
def fnExactFieldAtCard : Claim7 := { stood := { row := fnExactFieldAtRow, standIns := [], harness := (true, "c0e9923be02d499e6503356c54cf5612190e8354481eb8ed339a250b033d2c3e"), looks := false }, kinds := [], alts := [], laidByText := true, laidKinds := [.data, .data, .pinned], laidTests := true, laidLooks := .later }
def FnExactFieldAtCardSaid : Prop := Claim7.holds Tryd.pinned (.plain (OpenSpec.ofChange fnExactFieldAtSpec)) fnExactFieldAtCard

/-- THE TIED CARD OF 'laws.FnExactReadSector'. -/
def fnExactReadSectorCard : Claim7 := { stood := { row := fnExactReadSectorRow, standIns := [], harness := (true, "c0e9923be02d499e6503356c54cf5612190e8354481eb8ed339a250b033d2c3e"), looks := false }, kinds := [], alts := [], laidByText := true, laidKinds := [.data, .data, .pinned], laidTests := true, laidLooks := .later }
def FnExactReadSectorCardSaid : Prop := Claim7.holds Tryd.pinned (.plain (OpenSpec.ofChange fnExactReadSectorSpec)) fnExactReadSectorCard

/-- THE SECOND FORM's CARD OF 'laws.FnExactFieldAt'. -/
def fnExactFieldAtUptoCard : Claim7 := { stood := { row := fnExactFieldAtUptoRow, standIns := [], harness := (true, "c0e9923be02d499e6503356c54cf5612190e8354481eb8ed339a250b033d2c3e"), looks := false }, kinds := [], alts := [], laidByText := true, laidKinds := [.data, .data, .pinned], laidTests := true, laidLooks := .later }
def FnExactFieldAtUptoCardSaid : Prop := Claim7.holds Tryd.pinned (.plain (OpenSpec.upto fnExactFieldAtSpec)) fnExactFieldAtUptoCard

/-- THE SECOND FORM's CARD OF 'laws.FnExactReadSector'. -/
def fnExactReadSectorUptoCard : Claim7 := { stood := { row := fnExactReadSectorUptoRow, standIns := [], harness := (true, "c0e9923be02d499e6503356c54cf5612190e8354481eb8ed339a250b033d2c3e"), looks := false }, kinds := [], alts := [], laidByText := true, laidKinds := [.data, .data, .pinned], laidTests := true, laidLooks := .later }
def FnExactReadSectorUptoCardSaid : Prop := Claim7.holds Tryd.pinned (.plain (OpenSpec.upto fnExactReadSectorSpec)) fnExactReadSectorUptoCard
end Rows
end Go.Proofs.YtnipneeolkkleabDoor
