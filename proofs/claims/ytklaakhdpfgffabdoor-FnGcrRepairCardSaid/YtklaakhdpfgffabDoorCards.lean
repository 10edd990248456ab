/-
  DERIVED. GIVEN WITH THE SEED: THE CARDS: each row of YtklaakhdpfgffabDoorRows.lean that lists a variable, with what it lists TIED to the program's text (the seventh form; the later family's looks); each row that meets fmt, with fmt's text TOLD by the authors' own Lean function (tested against real Go, not proved from fmt's source: count such statements apart). THE CARD IS WHAT COUNTS. Prove the row's statement (the work); the ties are given (YtklaakhdpfgffabDoorTie.lean); close each card by the builder's one call (the guide's Derived/Test/ToyasCard.lean, 'card_holds'). Laid BY PROGRAM, IN A SANDBOX (cutbox-door.mjs). By AI agents, Wed Nov 11 2026. No macro, syntax, notation, axiom, sorry.
-/
import Derived.Test.YtklaakhdpfgffabDoorRows
import GoSem.ClaimSeven
namespace Go.Proofs.YtklaakhdpfgffabDoor
namespace Rows

/-- THE TIED CARD OF 'laws.FnExactReadSector'. -/
def fnExactReadSectorCard : Claim7 := { stood := { row := fnExactReadSectorRow, standIns := [], harness := (true, "cb0ce6534ed5d1c53dfe5c2ab9bd7a2c1dd4adcedd2f60e297f21fac0781f3ad"), looks := false }, kinds := [], alts := [], laidByText := true, laidKinds := [.data, .data, .pinned], laidTests := true, laidLooks := .later }
def FnExactReadSectorCardSaid : Prop := Claim7.holds Tryd.pinned (.plain (OpenSpec.ofChange fnExactReadSectorSpec)) fnExactReadSectorCard

/-- THE TIED CARD OF 'laws.FnGcrRepair'. -/
def fnGcrRepairCard : Claim7 := { stood := { row := fnGcrRepairRow, standIns := [], harness := (true, "cb0ce6534ed5d1c53dfe5c2ab9bd7a2c1dd4adcedd2f60e297f21fac0781f3ad"), looks := false }, kinds := [], alts := [], laidByText := true, laidKinds := [.data, .data, .pinned], laidTests := true, laidLooks := .later }
def FnGcrRepairCardSaid : Prop := Claim7.holds Tryd.pinned (.plain (OpenSpec.ofChange fnGcrRepairSpec)) fnGcrRepairCard

/-- THE TIED CARD OF 'laws.FnFm'. -/
def fnFmCard : Claim7 := { stood := { row := fnFmRow, standIns := [], harness := (true, "cb0ce6534ed5d1c53dfe5c2ab9bd7a2c1dd4adcedd2f60e297f21fac0781f3ad"), looks := false }, kinds := [], alts := [], laidByText := true, laidKinds := [.data, .pinned], laidTests := true, laidLooks := .later }
def FnFmCardSaid : Prop := Claim7.holds Tryd.pinned (.plain (OpenSpec.ofChange fnFmSpec)) fnFmCard

/-- THE SECOND FORM's CARD OF 'laws.FnExactReadSector'. -/
def fnExactReadSectorUptoCard : Claim7 := { stood := { row := fnExactReadSectorUptoRow, standIns := [], harness := (true, "cb0ce6534ed5d1c53dfe5c2ab9bd7a2c1dd4adcedd2f60e297f21fac0781f3ad"), looks := false }, kinds := [], alts := [], laidByText := true, laidKinds := [.data, .data, .pinned], laidTests := true, laidLooks := .later }
def FnExactReadSectorUptoCardSaid : Prop := Claim7.holds Tryd.pinned (.plain (OpenSpec.upto fnExactReadSectorSpec)) fnExactReadSectorUptoCard

/-- THE SECOND FORM's CARD OF 'laws.FnGcrRepair'. -/
def fnGcrRepairUptoCard : Claim7 := { stood := { row := fnGcrRepairUptoRow, standIns := [], harness := (true, "cb0ce6534ed5d1c53dfe5c2ab9bd7a2c1dd4adcedd2f60e297f21fac0781f3ad"), looks := false }, kinds := [], alts := [], laidByText := true, laidKinds := [.data, .data, .pinned], laidTests := true, laidLooks := .later }
def FnGcrRepairUptoCardSaid : Prop := Claim7.holds Tryd.pinned (.plain (OpenSpec.upto fnGcrRepairSpec)) fnGcrRepairUptoCard

/-- THE SECOND FORM's CARD OF 'laws.FnFm'. -/
def fnFmUptoCard : Claim7 := { stood := { row := fnFmUptoRow, standIns := [], harness := (true, "cb0ce6534ed5d1c53dfe5c2ab9bd7a2c1dd4adcedd2f60e297f21fac0781f3ad"), looks := false }, kinds := [], alts := [], laidByText := true, laidKinds := [.data, .pinned], laidTests := true, laidLooks := .later }
def FnFmUptoCardSaid : Prop := Claim7.holds Tryd.pinned (.plain (OpenSpec.upto fnFmSpec)) fnFmUptoCard
end Rows
end Go.Proofs.YtklaakhdpfgffabDoor
