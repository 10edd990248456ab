/-
  DERIVED. GIVEN WITH THE SEED: THE CARDS: each row of YtdnkjbgfaniafaaDoorRows.lean that lists a variable, with what it lists TIED to the program's text (the seventh form; the later family's looks); each row that meets fmt, with fmt's text TOLD by the authors' own Lean function (tested against real Go, not proved from fmt's source: count such statements apart). THE CARD IS WHAT COUNTS. Prove the row's statement (the work); the ties are given (YtdnkjbgfaniafaaDoorTie.lean); close each card by the builder's one call (the guide's Derived/Test/ToyasCard.lean, 'card_holds'). Laid BY PROGRAM, IN A SANDBOX (cutbox-door.mjs). By AI agents, Wed Nov 11 2026. No macro, syntax, notation, axiom, sorry.
-/
import Derived.Test.YtdnkjbgfaniafaaDoorRows
import GoSem.ClaimSeven
namespace Go.Proofs.YtdnkjbgfaniafaaDoor
namespace Rows

/-- THE TIED CARD OF 'laws.FnFm'. -/
def fnFmCard : Claim7 := { stood := { row := fnFmRow, standIns := [], harness := (true, "70a7f11475283b5d7b9baf1049280211ce33012da1321ba36a1ffc2919e06537"), looks := false }, kinds := [], alts := [], laidByText := true, laidKinds := [.data, .pinned], laidTests := true, laidLooks := .later }
def FnFmCardSaid : Prop := Claim7.holds Tryd.pinned (.plain (OpenSpec.ofChange fnFmSpec)) fnFmCard

/-- THE TIED CARD OF 'laws.FnMfmRuns'. -/
def fnMfmRunsCard : Claim7 := { stood := { row := fnMfmRunsRow, standIns := [], harness := (true, "70a7f11475283b5d7b9baf1049280211ce33012da1321ba36a1ffc2919e06537"), looks := false }, kinds := [], alts := [], laidByText := true, laidKinds := [.data, .pinned], laidTests := true, laidLooks := .later }
def FnMfmRunsCardSaid : Prop := Claim7.holds Tryd.pinned (.plain (OpenSpec.ofChange fnMfmRunsSpec)) fnMfmRunsCard

/-- THE SECOND FORM's CARD OF 'laws.FnFm'. -/
def fnFmUptoCard : Claim7 := { stood := { row := fnFmUptoRow, standIns := [], harness := (true, "70a7f11475283b5d7b9baf1049280211ce33012da1321ba36a1ffc2919e06537"), looks := false }, kinds := [], alts := [], laidByText := true, laidKinds := [.data, .pinned], laidTests := true, laidLooks := .later }
def FnFmUptoCardSaid : Prop := Claim7.holds Tryd.pinned (.plain (OpenSpec.upto fnFmSpec)) fnFmUptoCard

/-- THE SECOND FORM's CARD OF 'laws.FnMfmRuns'. -/
def fnMfmRunsUptoCard : Claim7 := { stood := { row := fnMfmRunsUptoRow, standIns := [], harness := (true, "70a7f11475283b5d7b9baf1049280211ce33012da1321ba36a1ffc2919e06537"), looks := false }, kinds := [], alts := [], laidByText := true, laidKinds := [.data, .pinned], laidTests := true, laidLooks := .later }
def FnMfmRunsUptoCardSaid : Prop := Claim7.holds Tryd.pinned (.plain (OpenSpec.upto fnMfmRunsSpec)) fnMfmRunsUptoCard
end Rows
end Go.Proofs.YtdnkjbgfaniafaaDoor
