/-
  DERIVED. GIVEN WITH THE SEED: THE CARDS: each row of YtmbhehoakpicdaaDoorRows.lean that lists a variable, with what it lists TIED to the program's text (the seventh form; the later family's looks); each row that meets fmt, with fmt's text TOLD by the authors' own Lean function (tested against real Go, not proved from fmt's source: count such statements apart). THE CARD IS WHAT COUNTS. Prove the row's statement (the work); the ties are given (YtmbhehoakpicdaaDoorTie.lean); close each card by the builder's one call (the guide's Derived/Test/ToyasCard.lean, 'card_holds'). Laid BY PROGRAM, IN A SANDBOX (cutbox-door.mjs). By AI agents, Wed Nov 11 2026. No macro, syntax, notation, axiom, sorry.
-/
import Derived.Test.YtmbhehoakpicdaaDoorRows
import GoSem.ClaimSeven
namespace Go.Proofs.YtmbhehoakpicdaaDoor
namespace Rows

/-- THE TIED CARD OF 'laws.FnExactGcrCode'. -/
def fnExactGcrCodeCard : Claim7 := { stood := { row := fnExactGcrCodeRow, standIns := [], harness := (true, "94861127d0a4e9b57d915d755dff96856063ef4a6924975eb701a29fb1e12eb8"), looks := false }, kinds := [], alts := [], laidByText := true, laidKinds := [.data], laidTests := true, laidLooks := .later }
def FnExactGcrCodeCardSaid : Prop := Claim7.holds Tryd.pinned (.plain (OpenSpec.ofChange fnExactGcrCodeSpec)) fnExactGcrCodeCard

/-- THE TIED CARD OF 'laws.FnExactGcrValue'. -/
def fnExactGcrValueCard : Claim7 := { stood := { row := fnExactGcrValueRow, standIns := [], harness := (true, "94861127d0a4e9b57d915d755dff96856063ef4a6924975eb701a29fb1e12eb8"), looks := false }, kinds := [], alts := [], laidByText := true, laidKinds := [.data], laidTests := true, laidLooks := .later }
def FnExactGcrValueCardSaid : Prop := Claim7.holds Tryd.pinned (.plain (OpenSpec.ofChange fnExactGcrValueSpec)) fnExactGcrValueCard

/-- THE TIED CARD OF 'laws.FnExactEncodeGcr'. -/
def fnExactEncodeGcrCard : Claim7 := { stood := { row := fnExactEncodeGcrRow, standIns := [], harness := (true, "94861127d0a4e9b57d915d755dff96856063ef4a6924975eb701a29fb1e12eb8"), looks := false }, kinds := [], alts := [], laidByText := true, laidKinds := [.data], laidTests := true, laidLooks := .later }
def FnExactEncodeGcrCardSaid : Prop := Claim7.holds Tryd.pinned (.plain (OpenSpec.ofChange fnExactEncodeGcrSpec)) fnExactEncodeGcrCard

/-- THE SECOND FORM's CARD OF 'laws.FnExactGcrCode'. -/
def fnExactGcrCodeUptoCard : Claim7 := { stood := { row := fnExactGcrCodeUptoRow, standIns := [], harness := (true, "94861127d0a4e9b57d915d755dff96856063ef4a6924975eb701a29fb1e12eb8"), looks := false }, kinds := [], alts := [], laidByText := true, laidKinds := [.data], laidTests := true, laidLooks := .later }
def FnExactGcrCodeUptoCardSaid : Prop := Claim7.holds Tryd.pinned (.plain (OpenSpec.upto fnExactGcrCodeSpec)) fnExactGcrCodeUptoCard

/-- THE SECOND FORM's CARD OF 'laws.FnExactGcrValue'. -/
def fnExactGcrValueUptoCard : Claim7 := { stood := { row := fnExactGcrValueUptoRow, standIns := [], harness := (true, "94861127d0a4e9b57d915d755dff96856063ef4a6924975eb701a29fb1e12eb8"), looks := false }, kinds := [], alts := [], laidByText := true, laidKinds := [.data], laidTests := true, laidLooks := .later }
def FnExactGcrValueUptoCardSaid : Prop := Claim7.holds Tryd.pinned (.plain (OpenSpec.upto fnExactGcrValueSpec)) fnExactGcrValueUptoCard

/-- THE SECOND FORM's CARD OF 'laws.FnExactEncodeGcr'. -/
def fnExactEncodeGcrUptoCard : Claim7 := { stood := { row := fnExactEncodeGcrUptoRow, standIns := [], harness := (true, "94861127d0a4e9b57d915d755dff96856063ef4a6924975eb701a29fb1e12eb8"), looks := false }, kinds := [], alts := [], laidByText := true, laidKinds := [.data], laidTests := true, laidLooks := .later }
def FnExactEncodeGcrUptoCardSaid : Prop := Claim7.holds Tryd.pinned (.plain (OpenSpec.upto fnExactEncodeGcrSpec)) fnExactEncodeGcrUptoCard
end Rows
end Go.Proofs.YtmbhehoakpicdaaDoor
