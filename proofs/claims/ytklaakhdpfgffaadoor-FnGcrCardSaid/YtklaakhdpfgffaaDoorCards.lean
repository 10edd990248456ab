/-
  DERIVED. GIVEN WITH THE SEED: THE CARDS: each row of YtklaakhdpfgffaaDoorRows.lean that lists a variable, with what it lists TIED to the program's text (the seventh form; the later family's looks); each row that meets fmt, with fmt's text TOLD by the authors' own Lean function (tested against real Go, not proved from fmt's source: count such statements apart). THE CARD IS WHAT COUNTS. Prove the row's statement (the work); the ties are given (YtklaakhdpfgffaaDoorTie.lean); close each card by the builder's one call (the guide's Derived/Test/ToyasCard.lean, 'card_holds'). Laid BY PROGRAM, IN A SANDBOX (cutbox-door.mjs). By AI agents, Wed Nov 11 2026. No macro, syntax, notation, axiom, sorry.
-/
import Derived.Test.YtklaakhdpfgffaaDoorRows
import GoSem.ClaimSeven
namespace Go.Proofs.YtklaakhdpfgffaaDoor
namespace Rows

/-- THE TIED CARD OF 'laws.FnExactFeatureText'. -/
def fnExactFeatureTextCard : Claim7 := { stood := { row := fnExactFeatureTextRow, standIns := [], harness := (true, "84c4da1ddc5a0e6388758dd4319fcb91aeb8e60492a1af5439dabec9df7550d7"), looks := false }, kinds := [], alts := [], laidByText := true, laidKinds := [.data, .data, .data, .data], laidTests := true, laidLooks := .later }
def FnExactFeatureTextCardSaid : Prop := Claim7.holds Tryd.pinned (.plain (OpenSpec.ofChange fnExactFeatureTextSpec)) fnExactFeatureTextCard

/-- THE TIED CARD OF 'laws.FnExactFoundText'. -/
def fnExactFoundTextCard : Claim7 := { stood := { row := fnExactFoundTextRow, standIns := [], harness := (true, "84c4da1ddc5a0e6388758dd4319fcb91aeb8e60492a1af5439dabec9df7550d7"), looks := false }, kinds := [], alts := [], laidByText := true, laidKinds := [.data, .data, .data], laidTests := true, laidLooks := .later }
def FnExactFoundTextCardSaid : Prop := Claim7.holds Tryd.pinned (.plain (OpenSpec.ofChange fnExactFoundTextSpec)) fnExactFoundTextCard

/-- THE TIED CARD OF 'laws.FnExactVotedText'. -/
def fnExactVotedTextCard : Claim7 := { stood := { row := fnExactVotedTextRow, standIns := [], harness := (true, "84c4da1ddc5a0e6388758dd4319fcb91aeb8e60492a1af5439dabec9df7550d7"), looks := false }, kinds := [], alts := [], laidByText := true, laidKinds := [.data, .data, .data], laidTests := true, laidLooks := .later }
def FnExactVotedTextCardSaid : Prop := Claim7.holds Tryd.pinned (.plain (OpenSpec.ofChange fnExactVotedTextSpec)) fnExactVotedTextCard

/-- THE TIED CARD OF 'laws.FnMfmRuns'. -/
def fnMfmRunsCard : Claim7 := { stood := { row := fnMfmRunsRow, standIns := [], harness := (true, "84c4da1ddc5a0e6388758dd4319fcb91aeb8e60492a1af5439dabec9df7550d7"), looks := false }, kinds := [], alts := [], laidByText := true, laidKinds := [.data, .pinned], laidTests := true, laidLooks := .later }
def FnMfmRunsCardSaid : Prop := Claim7.holds Tryd.pinned (.plain (OpenSpec.ofChange fnMfmRunsSpec)) fnMfmRunsCard

/-- THE TIED CARD OF 'laws.FnGcr'. -/
def fnGcrCard : Claim7 := { stood := { row := fnGcrRow, standIns := [], harness := (true, "84c4da1ddc5a0e6388758dd4319fcb91aeb8e60492a1af5439dabec9df7550d7"), looks := false }, kinds := [], alts := [], laidByText := true, laidKinds := [.data, .data, .pinned], laidTests := true, laidLooks := .later }
def FnGcrCardSaid : Prop := Claim7.holds Tryd.pinned (.plain (OpenSpec.ofChange fnGcrSpec)) fnGcrCard

/-- THE SECOND FORM's CARD OF 'laws.FnExactFeatureText'. -/
def fnExactFeatureTextUptoCard : Claim7 := { stood := { row := fnExactFeatureTextUptoRow, standIns := [], harness := (true, "84c4da1ddc5a0e6388758dd4319fcb91aeb8e60492a1af5439dabec9df7550d7"), looks := false }, kinds := [], alts := [], laidByText := true, laidKinds := [.data, .data, .data, .data], laidTests := true, laidLooks := .later }
def FnExactFeatureTextUptoCardSaid : Prop := Claim7.holds Tryd.pinned (.plain (OpenSpec.upto fnExactFeatureTextSpec)) fnExactFeatureTextUptoCard

/-- THE SECOND FORM's CARD OF 'laws.FnExactFoundText'. -/
def fnExactFoundTextUptoCard : Claim7 := { stood := { row := fnExactFoundTextUptoRow, standIns := [], harness := (true, "84c4da1ddc5a0e6388758dd4319fcb91aeb8e60492a1af5439dabec9df7550d7"), looks := false }, kinds := [], alts := [], laidByText := true, laidKinds := [.data, .data, .data], laidTests := true, laidLooks := .later }
def FnExactFoundTextUptoCardSaid : Prop := Claim7.holds Tryd.pinned (.plain (OpenSpec.upto fnExactFoundTextSpec)) fnExactFoundTextUptoCard

/-- THE SECOND FORM's CARD OF 'laws.FnExactVotedText'. -/
def fnExactVotedTextUptoCard : Claim7 := { stood := { row := fnExactVotedTextUptoRow, standIns := [], harness := (true, "84c4da1ddc5a0e6388758dd4319fcb91aeb8e60492a1af5439dabec9df7550d7"), looks := false }, kinds := [], alts := [], laidByText := true, laidKinds := [.data, .data, .data], laidTests := true, laidLooks := .later }
def FnExactVotedTextUptoCardSaid : Prop := Claim7.holds Tryd.pinned (.plain (OpenSpec.upto fnExactVotedTextSpec)) fnExactVotedTextUptoCard

/-- THE SECOND FORM's CARD OF 'laws.FnMfmRuns'. -/
def fnMfmRunsUptoCard : Claim7 := { stood := { row := fnMfmRunsUptoRow, standIns := [], harness := (true, "84c4da1ddc5a0e6388758dd4319fcb91aeb8e60492a1af5439dabec9df7550d7"), looks := false }, kinds := [], alts := [], laidByText := true, laidKinds := [.data, .pinned], laidTests := true, laidLooks := .later }
def FnMfmRunsUptoCardSaid : Prop := Claim7.holds Tryd.pinned (.plain (OpenSpec.upto fnMfmRunsSpec)) fnMfmRunsUptoCard

/-- THE SECOND FORM's CARD OF 'laws.FnGcr'. -/
def fnGcrUptoCard : Claim7 := { stood := { row := fnGcrUptoRow, standIns := [], harness := (true, "84c4da1ddc5a0e6388758dd4319fcb91aeb8e60492a1af5439dabec9df7550d7"), looks := false }, kinds := [], alts := [], laidByText := true, laidKinds := [.data, .data, .pinned], laidTests := true, laidLooks := .later }
def FnGcrUptoCardSaid : Prop := Claim7.holds Tryd.pinned (.plain (OpenSpec.upto fnGcrSpec)) fnGcrUptoCard
end Rows
end Go.Proofs.YtklaakhdpfgffaaDoor
