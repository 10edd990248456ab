/-
  NARROWER THAN 'FOR EVERY INPUT', by the rows' own cells (each row's printed sentence says how): FnExactGcrCode: laid · FnExactGcrValue: laid · FnExactEncodeGcr: laid.
  DERIVED. THE GIVEN ROWS OF THIS SEAT. 3 by the template 'for every input the law returns true; each argument reads behind the call as it read before'; 0 by the template 'total and deterministic' (their statements: YtmbhehoakpicdaaDoorTotals.lean).
  GIVEN WITH THE SEED: the statements are not yours to turn. If you find one false, say at which input.
  Laid BY PROGRAM, IN A SANDBOX (cutbox-rows.mjs): the forced cells as the released guide's own fill.sh prints them over the translation 2e80269144f9c76e… (all of the seat's roots in one cut). By AI agents, Wed Nov 11 2026. No macro, syntax, notation, axiom, sorry.
-/
import Derived.Test.YtmbhehoakpicdaaDoorChecked
import GoSem.Claim
import GoSem.ClaimJoined
import GoSem.ClaimMapViews
import Derived.JoinedTies
import Derived.KernelRfl
namespace Go.Proofs.YtmbhehoakpicdaaDoor
/- THE CELL 'sum', in the pinned program and in every row, IS THE sha256 OF THE DUMP (.gsa) THAT YtmbhehoakpicdaaDoorProg.lean LOADS. Nothing in Lean hashes anything: it is a label: what it is worth is what the hold of that sum in a sandbox is worth. -/
noncomputable def Tryd.pinned : Pinned := { name := "ytmbhehoakpicdaadoor", sum := "2e80269144f9c76e3808d4fe49a9b83b3929681eceff78e7727b48c8a5b4dc76", checked := Tryd.checked }
namespace Rows
def none {H : Type} : Left H := { results := [], args := [] }

/- WHAT THE LISTED PACKAGE-LEVEL VARIABLES READ AS WHEN THE CALL BEGINS. Each datum BY PROGRAM (the guide's laid-datum.mjs) off the statement by which the dump's own 'gosem.cut.vars' lays the variable. In a bare row this is a premise. The card (YtmbhehoakpicdaaDoorCards.lean) ties it to the program's text. -/
def laid_loop_example_g00899_impl_gcrTable {H : Type} : DataW H := .agg [.lit (.string [48, 49, 48, 49, 48]), .lit (.string [48, 49, 48, 49, 49]), .lit (.string [49, 48, 48, 49, 48]), .lit (.string [49, 48, 48, 49, 49]), .lit (.string [48, 49, 49, 49, 48]), .lit (.string [48, 49, 49, 49, 49]), .lit (.string [49, 48, 49, 49, 48]), .lit (.string [49, 48, 49, 49, 49]), .lit (.string [48, 49, 48, 48, 49]), .lit (.string [49, 49, 48, 48, 49]), .lit (.string [49, 49, 48, 49, 48]), .lit (.string [49, 49, 48, 49, 49]), .lit (.string [48, 49, 49, 48, 49]), .lit (.string [49, 49, 49, 48, 49]), .lit (.string [49, 49, 49, 49, 48]), .lit (.string [49, 48, 49, 48, 49])]

/-- 'laws.FnExactGcrCode': WHATEVER THE INPUT: true; the input reads as it did. -/
def fnExactGcrCodeSpec : ChangeSpec := { name := "fnExactGcrCode", vars := ["loop.example/g00899/impl.gcrTable"], fn := fun _ => fun
  | [d, g1] => { results := [.lit (.bool true)], args := [d], vars := [g1] }
  | _ => none }
def fnExactGcrCodeRow : OpenClaim := { program := "ytmbhehoakpicdaadoor", sum := "2e80269144f9c76e3808d4fe49a9b83b3929681eceff78e7727b48c8a5b4dc76", func := "loop.example/g00899/laws.FnExactGcrCode", spec := "fnExactGcrCode", named := ["loop.example/g00899/impl.gcrTable"], apart := false, laid := [("loop.example/g00899/impl.gcrTable", laid_loop_example_g00899_impl_gcrTable)] }
def FnExactGcrCodeSaid : Prop := fnExactGcrCodeRow.holds Tryd.pinned (OpenSpec.ofChange fnExactGcrCodeSpec)

/-- ITS FALSE NEIGHBOUR: 'it returns false'. Refute it at one input. -/
def fnExactGcrCodeWrong : ChangeSpec := { name := "fnExactGcrCode", vars := ["loop.example/g00899/impl.gcrTable"], fn := fun _ => fun
  | [d, g1] => { results := [.lit (.bool false)], args := [d], vars := [g1] }
  | _ => none }
def FnExactGcrCodeWrongFalsely : Prop := fnExactGcrCodeRow.holds Tryd.pinned (OpenSpec.ofChange fnExactGcrCodeWrong)

/-- 'laws.FnExactGcrValue': WHATEVER THE INPUT: true; the input reads as it did. -/
def fnExactGcrValueSpec : ChangeSpec := { name := "fnExactGcrValue", vars := ["loop.example/g00899/impl.gcrTable"], fn := fun _ => fun
  | [d, g1] => { results := [.lit (.bool true)], args := [d], vars := [g1] }
  | _ => none }
def fnExactGcrValueRow : OpenClaim := { program := "ytmbhehoakpicdaadoor", sum := "2e80269144f9c76e3808d4fe49a9b83b3929681eceff78e7727b48c8a5b4dc76", func := "loop.example/g00899/laws.FnExactGcrValue", spec := "fnExactGcrValue", named := ["loop.example/g00899/impl.gcrTable"], apart := false, laid := [("loop.example/g00899/impl.gcrTable", laid_loop_example_g00899_impl_gcrTable)] }
def FnExactGcrValueSaid : Prop := fnExactGcrValueRow.holds Tryd.pinned (OpenSpec.ofChange fnExactGcrValueSpec)

/-- ITS FALSE NEIGHBOUR: 'it returns false'. Refute it at one input. -/
def fnExactGcrValueWrong : ChangeSpec := { name := "fnExactGcrValue", vars := ["loop.example/g00899/impl.gcrTable"], fn := fun _ => fun
  | [d, g1] => { results := [.lit (.bool false)], args := [d], vars := [g1] }
  | _ => none }
def FnExactGcrValueWrongFalsely : Prop := fnExactGcrValueRow.holds Tryd.pinned (OpenSpec.ofChange fnExactGcrValueWrong)

/-- 'laws.FnExactEncodeGcr': WHATEVER THE INPUT: true; the input reads as it did. -/
def fnExactEncodeGcrSpec : ChangeSpec := { name := "fnExactEncodeGcr", vars := ["loop.example/g00899/impl.gcrTable"], fn := fun _ => fun
  | [d, g1] => { results := [.lit (.bool true)], args := [d], vars := [g1] }
  | _ => none }
def fnExactEncodeGcrRow : OpenClaim := { program := "ytmbhehoakpicdaadoor", sum := "2e80269144f9c76e3808d4fe49a9b83b3929681eceff78e7727b48c8a5b4dc76", func := "loop.example/g00899/laws.FnExactEncodeGcr", spec := "fnExactEncodeGcr", inPlace := ["internal/abi.NoEscape"], named := ["loop.example/g00899/impl.gcrTable"], apart := false, laid := [("loop.example/g00899/impl.gcrTable", laid_loop_example_g00899_impl_gcrTable)] }
def FnExactEncodeGcrSaid : Prop := fnExactEncodeGcrRow.holds Tryd.pinned (OpenSpec.ofChange fnExactEncodeGcrSpec)

/-- ITS FALSE NEIGHBOUR: 'it returns false'. Refute it at one input. -/
def fnExactEncodeGcrWrong : ChangeSpec := { name := "fnExactEncodeGcr", vars := ["loop.example/g00899/impl.gcrTable"], fn := fun _ => fun
  | [d, g1] => { results := [.lit (.bool false)], args := [d], vars := [g1] }
  | _ => none }
def FnExactEncodeGcrWrongFalsely : Prop := fnExactEncodeGcrRow.holds Tryd.pinned (OpenSpec.ofChange fnExactEncodeGcrWrong)

/- THE SECOND FORM. 'bulk': how many values and letters a reading holds, each counted each time it is reached (what is shared counts as often as it is met; a slice's spare places count too). A statement '..UptoSaid' is the law's where the arguments, and the package variables that the reading takes, are together of bulk at most 1048576: NARROWER than '..Said'. Prove '..Said' where nothing that the law and all that it calls make is longer than what came in: it says more and counts as full. Else prove '..UptoSaid'. A law counts once. -/
mutual
def uptoBulk {H : Type} : DataW H → Nat
  | .lit (.string bytes) => bytes.length + 1
  | .lit _ => 1
  | .nil => 1
  | .ptr d => uptoBulk d + 1
  | .slice elems spare => uptoBulkAll elems + uptoBulkAll spare + 1
  | .agg parts => uptoBulkAll parts + 1
  | .iface _ d => uptoBulk d + 1
  | .map entries => uptoBulkEntries entries + 1
  | .held _ => 1
def uptoBulkAll {H : Type} : List (DataW H) → Nat
  | [] => 0
  | d :: r => uptoBulk d + uptoBulkAll r
def uptoBulkEntries {H : Type} : List (Lit × DataW H) → Nat
  | [] => 0
  | x :: r => uptoBulkEntry x + uptoBulkEntries r
def uptoBulkEntry {H : Type} : Lit × DataW H → Nat
  | (.string bytes, d) => bytes.length + uptoBulk d + 1
  | (_, d) => uptoBulk d + 1
 end
def uptoSmall : (H : Type) → List (DataW H) → Bool := fun _ ds => decide (uptoBulkAll ds ≤ 1048576)
def OpenSpec.upto (s : _root_.Go.ChangeSpec) : _root_.Go.OpenSpec := { _root_.Go.OpenSpec.ofChange s with cond := some uptoSmall }

/-- 'laws.FnExactGcrCode', WHERE WHAT IT READS IS OF BULK AT MOST 1048576: true; the input reads as it did. -/
def fnExactGcrCodeUptoRow : OpenClaim := { program := "ytmbhehoakpicdaadoor", sum := "2e80269144f9c76e3808d4fe49a9b83b3929681eceff78e7727b48c8a5b4dc76", func := "loop.example/g00899/laws.FnExactGcrCode", spec := "fnExactGcrCode", named := ["loop.example/g00899/impl.gcrTable"], apart := false, laid := [("loop.example/g00899/impl.gcrTable", laid_loop_example_g00899_impl_gcrTable)], narrowed := true }
def FnExactGcrCodeUptoSaid : Prop := fnExactGcrCodeUptoRow.holds Tryd.pinned (OpenSpec.upto fnExactGcrCodeSpec)

/-- 'laws.FnExactGcrValue', WHERE WHAT IT READS IS OF BULK AT MOST 1048576: true; the input reads as it did. -/
def fnExactGcrValueUptoRow : OpenClaim := { program := "ytmbhehoakpicdaadoor", sum := "2e80269144f9c76e3808d4fe49a9b83b3929681eceff78e7727b48c8a5b4dc76", func := "loop.example/g00899/laws.FnExactGcrValue", spec := "fnExactGcrValue", named := ["loop.example/g00899/impl.gcrTable"], apart := false, laid := [("loop.example/g00899/impl.gcrTable", laid_loop_example_g00899_impl_gcrTable)], narrowed := true }
def FnExactGcrValueUptoSaid : Prop := fnExactGcrValueUptoRow.holds Tryd.pinned (OpenSpec.upto fnExactGcrValueSpec)

/-- 'laws.FnExactEncodeGcr', WHERE WHAT IT READS IS OF BULK AT MOST 1048576: true; the input reads as it did. -/
def fnExactEncodeGcrUptoRow : OpenClaim := { program := "ytmbhehoakpicdaadoor", sum := "2e80269144f9c76e3808d4fe49a9b83b3929681eceff78e7727b48c8a5b4dc76", func := "loop.example/g00899/laws.FnExactEncodeGcr", spec := "fnExactEncodeGcr", inPlace := ["internal/abi.NoEscape"], named := ["loop.example/g00899/impl.gcrTable"], apart := false, laid := [("loop.example/g00899/impl.gcrTable", laid_loop_example_g00899_impl_gcrTable)], narrowed := true }
def FnExactEncodeGcrUptoSaid : Prop := fnExactEncodeGcrUptoRow.holds Tryd.pinned (OpenSpec.upto fnExactEncodeGcrSpec)

end Rows
end Go.Proofs.YtmbhehoakpicdaaDoor
