/- 'l11Features' of the reference: the features of sectors. -/
import Derived.Test.YtlelgpknkgjaeaaFeats
import Derived.Deep.DeepCutAuto
namespace Go.Proofs.Ytlelgpknkgjaeaa
open Go.ChangeShapes Go.WideShapes Go.ChangeAt Go.RowKit
set_option linter.unusedVariables false
set_option linter.unusedSimpArgs false
set_option maxRecDepth 4000

theorem len_push {M : List FeatR} {N : Nat} (h : M.length ≤ N) (b : Bool) (x : FeatR) : (M ++ (if b = true then [x] else [])).length ≤ N + 1 := by
  rw [List.length_append]
  cases b <;> simp <;> omega

end Go.Proofs.Ytlelgpknkgjaeaa
