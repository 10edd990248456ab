/- Rows of int64: 'eqInt64S', 'markInt64S', 'heldInt64S' of the laws over rows of the calls' own. -/
import Derived.Test.YtdnkjbgfaniafaaDoorMem
namespace Go.Proofs.YtdnkjbgfaniafaaDoor
open Go.ChangeShapes Go.WideShapes Go.ChangeAt Go.RowKit
set_option linter.unusedSimpArgs false
set_option linter.unusedVariables false

def I64 (xs : List Int) : List Value := xs.map (Value.int .i64)
theorem I64_len (xs : List Int) : (I64 xs).length = xs.length := by simp [I64]
theorem I64_get {xs : List Int} {i : Nat} {x : Int} (h : xs[i]? = some x) : (I64 xs)[i]? = some (.int .i64 x) := by simp [I64, h]

/-- the marks k, k + 1, .. -/
def marks (k : Int) (n : Nat) : List Int := (List.range n).map fun (i : Nat) => k + (i : Int)
theorem marks_len (k : Int) (n : Nat) : (marks k n).length = n := by simp [marks]
theorem marks_get (k : Int) (n i : Nat) (h : i < n) : (marks k n)[i]? = some (k + i) := by simp [marks, h]

end Go.Proofs.YtdnkjbgfaniafaaDoor
