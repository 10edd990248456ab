/- 'ValidCells' of the program and of the reference: a string of cells that is not empty. -/
import Derived.Test.YtklaakhdpfgffaaDoorCells
import Derived.Lib.Builder
import Derived.Laws.DeepStrings4
namespace Go.Proofs.YtklaakhdpfgffaaDoor
open Go.ChangeShapes Go.WideShapes Go.ChangeAt Go.RowKit
set_option linter.unusedSimpArgs false
set_option linter.unusedVariables false

def validCells (s : ByteArray) : Bool := !s.toList.isEmpty && cellStr s
theorem isEmpty_size (s : ByteArray) : s.toList.isEmpty = decide (s.size = 0) := by
  rw [show s.toList = s.data.toList from by cases s; exact Lib.toList_data _]
  have h : s.size = s.data.toList.length := by simp
  rw [h]
  cases s.data.toList <;> simp
theorem valid_size {s : ByteArray} (h : validCells s = true) : 0 < s.size ∧ s.size ≤ 8000 ∧ allBits s = true := by
  unfold validCells cellStr at h
  rw [isEmpty_size] at h
  simp only [Bool.and_eq_true, Bool.not_eq_true', decide_eq_false_iff_not, decide_eq_true_eq] at h
  exact ⟨by omega, h.2.2, h.2.1⟩
end Go.Proofs.YtklaakhdpfgffaaDoor
