/- The laws' helpers over records of one-cell fields: 'to..', 'to..S', 'sz..S', 'eq..', 'eq..S', 'mark..S', 'held..S'. -/
import Derived.Test.YtlelgpknkgjaeaaDoorRow
import Derived.Test.YtlelgpknkgjaeaaDoorRec1
import Derived.StillTailTactics
namespace Go.Proofs.YtlelgpknkgjaeaaDoor
open Go.ChangeShapes Go.WideShapes Go.ChangeAt Go.RowKit
set_option linter.unusedVariables false
set_option linter.unusedSimpArgs false
set_option maxRecDepth 4000

def FeatR.zero : FeatR := ⟨0, 0, 0⟩
def FeatR.mark (k : Int) : FeatR := ⟨k, k + 1, k + 2⟩
def FeatR.marks (k : Int) (n : Nat) : List FeatR := (List.range n).map fun (i : Nat) => FeatR.mark (k + 3 * (i : Int))
theorem FeatR.marks_len (k : Int) (n : Nat) : (FeatR.marks k n).length = n := by simp [FeatR.marks]
theorem FeatR.marks_get (k : Int) (n i : Nat) (h : i < n) : (FeatR.marks k n)[i]? = some (FeatR.mark (k + 3 * (i : Int))) := by simp [FeatR.marks, h]
theorem FeatR.marks_succ (k : Int) (n : Nat) : FeatR.marks k (n + 1) = FeatR.marks k n ++ [FeatR.mark (k + 3 * (n : Int))] := by simp [FeatR.marks, List.range_succ]
theorem FeatR.marks_step (m : Int) (k : Nat) (l : List FeatR) (hk : k < l.length) : (FeatR.marks m k ++ l.drop k).set k (FeatR.mark (m + 3 * (k : Int))) = FeatR.marks m (k + 1) ++ l.drop (k + 1) := by
  have h3 : l.drop k = l[k] :: l.drop (k + 1) := List.drop_eq_getElem_cons hk
  rw [FeatR.marks_succ, h3, List.set_append_right _ _ (by rw [FeatR.marks_len]; omega), FeatR.marks_len, Nat.sub_self, List.set_cons_zero]
  simp only [List.append_assoc, List.cons_append, List.nil_append]

def MarkR.zero : MarkR := ⟨0, 0, 0⟩
def MarkR.mark (k : Int) : MarkR := ⟨k, k + 1, k + 2⟩
def MarkR.marks (k : Int) (n : Nat) : List MarkR := (List.range n).map fun (i : Nat) => MarkR.mark (k + 3 * (i : Int))
theorem MarkR.marks_len (k : Int) (n : Nat) : (MarkR.marks k n).length = n := by simp [MarkR.marks]
theorem MarkR.marks_get (k : Int) (n i : Nat) (h : i < n) : (MarkR.marks k n)[i]? = some (MarkR.mark (k + 3 * (i : Int))) := by simp [MarkR.marks, h]
theorem MarkR.marks_succ (k : Int) (n : Nat) : MarkR.marks k (n + 1) = MarkR.marks k n ++ [MarkR.mark (k + 3 * (n : Int))] := by simp [MarkR.marks, List.range_succ]
theorem MarkR.marks_step (m : Int) (k : Nat) (l : List MarkR) (hk : k < l.length) : (MarkR.marks m k ++ l.drop k).set k (MarkR.mark (m + 3 * (k : Int))) = MarkR.marks m (k + 1) ++ l.drop (k + 1) := by
  have h3 : l.drop k = l[k] :: l.drop (k + 1) := List.drop_eq_getElem_cons hk
  rw [MarkR.marks_succ, h3, List.set_append_right _ _ (by rw [MarkR.marks_len]; omega), MarkR.marks_len, Nat.sub_self, List.set_cons_zero]
  simp only [List.append_assoc, List.cons_append, List.nil_append]

def RunR.zero : RunR := ⟨0, 0⟩
theorem Tryd.info_CellRun : (Tryd.prog.info? 37).map (fun i => (i.zero, i.size, i.bytes)) = some (some (.agg #[.int .i64 0, .int .i64 0]), 2, 16) := by kernel_rfl
def RunR.mark (k : Int) : RunR := ⟨k, k + 1⟩
def RunR.marks (k : Int) (n : Nat) : List RunR := (List.range n).map fun (i : Nat) => RunR.mark (k + 2 * (i : Int))
theorem RunR.marks_len (k : Int) (n : Nat) : (RunR.marks k n).length = n := by simp [RunR.marks]
theorem RunR.marks_get (k : Int) (n i : Nat) (h : i < n) : (RunR.marks k n)[i]? = some (RunR.mark (k + 2 * (i : Int))) := by simp [RunR.marks, h]
theorem RunR.marks_succ (k : Int) (n : Nat) : RunR.marks k (n + 1) = RunR.marks k n ++ [RunR.mark (k + 2 * (n : Int))] := by simp [RunR.marks, List.range_succ]
theorem RunR.marks_step (m : Int) (k : Nat) (l : List RunR) (hk : k < l.length) : (RunR.marks m k ++ l.drop k).set k (RunR.mark (m + 2 * (k : Int))) = RunR.marks m (k + 1) ++ l.drop (k + 1) := by
  have h3 : l.drop k = l[k] :: l.drop (k + 1) := List.drop_eq_getElem_cons hk
  rw [RunR.marks_succ, h3, List.set_append_right _ _ (by rw [RunR.marks_len]; omega), RunR.marks_len, Nat.sub_self, List.set_cons_zero]
  simp only [List.append_assoc, List.cons_append, List.nil_append]

def SecR.zero : SecR := ⟨0, 0, 0, 0, ByteArray.empty, false, false, false⟩

def FndR.zero : FndR := ⟨0, 0, 0, 0, ByteArray.empty, 0, false, 0⟩

end Go.Proofs.YtlelgpknkgjaeaaDoor
