/- 'GcrFaults' of the program and of the reference: which groups are of no value. -/
import Derived.Test.YtlelgpknkgjaeaaGreatDoorCells
import Derived.Test.YtlelgpknkgjaeaaGreatDoorGcr
import Derived.Test.YtlelgpknkgjaeaaGreatDoorI64
import Derived.Test.YtlelgpknkgjaeaaGreatDoorRow
import Derived.Lib.Builder
import Derived.Laws.DeepStrings4
namespace Go.Proofs.YtlelgpknkgjaeaaGreatDoor
open Go.ChangeShapes Go.WideShapes Go.ChangeAt Go.RowKit
set_option linter.unusedSimpArgs false
set_option linter.unusedVariables false
set_option maxRecDepth 4000

theorem Tryz.infoI64 : (Tryz.prog.info? 2).map (fun i => (i.zero, i.size, i.bytes)) = some (some (.int .i64 0), 1, 8) := by kernel_rfl
def grpAt (s : ByteArray) (k : Nat) : ByteArray := s.extract (5 * k) (5 * k + 5)
theorem I64_append (a b : List Int) : I64 (a ++ b) = I64 a ++ I64 b := by unfold I64; exact List.map_append
def isGrps (s : ByteArray) : Bool := cellStr s && decide ((s.size : Int) % 5 = 0)
def faultsTo (s : ByteArray) : Nat → List Int
  | 0 => []
  | k + 1 => faultsTo s k ++ (if gcrValue (grpAt s k) < 0 then [(k : Int)] else [])
theorem faultsTo_len (s : ByteArray) : ∀ k, (faultsTo s k).length ≤ k
  | 0 => Nat.le_refl _
  | k + 1 => by
    have := faultsTo_len s k
    unfold faultsTo
    split <;> simp <;> omega
theorem faultsTo_bad {s : ByteArray} {k : Nat} (h : gcrValue (grpAt s k) < 0) : faultsTo s (k + 1) = faultsTo s k ++ [(k : Int)] := by
  show faultsTo s k ++ (if gcrValue (grpAt s k) < 0 then [(k : Int)] else []) = _
  rw [if_pos h]
theorem faultsTo_good {s : ByteArray} {k : Nat} (h : ¬ gcrValue (grpAt s k) < 0) : faultsTo s (k + 1) = faultsTo s k := by
  show faultsTo s k ++ (if gcrValue (grpAt s k) < 0 then [(k : Int)] else []) = _
  rw [if_neg h, List.append_nil]
def faults (s : ByteArray) : List Int := if isGrps s = true then faultsTo s (s.size / 5) else []
theorem faults_len (s : ByteArray) : (faults s).length ≤ s.size := by
  unfold faults
  split
  · have := faultsTo_len s (s.size / 5)
    omega
  · exact Nat.zero_le _
theorem grps_cases (s : ByteArray) : (cellStr s = false ∧ Hid (isGrps s = false)) ∨ (cellStr s = true ∧ ((s.size : Int) % 5 == 0) = false ∧ Hid (isGrps s = false)) ∨ (cellStr s = true ∧ ((s.size : Int) % 5 == 0) = true ∧ Hid (isGrps s = true)) := by
  unfold Hid isGrps
  cases cellStr s
  · simp
  · by_cases h : (s.size : Int) % 5 = 0
    · exact .inr (.inr ⟨rfl, beq_iff_eq.2 h, by rw [decide_eq_true h]; rfl⟩)
    · exact .inr (.inl ⟨rfl, beq_eq_false_iff_ne.2 h, by rw [decide_eq_false h]; rfl⟩)
theorem grps_size {s : ByteArray} (h : isGrps s = true) : ∃ n, s.size = 5 * n ∧ s.size / 5 = n ∧ s.size ≤ 8000 := by
  unfold isGrps cellStr at h
  simp only [Bool.and_eq_true, decide_eq_true_eq] at h
  exact ⟨s.size / 5, by omega, rfl, h.1.2⟩
end Go.Proofs.YtlelgpknkgjaeaaGreatDoor
