/- Sectors that were found: 'szFound', 'toFound', 'ValidFound' of the program and of the reference. -/
import Derived.Test.YtlelgpknkgjaeaaGreatDoorMark
import Derived.Test.YtlelgpknkgjaeaaGreatDoorRec1
namespace Go.Proofs.YtlelgpknkgjaeaaGreatDoor
open Go.ChangeShapes Go.WideShapes Go.ChangeAt Go.RowKit
set_option linter.unusedSimpArgs false
set_option linter.unusedVariables false

def foundBase (c h n s p : Int) : Bool := inB c 0 255 && inB h 0 255 && inB n 0 255 && inB s 0 255 && inB p 0 7999
def validFound (c h n s : Int) (d : ByteArray) (t : Int) (l : Bool) (p : Int) : Bool :=
  foundBase c h n s p && inB t 1 4 && (if t = 2 then d.toList.isEmpty && !l else if t = 4 then inB s 0 2 && d.toList.isEmpty && !l else inB s 0 2 && ((d.size : Int) == sizeBytes s))

theorem found_cases (c h n s p : Int) :
    (inB c 0 255 = false ∧ Hid (foundBase c h n s p = false)) ∨
    (inB c 0 255 = true ∧ inB h 0 255 = false ∧ Hid (foundBase c h n s p = false)) ∨
    (inB c 0 255 = true ∧ inB h 0 255 = true ∧ inB n 0 255 = false ∧ Hid (foundBase c h n s p = false)) ∨
    (inB c 0 255 = true ∧ inB h 0 255 = true ∧ inB n 0 255 = true ∧ inB s 0 255 = false ∧ Hid (foundBase c h n s p = false)) ∨
    (inB c 0 255 = true ∧ inB h 0 255 = true ∧ inB n 0 255 = true ∧ inB s 0 255 = true ∧ inB p 0 7999 = false ∧ Hid (foundBase c h n s p = false)) ∨
    (inB c 0 255 = true ∧ inB h 0 255 = true ∧ inB n 0 255 = true ∧ inB s 0 255 = true ∧ inB p 0 7999 = true ∧ Hid (foundBase c h n s p = true)) := by
  unfold Hid foundBase
  cases inB c 0 255 <;> cases inB h 0 255 <;> cases inB n 0 255 <;> cases inB s 0 255 <;> cases inB p 0 7999 <;> simp
theorem four_or (t : Int) : t = 1 ∨ t = 2 ∨ t = 3 ∨ t = 4 ∨ (inB t 1 4 = false ∧ (t == 1) = false ∧ (t == 2) = false ∧ (t == 3) = false ∧ (t == 4) = false) := by
  simp only [beq_eq_false_iff_ne]
  by_cases h : 1 ≤ t ∧ t ≤ 4
  · omega
  · exact .inr (.inr (.inr (.inr ⟨inB_no h, by omega, by omega, by omega, by omega⟩)))
theorem size_cases {s : Int} (h : inB s 0 255 = true) : s = 0 ∨ s = 1 ∨ s = 2 ∨ (inB s 0 2 = false ∧ 2 < s ∧ s ≤ 255) := by
  have := inB_t h
  by_cases h2 : s ≤ 2
  · omega
  · exact .inr (.inr (.inr ⟨inB_no (by omega), by omega, by omega⟩))

end Go.Proofs.YtlelgpknkgjaeaaGreatDoor
