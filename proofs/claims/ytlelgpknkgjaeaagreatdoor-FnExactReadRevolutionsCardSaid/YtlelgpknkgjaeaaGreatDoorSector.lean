/- Sectors as they are described: 'szSectorSpec', 'toSectorSpec', 'ValidSectorSpec' of the program and of the reference. -/
import Derived.Test.YtlelgpknkgjaeaaGreatDoorMark
import Derived.Test.YtlelgpknkgjaeaaGreatDoorRec1
namespace Go.Proofs.YtlelgpknkgjaeaaGreatDoor
open Go.ChangeShapes Go.WideShapes Go.ChangeAt Go.RowKit
set_option linter.unusedSimpArgs false
set_option linter.unusedVariables false

def validSector (c h n s : Int) (len : Nat) : Bool := inB c 0 255 && inB h 0 255 && inB n 0 255 && inB s 0 2 && ((len : Int) == sizeBytes s)

theorem sector_cases (c h n s : Int) (len : Nat) :
    (inB c 0 255 = false ∧ Hid (validSector c h n s len = false)) ∨
    (inB c 0 255 = true ∧ inB h 0 255 = false ∧ Hid (validSector c h n s len = false)) ∨
    (inB c 0 255 = true ∧ inB h 0 255 = true ∧ inB n 0 255 = false ∧ Hid (validSector c h n s len = false)) ∨
    (inB c 0 255 = true ∧ inB h 0 255 = true ∧ inB n 0 255 = true ∧ inB s 0 2 = false ∧ Hid (validSector c h n s len = false)) ∨
    (inB c 0 255 = true ∧ inB h 0 255 = true ∧ inB n 0 255 = true ∧ inB s 0 2 = true ∧ Hid (validSector c h n s len = ((len : Int) == sizeBytes s))) := by
  unfold Hid validSector
  cases inB c 0 255 <;> cases inB h 0 255 <;> cases inB n 0 255 <;> cases inB s 0 2 <;> simp

end Go.Proofs.YtlelgpknkgjaeaaGreatDoor
