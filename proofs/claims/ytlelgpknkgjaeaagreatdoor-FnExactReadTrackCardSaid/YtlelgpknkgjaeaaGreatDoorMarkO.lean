/- 'FmMark' of the program: the cells of a mark in FM (cut out of XMarkC). -/
import Derived.Test.YtlelgpknkgjaeaaGreatDoorFmM
import Derived.Test.YtlelgpknkgjaeaaGreatDoorMark
import Derived.Lib.ConvBytes
namespace Go.Proofs.YtlelgpknkgjaeaaGreatDoor
open Go.ChangeShapes Go.WideShapes Go.ChangeAt Go.RowKit
set_option linter.unusedSimpArgs false
set_option linter.unusedVariables false
set_option maxRecDepth 20000

def oneB (b : Nat) : ByteArray := ⟨[UInt8.ofNat b].toArray⟩
theorem oneB_size (b : Nat) : (oneB b).size = 1 := rfl
theorem one_cell {b : Nat} (h : b ≤ 255) : (#[Value.int .u8 (b : Int)] : Array Value).toList = Lib.byteCells [UInt8.ofNat b] := by
  show [Value.int .u8 (b : Int)] = [Value.int .u8 ((UInt8.ofNat b).toNat : Int)]
  rw [UInt8.toNat_ofNat']
  congr 2
  omega
theorem conv_byte {b : Nat} (w : World) (h : b ≤ 255) :
    (convert 43 9 (.slice (some ⟨w.heap.size, 0, none⟩) 1 1)).run Tryz.prog (w.alloc (.cells #[.int .u8 (b : Int)] 5)) = .ok (.string (oneB b)) (w.alloc (.cells #[.int .u8 (b : Int)] 5)) := by
  have := World.ownsRow_lit (base := w.heap.size) (size := 1) (e := 5) w #[.int .u8 (b : Int)] 1 (Nat.le_refl _) (by decide) rfl
  rw [one_cell h] at this
  exact conv_own Tryz.underlying43 Tryz.underlying5 Tryz.underlying9 this
def markClk : ByteArray := ⟨#[49, 49, 48, 48, 48, 49, 49, 49]⟩
def fmMarkS (b : Nat) : ByteArray := fmS markClk (oneB b)
end Go.Proofs.YtlelgpknkgjaeaaGreatDoor
