/- 'fmCells' of the program at whatever eight clocks. -/
import Derived.Test.YtlelgpknkgjaeaaDoorMfm
import Derived.Test.YtlelgpknkgjaeaaDoorDist
import Derived.BigRegion
import Derived.Deep.RegionLaw
namespace Go.Proofs.YtlelgpknkgjaeaaDoor
open Go.ChangeShapes Go.WideShapes Go.ChangeAt Go.RowKit
set_option linter.unusedSimpArgs false
set_option linter.unusedVariables false
set_option maxRecDepth 4000

/-- The cells of the first 'k' bits of 'L', each behind its clock. -/
def fmTo (C : ByteArray) (L : List Bool) : Nat → List UInt8
  | 0 => []
  | k + 1 => fmTo C L k ++ [byteAt C (k % 8), chr (L.getD k false)]
theorem fmTo_len (C : ByteArray) (L : List Bool) : ∀ k, (fmTo C L k).length = 2 * k
  | 0 => rfl
  | k + 1 => by
    show (fmTo C L k ++ [byteAt C (k % 8), chr (L.getD k false)]).length = _
    rw [List.length_append, fmTo_len C L k]
    rfl
theorem fm_cell {C : ByteArray} {L : List Bool} {k : Nat} {c d : UInt8} (hc : byteAt C (k % 8) = c) (hd : chr (L.getD k false) = d) :
    Lib.byteCells (fmTo C L (k + 1)) = Lib.byteCells (fmTo C L k) ++ [.int .u8 (c.toNat : Int), .int .u8 (d.toNat : Int)] := by
  show Lib.byteCells (fmTo C L k ++ [byteAt C (k % 8), chr (L.getD k false)]) = _
  rw [hc, hd]
  unfold Lib.byteCells
  rw [List.map_append]
  rfl
def fmS (C s : ByteArray) : ByteArray := ⟨(fmTo C (bitsN s s.size) (bitsS s).size).toArray⟩
end Go.Proofs.YtlelgpknkgjaeaaDoor
