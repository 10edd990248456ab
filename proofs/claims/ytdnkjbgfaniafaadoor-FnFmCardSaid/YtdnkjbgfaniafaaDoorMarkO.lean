/- 'FmMark' of the program: the cells of a mark in FM (cut out of XMarkC). -/
import Derived.Test.YtdnkjbgfaniafaaDoorFmM
import Derived.Test.YtdnkjbgfaniafaaDoorMark
import Derived.Lib.ConvBytes
namespace Go.Proofs.YtdnkjbgfaniafaaDoor
open Go.ChangeShapes Go.WideShapes Go.ChangeAt Go.RowKit
set_option linter.unusedSimpArgs false
set_option linter.unusedVariables false
set_option maxRecDepth 20000

def oneB (b : Nat) : ByteArray := ⟨[UInt8.ofNat b].toArray⟩
theorem oneB_size (b : Nat) : (oneB b).size = 1 := rfl
theorem one_cell {b : Nat} (h : b ≤ 255) : (#[Value.int .u8 (b : Int)] : Array Value).toList = Lib.byteCells [UInt8.ofNat b] := by
  show [Value.int .u8 (b : Int)] = [Value.int .u8 ((UInt8.ofNat b).toNat : Int)]
  rw [UInt8.toNat_ofNat']
  congr 2
  omega
theorem conv_byte {b : Nat} (w : World) (h : b ≤ 255) :
    (convert 22 9 (.slice (some ⟨w.heap.size, 0, none⟩) 1 1)).run Tryd.prog (w.alloc (.cells #[.int .u8 (b : Int)] 5)) = .ok (.string (oneB b)) (w.alloc (.cells #[.int .u8 (b : Int)] 5)) := by
  have := World.ownsRow_lit (base := w.heap.size) (size := 1) (e := 5) w #[.int .u8 (b : Int)] 1 (Nat.le_refl _) (by decide) rfl
  rw [one_cell h] at this
  exact conv_own Tryd.underlying22 Tryd.underlying5 Tryd.underlying9 this
def markClk : ByteArray := ⟨#[49, 49, 48, 48, 48, 49, 49, 49]⟩
def fmMarkS (b : Nat) : ByteArray := fmS markClk (oneB b)
theorem impl_FmMark (b : Nat) (w : World) (h : b ≤ 255) :
    Calls Tryd.prog 11 #[.int .i64 b] w fun e w' => e = .returned (.string (fmMarkS b)) ∧ Below w.heap.size w w' := by
  have h1 : inB (b : Int) 0 255 = true := inB_mk (by omega) (by omega)
  have hc := conv_byte w h
  have HF := Hid.in_ (fun w => show Calls Tryd.prog 20 #[.string (oneB b), .string ⟨#[49, 49, 48, 48, 48, 49, 49, 49]⟩] w fun e w' => e = .returned (.string (fmMarkS b)) ∧ Below w.heap.size w w' from impl_fmCells_at markClk (oneB b) w rfl (by rw [oneB_size]; decide))
  generalize oneB b = S at *
  go_enter Tryd.func11, Tryd.ntmps11
  go_wp2_with (go_at_call 23; refine (bool_is (impl_within _ _ _ _) (by assumption)).mono ?_; rintro e w' ⟨rfl, rfl⟩)
  refine (HF.out _).mono ?_
  rintro e w1 ⟨rfl, hb1⟩
  have HB := Hid.in_ (bstep (balloc (Below.refl _ _) _) hb1)
  go_wp2
  go_ret
  exact ⟨rfl, HB.out⟩
end Go.Proofs.YtdnkjbgfaniafaaDoor
