/- 'RotateCells' of the reference: the cells of a track that begins at another cell. -/
import Derived.Test.YtlelgpknkgjaeaaDoorAlign
namespace Go.Proofs.YtlelgpknkgjaeaaDoor
open Go.ChangeShapes Go.WideShapes Go.ChangeAt Go.RowKit
set_option linter.unusedSimpArgs false
set_option linter.unusedVariables false
set_option maxRecDepth 20000

set_option maxHeartbeats 1000000 in
theorem spec_l02Rotate (s : ByteArray) (k : Nat) (w : World) (hk : k < s.size) (hs : s.size ≤ 8000) :
    Calls Tryd.prog 17 #[.string s, .int .i64 k] w fun e w' => e = .returned (.string (sliceS s k s.size)) ∧ Below w.heap.size w w' := by
  have HE := Hid.in_ (rot_cut hk)
  have h1 : (k : Int).tmod (s.size : Int) = (k : Int) := by rw [Int.tmod_eq_emod_of_nonneg (by omega)]; exact Int.emod_eq_of_lt (by omega) (by omega)
  have h1' : (k : Int) % (s.size : Int) = (k : Int) := Int.emod_eq_of_lt (by omega) (by omega)
  have h2 : ((k : Int) + (s.size : Int)) % (s.size : Int) = (k : Int) := by rw [Int.add_emod_right]; exact h1'
  have hno : ¬ ((s.extract k s.size).size + (s.extract 0 k).size > 9223372036854775807) := by rw [ByteArray.size_extract, ByteArray.size_extract]; omega
  go_enter Tryd.func17, Tryd.ntmps17
  go_wp2_with fail
  go_quiet (fail)
  go_wp2
  go_ret
  exact ⟨ret_str' HE.out, below_drewN (Below.refl _ _) _⟩
theorem spec_RotateCells (s : ByteArray) (k : Nat) (w : World) (hv : validCells s = true) (hk : k < s.size) :
    Calls Tryd.prog 7 #[.string s, .int .i64 k] w fun e w' => e = .returned (.tuple #[.string (sliceS s k s.size), .bool true]) ∧ Below w.heap.size w w' := by
  obtain ⟨v1, v2, _⟩ := valid_size hv
  have HC := Hid.in_ (fun w => spec_l02Cells s w (by omega))
  have HR := Hid.in_ (fun w => spec_l02Rotate s k w hk (by omega))
  rw [hv] at HC
  clear hv
  generalize sliceS s k s.size = Z at *
  go_enter Tryd.func7, Tryd.ntmps7
  go_wp2_with (first | (go_at_call 16; refine (HC.out _).mono ?_; rintro e w' ⟨rfl, rfl⟩) | (go_at_call 17; refine (HR.out _).mono ?_; rintro e w2 ⟨rfl, hb2⟩))
  go_ret2
  exact ⟨rfl, hb2⟩
end Go.Proofs.YtlelgpknkgjaeaaDoor
