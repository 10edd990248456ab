/- 'ValidCells' of the program and of the reference: a string of cells that is not empty. -/
import Derived.Test.YtlelgpknkgjaeaaGreatDoorCells
import Derived.Lib.Builder
import Derived.Laws.DeepStrings4
namespace Go.Proofs.YtlelgpknkgjaeaaGreatDoor
open Go.ChangeShapes Go.WideShapes Go.ChangeAt Go.RowKit
set_option linter.unusedSimpArgs false
set_option linter.unusedVariables false

def validCells (s : ByteArray) : Bool := !s.toList.isEmpty && cellStr s
theorem isEmpty_size (s : ByteArray) : s.toList.isEmpty = decide (s.size = 0) := by
  rw [show s.toList = s.data.toList from by cases s; exact Lib.toList_data _]
  have h : s.size = s.data.toList.length := by simp
  rw [h]
  cases s.data.toList <;> simp
theorem valid_size {s : ByteArray} (h : validCells s = true) : 0 < s.size ∧ s.size ≤ 8000 ∧ allBits s = true := by
  unfold validCells cellStr at h
  rw [isEmpty_size] at h
  simp only [Bool.and_eq_true, Bool.not_eq_true', decide_eq_false_iff_not, decide_eq_true_eq] at h
  exact ⟨by omega, h.2.2, h.2.1⟩
theorem impl_ValidCells (s : ByteArray) (w : World) (hs : s.size ≤ 9223372036854775807) :
    Calls Tryz.prog 36 #[.string s] w fun e w' => e = .returned (.bool (validCells s)) ∧ Below w.heap.size w w' := by
  have HC := Hid.in_ (impl_isCellString s w hs)
  cases he : s.toList.isEmpty
  · have HV := Hid.in_ (show validCells s = cellStr s by unfold validCells; rw [he]; rfl)
    go_enter Tryz.func36, Tryz.ntmps36
    go_wp2_with (go_at_call 66; refine HC.out.mono ?_; rintro e w' ⟨rfl, hB⟩)
    go_ret
    exact ⟨ret_bool HV.out.symm, hB⟩
  · have HV := Hid.in_ (show validCells s = false by unfold validCells; rw [he]; rfl)
    go_enter Tryz.func36, Tryz.ntmps36
    go_wp2_with (go_at_call 66; refine HC.out.mono ?_; rintro e w' ⟨rfl, hB⟩)
    go_ret
    exact ⟨ret_bool HV.out.symm, Below.refl _ _⟩
set_option maxHeartbeats 1000000 in
theorem spec_l02Cells (s : ByteArray) (w : World) (hs : s.size ≤ 9223372036854775807) :
    Calls Tryz.prog 54 #[.string s] w fun e w' => e = .returned (.bool (validCells s)) ∧ w = w' := by
  by_cases h0 : s.size < 1
  · have HV := Hid.in_ (show validCells s = false by unfold validCells; rw [isEmpty_size, decide_eq_true (by omega)]; rfl)
    go_enter Tryz.func54, Tryz.ntmps54
    go_wp2
    go_ret
    exact ⟨ret_bool HV.out.symm, rfl⟩
  by_cases h8 : 8000 < s.size
  · have HV := Hid.in_ (show validCells s = false by unfold validCells cellStr; rw [decide_eq_false (by omega : ¬ s.size ≤ 8000), Bool.and_false, Bool.and_false])
    go_enter Tryz.func54, Tryz.ntmps54
    go_wp2
    go_ret
    exact ⟨ret_bool HV.out.symm, rfl⟩
  have HV := Hid.in_ (show (∀ j (h : j < s.size), isBit s[j] = true) → validCells s = true from fun H => by
    unfold validCells cellStr
    rw [allBits_yes H, isEmpty_size, decide_eq_false (by omega), decide_eq_true (by omega : s.size ≤ 8000)]
    rfl)
  have HN := Hid.in_ (show ∀ k (h : k < s.size), isBit s[k] = false → validCells s = false from fun k h hb => by
    unfold validCells cellStr
    rw [allBits_no h hb, Bool.false_and, Bool.and_false])
  go_enter Tryz.func54, Tryz.ntmps54
  go_wp2_with fail
  go_loopg [3] s.size (fun m i wr => ∃ k : Nat, k + m = s.size ∧ i = .int .i64 k ∧ Hid (∀ j (h : j < s.size), j < k → isBit s[j] = true) ∧ w = wr)
  case atStart => exact ⟨0, by omega, rfl, fun j h hj => by omega, rfl⟩
  case round =>
    obtain ⟨k, hkm, rfl, HA, rfl⟩ := hrel
    have HK := Hid.in_ hkm
    clear hkm
    by_cases hlt : k < s.size
    · obtain ⟨c, hc⟩ : ∃ c : UInt8, s[k] = c := ⟨_, rfl⟩
      have HC := Hid.in_ hc
      obtain ⟨rfl, hb⟩ | ⟨rfl, hb⟩ | ⟨h1, h2, hb⟩ := bit_cases c
      · have HB := Hid.in_ (allTo_next HA.out hlt (by rw [hc]; exact hb))
        clear hb
        go_wp2
        have hk := HK.out
        go_roundg (gk - 1)
        case measure => omega
        case rel => exact ⟨k + 1, by omega, by go_num, HB, rfl⟩
      · have HB := Hid.in_ (allTo_next HA.out hlt (by rw [hc]; exact hb))
        clear hb
        go_wp2
        have hk := HK.out
        go_roundg (gk - 1)
        case measure => omega
        case rel => exact ⟨k + 1, by omega, by go_num, HB, rfl⟩
      · have HB := Hid.in_ (HN.out k hlt (by rw [hc]; exact hb))
        clear hb
        go_wp2
        go_ret
        exact ⟨ret_bool HB.out.symm, rfl⟩
    · have hk := HK.out
      obtain rfl : k = s.size := by omega
      go_wp2
      go_ret
      exact ⟨ret_bool (HV.out fun j h => HA.out j h h).symm, rfl⟩
theorem spec_ValidCells (s : ByteArray) (w : World) (hs : s.size ≤ 9223372036854775807) :
    Calls Tryz.prog 33 #[.string s] w fun e w' => e = .returned (.bool (validCells s)) ∧ w = w' := by
  go_enter Tryz.func33, Tryz.ntmps33
  go_wp2_with (go_at_call 54; refine (spec_l02Cells _ _ hs).mono ?_; rintro e w' ⟨rfl, rfl⟩)
  go_ret
  exact ⟨rfl, rfl⟩
end Go.Proofs.YtlelgpknkgjaeaaGreatDoor
