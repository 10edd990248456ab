/- 'RawBytes' of the program and of the reference. -/
import Derived.Test.YtfmlobfgkinngaaDoorRaw
namespace Go.Proofs.YtfmlobfgkinngaaDoor
open Go.ChangeShapes Go.WideShapes Go.ChangeAt Go.RowKit
set_option linter.unusedSimpArgs false
set_option linter.unusedVariables false
set_option maxRecDepth 4000

def rawOk (f : Int) (s : ByteArray) : Bool := inB f 1 3 && (cellStr s && ((s.size : Int) % byteCells f == 0))
def rawRV (f : Int) (s : ByteArray) : ByteArray := if rawOk f s = true then rawV f s else ⟨#[]⟩
def rawRB (f : Int) (s : ByteArray) : Bool := rawOk f s && rawB f s
theorem raw_no {f : Int} {s : ByteArray} (h : rawOk f s = false) : rawRV f s = ⟨#[]⟩ ∧ rawRB f s = false := by
  unfold rawRV rawRB
  rw [h]
  exact ⟨rfl, rfl⟩
theorem raw_yes {f : Int} {s : ByteArray} (h : rawOk f s = true) : rawRV f s = rawV f s ∧ rawRB f s = rawB f s := by
  unfold rawRV rawRB
  rw [h]
  exact ⟨rfl, rfl⟩
theorem raw_cases (f : Int) (s : ByteArray) : (inB f 1 3 = false ∧ Hid (rawOk f s = false)) ∨ (inB f 1 3 = true ∧ cellStr s = false ∧ Hid (rawOk f s = false)) ∨
    (inB f 1 3 = true ∧ cellStr s = true ∧ ((s.size : Int) % byteCells f != 0) = true ∧ Hid (rawOk f s = false)) ∨ (inB f 1 3 = true ∧ cellStr s = true ∧ ((s.size : Int) % byteCells f != 0) = false ∧ Hid (rawOk f s = true)) := by
  unfold Hid rawOk
  cases inB f 1 3 <;> cases cellStr s <;> simp
  exact Decidable.em _ |>.symm
theorem empty_cell {s : ByteArray} (h : s.toList.isEmpty = true) : cellStr s = true := by
  rw [isEmpty_size] at h
  have h0 : s.size = 0 := of_decide_eq_true h
  unfold cellStr
  rw [allBits_yes (fun j hj => by omega), decide_eq_true (by omega : s.size ≤ 8000)]
  rfl
set_option maxHeartbeats 4000000 in
theorem impl_RawBytes (f : Int) (s : ByteArray) (w : World) (hT : Tab w) (hs : s.size ≤ 1048576) :
    Calls Tryd.prog 21 #[.int .i64 f, .string s] w fun e w' => e = .returned (.tuple #[.string (rawRV f s), .bool (rawRB f s)]) ∧ Below w.heap.size w w' := by
  have HC := Hid.in_ (fun w => impl_isCellString s w (by omega))
  have HT := Hid.in_ hT
  clear hT
  obtain ⟨h1, HV⟩ | ⟨h1, h2, HV⟩ | ⟨h1, h2, h3, HV⟩ | ⟨h1, h2, h3, HV⟩ := raw_cases f s
  · have HF := Hid.in_ (raw_no HV.out)
    go_enter Tryd.func21, Tryd.ntmps21
    go_wp2_with (go_at_call 69; refine (bool_is (impl_isFormat _ _) (by assumption)).mono ?_; rintro e w' ⟨rfl, rfl⟩)
    go_ret2
    exact ⟨ret2_raw HF.out.1.symm HF.out.2.symm, Below.refl _ _⟩
  · have HF := Hid.in_ (raw_no HV.out)
    rw [h2] at HC
    go_enter Tryd.func21, Tryd.ntmps21
    go_wp2_with (first | (go_at_call 69; refine (bool_is (impl_isFormat _ _) (by assumption)).mono ?_; rintro e w' ⟨rfl, rfl⟩) | (go_at_call 70; refine (HC.out _).mono ?_; rintro e w1 ⟨rfl, hb1⟩))
    go_ret2
    exact ⟨ret2_raw HF.out.1.symm HF.out.2.symm, hb1⟩
  · have HF := Hid.in_ (raw_no HV.out)
    rw [h2] at HC
    obtain rfl | rfl | rfl := three h1
    · rw [show byteCells 1 = 16 from rfl] at h3
      have HBC := Hid.in_ (fun w => impl_byteCells 1 w)
      rw [show byteCells 1 = 16 from rfl] at HBC
      go_enter Tryd.func21, Tryd.ntmps21
      go_wp2_with (first | (go_at_call 69; refine (bool_is (impl_isFormat _ _) (by assumption)).mono ?_; rintro e w' ⟨rfl, rfl⟩) | (go_at_call 70; refine (HC.out _).mono ?_; rintro e w1 ⟨rfl, hb1⟩) | (go_at_call 71; refine (HBC.out _).mono ?_; rintro e w2 ⟨rfl, rfl⟩))
      go_ret2
      exact ⟨ret2_raw HF.out.1.symm HF.out.2.symm, hb1⟩
    · rw [show byteCells 2 = 16 from rfl] at h3
      have HBC := Hid.in_ (fun w => impl_byteCells 2 w)
      rw [show byteCells 2 = 16 from rfl] at HBC
      go_enter Tryd.func21, Tryd.ntmps21
      go_wp2_with (first | (go_at_call 69; refine (bool_is (impl_isFormat _ _) (by assumption)).mono ?_; rintro e w' ⟨rfl, rfl⟩) | (go_at_call 70; refine (HC.out _).mono ?_; rintro e w1 ⟨rfl, hb1⟩) | (go_at_call 71; refine (HBC.out _).mono ?_; rintro e w2 ⟨rfl, rfl⟩))
      go_ret2
      exact ⟨ret2_raw HF.out.1.symm HF.out.2.symm, hb1⟩
    · rw [show byteCells 3 = 10 from rfl] at h3
      have HBC := Hid.in_ (fun w => impl_byteCells 3 w)
      rw [show byteCells 3 = 10 from rfl] at HBC
      go_enter Tryd.func21, Tryd.ntmps21
      go_wp2_with (first | (go_at_call 69; refine (bool_is (impl_isFormat _ _) (by assumption)).mono ?_; rintro e w' ⟨rfl, rfl⟩) | (go_at_call 70; refine (HC.out _).mono ?_; rintro e w1 ⟨rfl, hb1⟩) | (go_at_call 71; refine (HBC.out _).mono ?_; rintro e w2 ⟨rfl, rfl⟩))
      go_ret2
      exact ⟨ret2_raw HF.out.1.symm HF.out.2.symm, hb1⟩
  · have HF := Hid.in_ (raw_yes HV.out)
    rw [h2] at HC
    obtain rfl | rfl | rfl := three h1
    · rw [show byteCells 1 = 16 from rfl] at h3
      have HBC := Hid.in_ (fun w => impl_byteCells 1 w)
      rw [show byteCells 1 = 16 from rfl] at HBC
      have HRW := Hid.in_ (fun w h => impl_rawBytes 1 s w h h2 (fun _ => by have := bne_eq_false_iff_eq.1 h3; omega) (fun h => absurd h (by decide)))
      go_enter Tryd.func21, Tryd.ntmps21
      go_wp2_with (first | (go_at_call 69; refine (bool_is (impl_isFormat _ _) (by assumption)).mono ?_; rintro e w' ⟨rfl, rfl⟩) | (go_at_call 70; refine (HC.out _).mono ?_; rintro e w1 ⟨rfl, hb1⟩) | (go_at_call 71; refine (HBC.out _).mono ?_; rintro e w2 ⟨rfl, rfl⟩) | (go_at_call 72; refine (HRW.out _ (Tab.step hb1 HT.out)).mono ?_; rintro e w3 ⟨rfl, hb3⟩))
      go_ret2
      exact ⟨ret2_raw HF.out.1.symm HF.out.2.symm, bstep hb1 hb3⟩
    · rw [show byteCells 2 = 16 from rfl] at h3
      have HBC := Hid.in_ (fun w => impl_byteCells 2 w)
      rw [show byteCells 2 = 16 from rfl] at HBC
      have HRW := Hid.in_ (fun w h => impl_rawBytes 2 s w h h2 (fun _ => by have := bne_eq_false_iff_eq.1 h3; omega) (fun h => absurd h (by decide)))
      go_enter Tryd.func21, Tryd.ntmps21
      go_wp2_with (first | (go_at_call 69; refine (bool_is (impl_isFormat _ _) (by assumption)).mono ?_; rintro e w' ⟨rfl, rfl⟩) | (go_at_call 70; refine (HC.out _).mono ?_; rintro e w1 ⟨rfl, hb1⟩) | (go_at_call 71; refine (HBC.out _).mono ?_; rintro e w2 ⟨rfl, rfl⟩) | (go_at_call 72; refine (HRW.out _ (Tab.step hb1 HT.out)).mono ?_; rintro e w3 ⟨rfl, hb3⟩))
      go_ret2
      exact ⟨ret2_raw HF.out.1.symm HF.out.2.symm, bstep hb1 hb3⟩
    · rw [show byteCells 3 = 10 from rfl] at h3
      have HBC := Hid.in_ (fun w => impl_byteCells 3 w)
      rw [show byteCells 3 = 10 from rfl] at HBC
      have HRW := Hid.in_ (fun w h => impl_rawBytes 3 s w h h2 (fun h => absurd rfl h) (fun _ => by have := bne_eq_false_iff_eq.1 h3; omega))
      go_enter Tryd.func21, Tryd.ntmps21
      go_wp2_with (first | (go_at_call 69; refine (bool_is (impl_isFormat _ _) (by assumption)).mono ?_; rintro e w' ⟨rfl, rfl⟩) | (go_at_call 70; refine (HC.out _).mono ?_; rintro e w1 ⟨rfl, hb1⟩) | (go_at_call 71; refine (HBC.out _).mono ?_; rintro e w2 ⟨rfl, rfl⟩) | (go_at_call 72; refine (HRW.out _ (Tab.step hb1 HT.out)).mono ?_; rintro e w3 ⟨rfl, hb3⟩))
      go_ret2
      exact ⟨ret2_raw HF.out.1.symm HF.out.2.symm, bstep hb1 hb3⟩
set_option maxHeartbeats 8000000 in
theorem spec_RawBytes (f : Int) (s : ByteArray) (w : World) (hs : s.size ≤ 1048576) :
    Calls Tryd.prog 20 #[.int .i64 f, .string s] w fun e w' => e = .returned (.tuple #[.string (rawRV f s), .bool (rawRB f s)]) ∧ Below w.heap.size w w' := by
  have HC := Hid.in_ (fun w => spec_ValidCells s w (by omega))
  obtain ⟨h1, HV⟩ | ⟨h1, h2, HV⟩ | ⟨h1, h2, h3, HV⟩ | ⟨h1, h2, h3, HV⟩ := raw_cases f s
  · have HF := Hid.in_ (raw_no HV.out)
    go_enter Tryd.func20, Tryd.ntmps20
    go_wp2_with (go_at_call 65; refine (bool_is (spec_l07Format _ _) (by assumption)).mono ?_; rintro e w' ⟨rfl, rfl⟩)
    go_ret2
    exact ⟨ret2_raw HF.out.1.symm HF.out.2.symm, Below.refl _ _⟩
  · have HF := Hid.in_ (raw_no HV.out)
    have he : s.toList.isEmpty = false := by
      cases he : s.toList.isEmpty
      · rfl
      · rw [empty_cell he] at h2
        cases h2
    have hv : validCells s = false := by unfold validCells; rw [h2, Bool.and_false]
    rw [hv] at HC
    go_enter Tryd.func20, Tryd.ntmps20
    go_wp2_with (first | (go_at_call 65; refine (bool_is (spec_l07Format _ _) (by assumption)).mono ?_; rintro e w' ⟨rfl, rfl⟩) | (go_at_call 66; refine (HC.out _).mono ?_; rintro e w1 ⟨rfl, rfl⟩))
    go_ret2
    exact ⟨ret2_raw HF.out.1.symm HF.out.2.symm, Below.refl _ _⟩
  · have HF := Hid.in_ (raw_no HV.out)
    obtain rfl | rfl | rfl := three h1
    · rw [show byteCells 1 = 16 from rfl] at h3
      have HBC := Hid.in_ (fun w => spec_l08Cell 1 w)
      rw [show byteCells 1 = 16 from rfl] at HBC
      cases he : s.toList.isEmpty
      all_goals
        have HVC := Hid.in_ (show s.toList.isEmpty = false → validCells s = true from fun h => by unfold validCells; rw [h, h2]; rfl)
        go_enter Tryd.func20, Tryd.ntmps20
        go_wp2_with (first | (go_at_call 65; refine (bool_is (spec_l07Format _ _) (by assumption)).mono ?_; rintro e w' ⟨rfl, rfl⟩) | (go_at_call 66; refine (HC.out _).mono ?_; rintro e w1 ⟨rfl, rfl⟩; rw [HVC.out he]) | (go_at_call 67; refine (HBC.out _).mono ?_; rintro e w2 ⟨rfl, rfl⟩))
        go_ret2
        exact ⟨ret2_raw HF.out.1.symm HF.out.2.symm, Below.refl _ _⟩
    · rw [show byteCells 2 = 16 from rfl] at h3
      have HBC := Hid.in_ (fun w => spec_l08Cell 2 w)
      rw [show byteCells 2 = 16 from rfl] at HBC
      cases he : s.toList.isEmpty
      all_goals
        have HVC := Hid.in_ (show s.toList.isEmpty = false → validCells s = true from fun h => by unfold validCells; rw [h, h2]; rfl)
        go_enter Tryd.func20, Tryd.ntmps20
        go_wp2_with (first | (go_at_call 65; refine (bool_is (spec_l07Format _ _) (by assumption)).mono ?_; rintro e w' ⟨rfl, rfl⟩) | (go_at_call 66; refine (HC.out _).mono ?_; rintro e w1 ⟨rfl, rfl⟩; rw [HVC.out he]) | (go_at_call 67; refine (HBC.out _).mono ?_; rintro e w2 ⟨rfl, rfl⟩))
        go_ret2
        exact ⟨ret2_raw HF.out.1.symm HF.out.2.symm, Below.refl _ _⟩
    · rw [show byteCells 3 = 10 from rfl] at h3
      have HBC := Hid.in_ (fun w => spec_l08Cell 3 w)
      rw [show byteCells 3 = 10 from rfl] at HBC
      cases he : s.toList.isEmpty
      all_goals
        have HVC := Hid.in_ (show s.toList.isEmpty = false → validCells s = true from fun h => by unfold validCells; rw [h, h2]; rfl)
        go_enter Tryd.func20, Tryd.ntmps20
        go_wp2_with (first | (go_at_call 65; refine (bool_is (spec_l07Format _ _) (by assumption)).mono ?_; rintro e w' ⟨rfl, rfl⟩) | (go_at_call 66; refine (HC.out _).mono ?_; rintro e w1 ⟨rfl, rfl⟩; rw [HVC.out he]) | (go_at_call 67; refine (HBC.out _).mono ?_; rintro e w2 ⟨rfl, rfl⟩))
        go_ret2
        exact ⟨ret2_raw HF.out.1.symm HF.out.2.symm, Below.refl _ _⟩
  · have HF := Hid.in_ (raw_yes HV.out)
    obtain rfl | rfl | rfl := three h1
    · rw [show byteCells 1 = 16 from rfl] at h3
      have HBC := Hid.in_ (fun w => spec_l08Cell 1 w)
      rw [show byteCells 1 = 16 from rfl] at HBC
      have HRW := Hid.in_ (fun w => spec_l09Raw 1 s w h2 (fun _ => by have := bne_eq_false_iff_eq.1 h3; omega) (fun h => absurd h (by decide)))
      cases he : s.toList.isEmpty
      all_goals
        have HVC := Hid.in_ (show s.toList.isEmpty = false → validCells s = true from fun h => by unfold validCells; rw [h, h2]; rfl)
        go_enter Tryd.func20, Tryd.ntmps20
        go_wp2_with (first | (go_at_call 65; refine (bool_is (spec_l07Format _ _) (by assumption)).mono ?_; rintro e w' ⟨rfl, rfl⟩) | (go_at_call 66; refine (HC.out _).mono ?_; rintro e w1 ⟨rfl, rfl⟩; rw [HVC.out he]) | (go_at_call 67; refine (HBC.out _).mono ?_; rintro e w2 ⟨rfl, rfl⟩) | (go_at_call 68; refine (HRW.out _).mono ?_; rintro e w3 ⟨rfl, hb3⟩))
        go_ret2
        exact ⟨ret2_raw HF.out.1.symm HF.out.2.symm, hb3⟩
    · rw [show byteCells 2 = 16 from rfl] at h3
      have HBC := Hid.in_ (fun w => spec_l08Cell 2 w)
      rw [show byteCells 2 = 16 from rfl] at HBC
      have HRW := Hid.in_ (fun w => spec_l09Raw 2 s w h2 (fun _ => by have := bne_eq_false_iff_eq.1 h3; omega) (fun h => absurd h (by decide)))
      cases he : s.toList.isEmpty
      all_goals
        have HVC := Hid.in_ (show s.toList.isEmpty = false → validCells s = true from fun h => by unfold validCells; rw [h, h2]; rfl)
        go_enter Tryd.func20, Tryd.ntmps20
        go_wp2_with (first | (go_at_call 65; refine (bool_is (spec_l07Format _ _) (by assumption)).mono ?_; rintro e w' ⟨rfl, rfl⟩) | (go_at_call 66; refine (HC.out _).mono ?_; rintro e w1 ⟨rfl, rfl⟩; rw [HVC.out he]) | (go_at_call 67; refine (HBC.out _).mono ?_; rintro e w2 ⟨rfl, rfl⟩) | (go_at_call 68; refine (HRW.out _).mono ?_; rintro e w3 ⟨rfl, hb3⟩))
        go_ret2
        exact ⟨ret2_raw HF.out.1.symm HF.out.2.symm, hb3⟩
    · rw [show byteCells 3 = 10 from rfl] at h3
      have HBC := Hid.in_ (fun w => spec_l08Cell 3 w)
      rw [show byteCells 3 = 10 from rfl] at HBC
      have HRW := Hid.in_ (fun w => spec_l09Raw 3 s w h2 (fun h => absurd rfl h) (fun _ => by have := bne_eq_false_iff_eq.1 h3; omega))
      cases he : s.toList.isEmpty
      all_goals
        have HVC := Hid.in_ (show s.toList.isEmpty = false → validCells s = true from fun h => by unfold validCells; rw [h, h2]; rfl)
        go_enter Tryd.func20, Tryd.ntmps20
        go_wp2_with (first | (go_at_call 65; refine (bool_is (spec_l07Format _ _) (by assumption)).mono ?_; rintro e w' ⟨rfl, rfl⟩) | (go_at_call 66; refine (HC.out _).mono ?_; rintro e w1 ⟨rfl, rfl⟩; rw [HVC.out he]) | (go_at_call 67; refine (HBC.out _).mono ?_; rintro e w2 ⟨rfl, rfl⟩) | (go_at_call 68; refine (HRW.out _).mono ?_; rintro e w3 ⟨rfl, hb3⟩))
        go_ret2
        exact ⟨ret2_raw HF.out.1.symm HF.out.2.symm, hb3⟩
end Go.Proofs.YtfmlobfgkinngaaDoor
