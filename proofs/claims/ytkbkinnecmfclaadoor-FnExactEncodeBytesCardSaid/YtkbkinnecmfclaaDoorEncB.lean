/- 'EncodeBytes' of the program and of the reference. -/
import Derived.Test.YtkbkinnecmfclaaDoorL05
import Derived.Test.YtkbkinnecmfclaaDoorFm
import Derived.Test.YtkbkinnecmfclaaDoorEnc
import Derived.Test.YtkbkinnecmfclaaDoorMark
namespace Go.Proofs.YtkbkinnecmfclaaDoor
open Go.ChangeShapes Go.WideShapes Go.ChangeAt Go.RowKit
set_option linter.unusedSimpArgs false
set_option linter.unusedVariables false
set_option maxRecDepth 20000

/-- The cells of bytes in a format. -/
def cellsOf (f : Int) (s : ByteArray) (last : Bool) : ByteArray := if f = 1 then encS false false s else if f = 2 then encS true last s else encode s
def ebOk (f : Int) (s : ByteArray) : Bool := inB f 1 3 && decide (¬ (8000 : Int) < (s.size : Int) * byteCells f)
def ebV (f : Int) (s : ByteArray) (last : Bool) : ByteArray := if ebOk f s = true then cellsOf f s last else ⟨#[]⟩
theorem eb_cases (f : Int) (s : ByteArray) (last : Bool) :
    (inB f 1 3 = false ∧ Hid (ebOk f s = false ∧ ebV f s last = ⟨#[]⟩)) ∨
    (inB f 1 3 = true ∧ (8000 : Int) < (s.size : Int) * byteCells f ∧ Hid (ebOk f s = false ∧ ebV f s last = ⟨#[]⟩)) ∨
    (inB f 1 3 = true ∧ ¬ (8000 : Int) < (s.size : Int) * byteCells f ∧ Hid (ebOk f s = true ∧ ebV f s last = cellsOf f s last)) := by
  have hno : ebOk f s = false → ebOk f s = false ∧ ebV f s last = ⟨#[]⟩ := fun h => ⟨h, if_neg (by rw [h]; decide)⟩
  cases h1 : inB f 1 3
  · exact .inl ⟨rfl, hno (by unfold ebOk; rw [h1]; rfl)⟩
  · by_cases h2 : (8000 : Int) < (s.size : Int) * byteCells f
    · exact .inr (.inl ⟨rfl, h2, hno (by unfold ebOk; rw [decide_eq_false (fun h => h h2), Bool.and_false])⟩)
    · have h : ebOk f s = true := by unfold ebOk; rw [h1, decide_eq_true h2]; rfl
      exact .inr (.inr ⟨rfl, h2, h, if_pos h⟩)
theorem eb_mul (f : Int) {s : ByteArray} (hs : s.size ≤ 1048576) : 0 ≤ (s.size : Int) * byteCells f ∧ (s.size : Int) * byteCells f ≤ 16777216 := by
  have h0 : 0 ≤ byteCells f ∧ byteCells f ≤ 16 := by unfold byteCells; split <;> decide
  exact ⟨Int.mul_nonneg (by omega) h0.1, Int.mul_le_mul (a := (s.size : Int)) (b := byteCells f) (c := 1048576) (d := 16) (by omega) h0.2 h0.1 (by omega)⟩
set_option maxHeartbeats 2000000 in
theorem impl_encodeBytes (f : Int) (s : ByteArray) (last : Bool) (w : World) (hf : inB f 1 3 = true) (hs : s.size ≤ 1048576) (hT : Tab w) :
    Calls Tryd.prog 52 #[.int .i64 f, .string s, .bool last] w fun e w' => e = .returned (.string (cellsOf f s last)) ∧ Below w.heap.size w w' := by
  have H1 := Hid.in_ (impl_fmCells s w hs)
  have H2 := Hid.in_ (impl_mfmCells s last w hs)
  have H3 := Hid.in_ (impl_gcrCells s w hs hT)
  clear hT
  obtain rfl | rfl | rfl := three hf
  all_goals
    go_enter Tryd.func52, Tryd.ntmps52
    go_wp2_with (first | (go_at_call 80; refine H1.out.mono ?_; rintro e w1 ⟨rfl, hb1⟩) | (go_at_call 86; refine H2.out.mono ?_; rintro e w1 ⟨rfl, hb1⟩) | (go_at_call 73; refine H3.out.mono ?_; rintro e w1 ⟨rfl, hb1⟩))
    go_ret
    exact ⟨rfl, hb1⟩
set_option maxHeartbeats 2000000 in
theorem spec_l08Encode (f : Int) (s : ByteArray) (last : Bool) (w : World) (hf : inB f 1 3 = true) (hs : s.size ≤ 1048576) (h8 : ¬ (8000 : Int) < (s.size : Int) * byteCells f) :
    Calls Tryd.prog 49 #[.int .i64 f, .string s, .bool last] w fun e w' => e = .returned (.string (cellsOf f s last)) ∧ Below w.heap.size w w' := by
  have H5 := Hid.in_ (show ∀ l m w, Calls Tryd.prog 104 #[.string s, .bool l, .bool m] w _ from fun l m w => spec_l05Encode s l m w hs)
  have H6 := Hid.in_ (spec_EncodeGcr s w hs)
  obtain rfl | rfl | rfl := three hf
  · have HE := Hid.in_ (show encV05 false false s = encS false false s from if_neg (by have : byteCells 1 = 16 := rfl; rw [this] at h8; omega))
    have HC : Hid (∀ w, Calls Tryd.prog 83 #[.string s] w fun e w' => e = .returned (.string (encS false false s)) ∧ Below w.heap.size w w') := fun w => by
      go_enter Tryd.func83, Tryd.ntmps83
      go_wp2_with (go_at_call 104; refine (H5.out _ _ _).mono ?_; rintro e w1 ⟨rfl, hb1⟩)
      go_ret
      exact ⟨ret_strX HE.out, hb1⟩
    go_enter Tryd.func49, Tryd.ntmps49
    go_wp2_with (go_at_call 83; refine (HC.out _).mono ?_; rintro e w1 ⟨rfl, hb1⟩)
    go_ret
    exact ⟨rfl, hb1⟩
  · have HE := Hid.in_ (show encV05 true last s = encS true last s from if_neg (by have : byteCells 2 = 16 := rfl; rw [this] at h8; omega))
    have HC : Hid (∀ w, Calls Tryd.prog 84 #[.string s, .bool last] w fun e w' => e = .returned (.string (encS true last s)) ∧ Below w.heap.size w w') := fun w => by
      go_enter Tryd.func84, Tryd.ntmps84
      go_wp2_with (go_at_call 104; refine (H5.out _ _ _).mono ?_; rintro e w1 ⟨rfl, hb1⟩)
      go_ret
      exact ⟨ret_strX HE.out, hb1⟩
    go_enter Tryd.func49, Tryd.ntmps49
    go_wp2_with (go_at_call 84; refine (HC.out _).mono ?_; rintro e w1 ⟨rfl, hb1⟩)
    go_ret
    exact ⟨rfl, hb1⟩
  · have HV := Hid.in_ (show encV s = encode s from if_neg (by unfold encB; have : byteCells 3 = 10 := rfl; rw [this] at h8; rw [decide_eq_false (by omega)]; decide))
    go_enter Tryd.func49, Tryd.ntmps49
    go_wp2_with (go_at_call 85; refine H6.out.mono ?_; rintro e w1 ⟨rfl, hb1⟩)
    go_ret
    exact ⟨ret_strX HV.out, hb1⟩
set_option maxHeartbeats 2000000 in
theorem spec_EncodeBytes (f : Int) (s : ByteArray) (last : Bool) (w : World) (hs : s.size ≤ 1048576) :
    Calls Tryd.prog 15 #[.int .i64 f, .string s, .bool last] w fun e w' => e = .returned (.tuple #[.string (ebV f s last), .bool (ebOk f s)]) ∧ Below w.heap.size w w' := by
  obtain ⟨hm0, hm1⟩ := eb_mul f hs
  have HE := Hid.in_ (show ∀ (hf : inB f 1 3 = true) (h8 : ¬ (8000 : Int) < (s.size : Int) * byteCells f), Calls Tryd.prog 49 #[.int .i64 f, .string s, .bool last] w _ from fun hf h8 => spec_l08Encode f s last w hf hs h8)
  obtain ⟨h1, HV⟩ | ⟨h1, h2, HV⟩ | ⟨h1, h2, HV⟩ := eb_cases f s last
  · go_enter Tryd.func15, Tryd.ntmps15
    go_wp2_with (first | (go_at_call 47; refine (bool_is (spec_l07Format _ _) (by assumption)).mono ?_; rintro e w' ⟨rfl, rfl⟩))
    go_ret2
    exact ⟨ret2_sb HV.out.2.symm HV.out.1.symm, Below.refl _ _⟩
  · go_enter Tryd.func15, Tryd.ntmps15
    go_wp2_with (first | (go_at_call 47; refine (bool_is (spec_l07Format _ _) (by assumption)).mono ?_; rintro e w' ⟨rfl, rfl⟩) | (go_at_call 48; refine (spec_l08Cell _ _).mono ?_; rintro e w' ⟨rfl, rfl⟩))
    go_ret2
    exact ⟨ret2_sb HV.out.2.symm HV.out.1.symm, Below.refl _ _⟩
  · have HF := Hid.in_ h1
    have H8 := Hid.in_ h2
    go_enter Tryd.func15, Tryd.ntmps15
    go_wp2_with (first | (go_at_call 47; refine (bool_is (spec_l07Format _ _) (by assumption)).mono ?_; rintro e w' ⟨rfl, rfl⟩) | (go_at_call 48; refine (spec_l08Cell _ _).mono ?_; rintro e w' ⟨rfl, rfl⟩) | (go_at_call 49; refine (HE.out HF.out H8.out).mono ?_; rintro e w1 ⟨rfl, hb1⟩))
    go_ret2
    exact ⟨ret2_sb HV.out.2.symm HV.out.1.symm, hb1⟩
set_option maxHeartbeats 2000000 in
theorem impl_EncodeBytes (f : Int) (s : ByteArray) (last : Bool) (w : World) (hs : s.size ≤ 1048576) (hT : Tab w) :
    Calls Tryd.prog 16 #[.int .i64 f, .string s, .bool last] w fun e w' => e = .returned (.tuple #[.string (ebV f s last), .bool (ebOk f s)]) ∧ Below w.heap.size w w' := by
  obtain ⟨hm0, hm1⟩ := eb_mul f hs
  have HE := Hid.in_ (show ∀ hf : inB f 1 3 = true, Calls Tryd.prog 52 #[.int .i64 f, .string s, .bool last] w _ from fun hf => impl_encodeBytes f s last w hf hs hT)
  clear hT
  obtain ⟨h1, HV⟩ | ⟨h1, h2, HV⟩ | ⟨h1, h2, HV⟩ := eb_cases f s last
  · go_enter Tryd.func16, Tryd.ntmps16
    go_wp2_with (first | (go_at_call 50; refine (bool_is (impl_isFormat _ _) (by assumption)).mono ?_; rintro e w' ⟨rfl, rfl⟩))
    go_ret2
    exact ⟨ret2_sb HV.out.2.symm HV.out.1.symm, Below.refl _ _⟩
  · go_enter Tryd.func16, Tryd.ntmps16
    go_wp2_with (first | (go_at_call 50; refine (bool_is (impl_isFormat _ _) (by assumption)).mono ?_; rintro e w' ⟨rfl, rfl⟩) | (go_at_call 51; refine (impl_byteCells _ _).mono ?_; rintro e w' ⟨rfl, rfl⟩))
    go_ret2
    exact ⟨ret2_sb HV.out.2.symm HV.out.1.symm, Below.refl _ _⟩
  · have HF := Hid.in_ h1
    have H8 := Hid.in_ h2
    go_enter Tryd.func16, Tryd.ntmps16
    go_wp2_with (first | (go_at_call 50; refine (bool_is (impl_isFormat _ _) (by assumption)).mono ?_; rintro e w' ⟨rfl, rfl⟩) | (go_at_call 51; refine (impl_byteCells _ _).mono ?_; rintro e w' ⟨rfl, rfl⟩) | (go_at_call 52; refine (HE.out HF.out).mono ?_; rintro e w1 ⟨rfl, hb1⟩))
    go_ret2
    exact ⟨ret2_sb HV.out.2.symm HV.out.1.symm, hb1⟩
end Go.Proofs.YtkbkinnecmfclaaDoor
