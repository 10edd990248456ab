/- Sectors that were found: 'szFound', 'toFound', 'ValidFound' of the program and of the reference. -/
import Derived.Test.YtlelgpknkgjaeaaMark
import Derived.Test.YtlelgpknkgjaeaaRec1
namespace Go.Proofs.Ytlelgpknkgjaeaa
open Go.ChangeShapes Go.WideShapes Go.ChangeAt Go.RowKit
set_option linter.unusedSimpArgs false
set_option linter.unusedVariables false

def foundBase (c h n s p : Int) : Bool := inB c 0 255 && inB h 0 255 && inB n 0 255 && inB s 0 255 && inB p 0 7999
def validFound (c h n s : Int) (d : ByteArray) (t : Int) (l : Bool) (p : Int) : Bool :=
  foundBase c h n s p && inB t 1 4 && (if t = 2 then d.toList.isEmpty && !l else if t = 4 then inB s 0 2 && d.toList.isEmpty && !l else inB s 0 2 && ((d.size : Int) == sizeBytes s))

theorem found_cases (c h n s p : Int) :
    (inB c 0 255 = false ∧ Hid (foundBase c h n s p = false)) ∨
    (inB c 0 255 = true ∧ inB h 0 255 = false ∧ Hid (foundBase c h n s p = false)) ∨
    (inB c 0 255 = true ∧ inB h 0 255 = true ∧ inB n 0 255 = false ∧ Hid (foundBase c h n s p = false)) ∨
    (inB c 0 255 = true ∧ inB h 0 255 = true ∧ inB n 0 255 = true ∧ inB s 0 255 = false ∧ Hid (foundBase c h n s p = false)) ∨
    (inB c 0 255 = true ∧ inB h 0 255 = true ∧ inB n 0 255 = true ∧ inB s 0 255 = true ∧ inB p 0 7999 = false ∧ Hid (foundBase c h n s p = false)) ∨
    (inB c 0 255 = true ∧ inB h 0 255 = true ∧ inB n 0 255 = true ∧ inB s 0 255 = true ∧ inB p 0 7999 = true ∧ Hid (foundBase c h n s p = true)) := by
  unfold Hid foundBase
  cases inB c 0 255 <;> cases inB h 0 255 <;> cases inB n 0 255 <;> cases inB s 0 255 <;> cases inB p 0 7999 <;> simp
theorem four_or (t : Int) : t = 1 ∨ t = 2 ∨ t = 3 ∨ t = 4 ∨ (inB t 1 4 = false ∧ (t == 1) = false ∧ (t == 2) = false ∧ (t == 3) = false ∧ (t == 4) = false) := by
  simp only [beq_eq_false_iff_ne]
  by_cases h : 1 ≤ t ∧ t ≤ 4
  · omega
  · exact .inr (.inr (.inr (.inr ⟨inB_no h, by omega, by omega, by omega, by omega⟩)))
theorem size_cases {s : Int} (h : inB s 0 255 = true) : s = 0 ∨ s = 1 ∨ s = 2 ∨ (inB s 0 2 = false ∧ 2 < s ∧ s ≤ 255) := by
  have := inB_t h
  by_cases h2 : s ≤ 2
  · omega
  · exact .inr (.inr (.inr ⟨inB_no (by omega), by omega, by omega⟩))

theorem impl_ValidFound_no (c h n s : Int) (d : ByteArray) (t : Int) (l : Bool) (p : Int) (w : World) (hb : foundBase c h n s p = false) :
    Calls Try.prog 100 #[.agg #[.int .i64 c, .int .i64 h, .int .i64 n, .int .i64 s, .string d, .int .i64 t, .bool l, .int .i64 p]] w fun e w' => e = .returned (.bool false) ∧ Below w.heap.size w w' := by
  have HB := Hid.in_ hb
  clear hb
  obtain ⟨h1, HV⟩ | ⟨h1, h2, HV⟩ | ⟨h1, h2, h3, HV⟩ | ⟨h1, h2, h3, h4, HV⟩ | ⟨h1, h2, h3, h4, h5, HV⟩ | ⟨h1, h2, h3, h4, h5, HV⟩ := found_cases c h n s p
  case inr.inr.inr.inr.inr => have := HB.out.symm.trans HV.out; cases this
  all_goals
    clear HB HV
    go_enter Try.func100, Try.ntmps100
    go_wp2_with (first | (go_at_call 87; refine (bool_is (impl_isByte _ _) (by assumption)).mono ?_; rintro e w' ⟨rfl, rfl⟩) | (go_at_call 44; refine (bool_is (impl_within _ _ _ _) (by assumption)).mono ?_; rintro e w' ⟨rfl, rfl⟩))
    go_ret
    exact ⟨rfl, by go_grown⟩
set_option maxHeartbeats 2000000 in
theorem impl_ValidFound_yes (c h n s : Int) (d : ByteArray) (t : Int) (l : Bool) (p : Int) (w : World) (hd : d.size ≤ 1048576) (hb : foundBase c h n s p = true) :
    Calls Try.prog 100 #[.agg #[.int .i64 c, .int .i64 h, .int .i64 n, .int .i64 s, .string d, .int .i64 t, .bool l, .int .i64 p]] w fun e w' => e = .returned (.bool (validFound c h n s d t l p)) ∧ Below w.heap.size w w' := by
  have HB := Hid.in_ hb
  obtain ⟨⟨⟨⟨h1, h2⟩, h3⟩, h4⟩, h5⟩ : (((inB c 0 255 = true ∧ inB h 0 255 = true) ∧ inB n 0 255 = true) ∧ inB s 0 255 = true) ∧ inB p 0 7999 = true := by simpa [foundBase] using hb
  clear hb
  obtain rfl | rfl | rfl | rfl | ⟨k0, k1, k2, k3, k4⟩ := four_or t
  case inr.inr.inr.inr =>
    have HV : Hid (validFound c h n s d t l p = false) := by unfold Hid validFound; rw [HB.out, k0]; rfl
    go_enter Try.func100, Try.ntmps100
    go_wp2_with (first | (go_at_call 87; refine (bool_is (impl_isByte _ _) (by assumption)).mono ?_; rintro e w' ⟨rfl, rfl⟩) | (go_at_call 44; refine (bool_is (impl_within _ _ _ _) (by assumption)).mono ?_; rintro e w' ⟨rfl, rfl⟩))
    go_ret
    exact ⟨ret_bool HV.out.symm, by go_grown⟩
  case inr.inl =>
    have HV : Hid (validFound c h n s d 2 l p = (d.toList.isEmpty && !l)) := by unfold Hid validFound; rw [HB.out]; rfl
    cases he : d.toList.isEmpty
    all_goals
      rw [he] at HV
      go_enter Try.func100, Try.ntmps100
      go_wp2_with (first | (go_at_call 87; refine (bool_is (impl_isByte _ _) (by assumption)).mono ?_; rintro e w' ⟨rfl, rfl⟩) | (go_at_call 44; refine (bool_is (impl_within _ _ _ _) (by assumption)).mono ?_; rintro e w' ⟨rfl, rfl⟩))
      go_ret
      exact ⟨ret_bool HV.out.symm, by go_grown⟩
  case inr.inr.inr.inl =>
    have HV : Hid (validFound c h n s d 4 l p = (inB s 0 2 && d.toList.isEmpty && !l)) := by unfold Hid validFound; rw [HB.out]; rfl
    obtain rfl | rfl | rfl | ⟨s0, s1, _⟩ := size_cases h4
    case inr.inr.inr =>
      rw [s0] at HV
      go_enter Try.func100, Try.ntmps100
      go_wp2_with (first | (go_at_call 87; refine (bool_is (impl_isByte _ _) (by assumption)).mono ?_; rintro e w' ⟨rfl, rfl⟩) | (go_at_call 44; refine (bool_is (impl_within _ _ _ _) (by assumption)).mono ?_; rintro e w' ⟨rfl, rfl⟩))
      go_ret
      exact ⟨ret_bool HV.out.symm, by go_grown⟩
    all_goals
      cases he : d.toList.isEmpty
      all_goals
        rw [he] at HV
        go_enter Try.func100, Try.ntmps100
        go_wp2_with (first | (go_at_call 87; refine (bool_is (impl_isByte _ _) (by assumption)).mono ?_; rintro e w' ⟨rfl, rfl⟩) | (go_at_call 44; refine (bool_is (impl_within _ _ _ _) (by assumption)).mono ?_; rintro e w' ⟨rfl, rfl⟩))
        go_ret
        exact ⟨ret_bool HV.out.symm, by go_grown⟩
  case' inl => have HV : Hid (validFound c h n s d 1 l p = (inB s 0 2 && ((d.size : Int) == sizeBytes s))) := by unfold Hid validFound; rw [HB.out]; rfl
  case' inr.inr.inl => have HV : Hid (validFound c h n s d 3 l p = (inB s 0 2 && ((d.size : Int) == sizeBytes s))) := by unfold Hid validFound; rw [HB.out]; rfl
  all_goals
    obtain rfl | rfl | rfl | ⟨s0, s1, _⟩ := size_cases h4
    case inr.inr.inr =>
      rw [s0] at HV
      have hdec : decide (s ≤ 2) = false := by simp; omega
      go_enter Try.func100, Try.ntmps100
      go_wp2_with (first | (go_at_call 87; refine (bool_is (impl_isByte _ _) (by assumption)).mono ?_; rintro e w' ⟨rfl, rfl⟩) | (go_at_call 44; refine (bool_is (impl_within _ _ _ _) (by assumption)).mono ?_; rintro e w' ⟨rfl, rfl⟩))
      go_quiet (fail)
      go_wp2
      go_ret
      exact ⟨ret_bool HV.out.symm, by repeat (first | exact Below.refl _ _ | refine below_drewN ?_ _ | (refine Below.alloc ?_ (by simp; try omega) _))⟩
    all_goals
      go_enter Try.func100, Try.ntmps100
      go_wp2_with (first | (go_at_call 87; refine (bool_is (impl_isByte _ _) (by assumption)).mono ?_; rintro e w' ⟨rfl, rfl⟩) | (go_at_call 44; refine (bool_is (impl_within _ _ _ _) (by assumption)).mono ?_; rintro e w' ⟨rfl, rfl⟩))
      go_quiet ((go_at_call 91; first | exact quiet_left (impl_sizeBytes _ _ (by decide)) | exact quiet_add_left (impl_sizeBytes _ _ (by decide))))
      go_wp2
      go_ret
      exact ⟨ret_bool HV.out.symm, by repeat (first | exact Below.refl _ _ | refine below_drewN ?_ _ | (refine Below.alloc ?_ (by simp; try omega) _))⟩
theorem impl_ValidFound (c h n s : Int) (d : ByteArray) (t : Int) (l : Bool) (p : Int) (w : World) (hd : d.size ≤ 1048576) :
    Calls Try.prog 100 #[.agg #[.int .i64 c, .int .i64 h, .int .i64 n, .int .i64 s, .string d, .int .i64 t, .bool l, .int .i64 p]] w fun e w' => e = .returned (.bool (validFound c h n s d t l p)) ∧ Below w.heap.size w w' := by
  cases hb : foundBase c h n s p
  · exact (impl_ValidFound_no c h n s d t l p w hb).mono fun e w' ⟨he, hw⟩ => ⟨by rw [he, validFound, hb]; rfl, hw⟩
  · exact impl_ValidFound_yes c h n s d t l p w hd hb
theorem spec_l09Ok_no {c h n s : Int} {d : ByteArray} {t : Int} {l : Bool} {p : Int} {b o : Nat} (w : World) (hb : (foundBase c h n s p && inB t 1 4) = false)
    (hB : BoxAt w b o [.int .i64 c, .int .i64 h, .int .i64 n, .int .i64 s, .string d, .int .i64 t, .bool l, .int .i64 p]) :
    Calls Try.prog 94 #[.pointer (some ⟨b, o, none⟩)] w fun e w' => e = .returned (.bool false) ∧ ∃ k, w' = w.drewN k := by
  have c0 := hB.at_ 0 _ rfl o rfl
  have c1 := hB.at_ 1 _ rfl _ rfl
  have c2 := hB.at_ 2 _ rfl _ rfl
  have c3 := hB.at_ 3 _ rfl _ rfl
  have c5 := hB.at_ 5 _ rfl _ rfl
  have c7 := hB.at_ 7 _ rfl _ rfl
  have HB := Hid.in_ hb
  clear hB hb
  obtain ⟨h1, HV⟩ | ⟨h1, h2, HV⟩ | ⟨h1, h2, h3, HV⟩ | ⟨h1, h2, h3, h4, HV⟩ | ⟨h1, h2, h3, h4, h5, HV⟩ | ⟨h1, h2, h3, h4, h5, HV⟩ := found_cases c h n s p
  case' inr.inr.inr.inr.inl => cases h6 : inB t 1 4
  case' inr.inr.inr.inr.inr =>
    have h6 : inB t 1 4 = false := by have := HB.out; rw [HV.out] at this; simpa using this
  all_goals
    clear HB HV
    go_enter Try.func94, Try.ntmps94
    go_wp2_with (first | (go_at_call 42; refine (bool_is (spec_l00In _ _ _ _) (by assumption)).mono ?_; rintro e w' ⟨rfl, rfl⟩))
    go_ret
    exact ⟨rfl, 0, rfl⟩
set_option maxHeartbeats 2000000 in
theorem spec_l09Ok_yes {c h n s : Int} {d : ByteArray} {t : Int} {l : Bool} {p : Int} {b o : Nat} (w : World) (hd : d.size ≤ 1048576) (hb : foundBase c h n s p = true) (h6 : inB t 1 4 = true)
    (hB : BoxAt w b o [.int .i64 c, .int .i64 h, .int .i64 n, .int .i64 s, .string d, .int .i64 t, .bool l, .int .i64 p]) :
    Calls Try.prog 94 #[.pointer (some ⟨b, o, none⟩)] w fun e w' => e = .returned (.bool (validFound c h n s d t l p)) ∧ ∃ k, w' = w.drewN k := by
  have c0 := hB.at_ 0 _ rfl o rfl
  have c1 := hB.at_ 1 _ rfl _ rfl
  have c2 := hB.at_ 2 _ rfl _ rfl
  have c3 := hB.at_ 3 _ rfl _ rfl
  have c4 := hB.at_ 4 _ rfl _ rfl
  have c5 := hB.at_ 5 _ rfl _ rfl
  have c6 := hB.at_ 6 _ rfl _ rfl
  have c7 := hB.at_ 7 _ rfl _ rfl
  have HB := Hid.in_ hb
  obtain ⟨⟨⟨⟨h1, h2⟩, h3⟩, h4⟩, h5⟩ : (((inB c 0 255 = true ∧ inB h 0 255 = true) ∧ inB n 0 255 = true) ∧ inB s 0 255 = true) ∧ inB p 0 7999 = true := by simpa [foundBase] using hb
  clear hb hB
  obtain rfl | rfl | rfl | rfl | ⟨k0, k1, k2, k3, k4⟩ := four_or t
  case inr.inr.inr.inr => rw [k0] at h6; cases h6
  case inr.inl =>
    have HV : Hid (validFound c h n s d 2 l p = (d.toList.isEmpty && !l)) := by unfold Hid validFound; rw [HB.out]; rfl
    cases he : d.toList.isEmpty <;> cases hl : l
    all_goals
      rw [he, hl] at HV
      subst hl
      go_enter Try.func94, Try.ntmps94
      go_wp2_with (first | (go_at_call 42; refine (bool_is (spec_l00In _ _ _ _) (by assumption)).mono ?_; rintro e w' ⟨rfl, rfl⟩))
      go_ret
      exact ⟨ret_bool HV.out.symm, 0, rfl⟩
  case inr.inr.inr.inl =>
    have HV : Hid (validFound c h n s d 4 l p = (inB s 0 2 && d.toList.isEmpty && !l)) := by unfold Hid validFound; rw [HB.out]; rfl
    obtain rfl | rfl | rfl | ⟨s0, s1, _⟩ := size_cases h4
    case' inr.inr.inr =>
      rw [s0] at HV
      have hdec : decide (s ≤ 2) = false := by simp; omega
    all_goals
      cases he : d.toList.isEmpty <;> cases hl : l
      all_goals
        rw [he, hl] at HV
        subst hl
        go_enter Try.func94, Try.ntmps94
        go_wp2_with (first | (go_at_call 42; refine (bool_is (spec_l00In _ _ _ _) (by assumption)).mono ?_; rintro e w' ⟨rfl, rfl⟩))
        go_ret
        exact ⟨ret_bool HV.out.symm, 0, rfl⟩
  case' inl => have HV : Hid (validFound c h n s d 1 l p = (inB s 0 2 && ((d.size : Int) == sizeBytes s))) := by unfold Hid validFound; rw [HB.out]; rfl
  case' inr.inr.inl => have HV : Hid (validFound c h n s d 3 l p = (inB s 0 2 && ((d.size : Int) == sizeBytes s))) := by unfold Hid validFound; rw [HB.out]; rfl
  all_goals
    obtain rfl | rfl | rfl | ⟨s0, s1, _⟩ := size_cases h4
    case' inr.inr.inr =>
      rw [s0] at HV
      have hdec : decide (s ≤ 2) = false := by simp; omega
    all_goals
      go_enter Try.func94, Try.ntmps94
      go_wp2_with (first | (go_at_call 42; refine (bool_is (spec_l00In _ _ _ _) (by assumption)).mono ?_; rintro e w' ⟨rfl, rfl⟩))
      go_quiet (fail)
      go_wp2
      go_ret
      exact ⟨ret_bool HV.out.symm, _, rfl⟩
theorem spec_l09Ok {c h n s : Int} {d : ByteArray} {t : Int} {l : Bool} {p : Int} {b o : Nat} (w : World) (hd : d.size ≤ 1048576)
    (hB : BoxAt w b o [.int .i64 c, .int .i64 h, .int .i64 n, .int .i64 s, .string d, .int .i64 t, .bool l, .int .i64 p]) :
    Calls Try.prog 94 #[.pointer (some ⟨b, o, none⟩)] w fun e w' => e = .returned (.bool (validFound c h n s d t l p)) ∧ ∃ k, w' = w.drewN k := by
  cases hb : foundBase c h n s p && inB t 1 4
  · exact (spec_l09Ok_no w hb hB).mono fun e w' ⟨he, hw⟩ => ⟨by rw [he, validFound, hb]; rfl, hw⟩
  · rw [Bool.and_eq_true] at hb
    exact spec_l09Ok_yes w hd hb.1 hb.2 hB
end Go.Proofs.Ytlelgpknkgjaeaa
