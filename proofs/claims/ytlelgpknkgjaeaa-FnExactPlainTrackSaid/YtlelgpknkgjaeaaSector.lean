/- Sectors as they are described: 'szSectorSpec', 'toSectorSpec', 'ValidSectorSpec' of the program and of the reference. -/
import Derived.Test.YtlelgpknkgjaeaaMark
import Derived.Test.YtlelgpknkgjaeaaRec1
namespace Go.Proofs.Ytlelgpknkgjaeaa
open Go.ChangeShapes Go.WideShapes Go.ChangeAt Go.RowKit
set_option linter.unusedSimpArgs false
set_option linter.unusedVariables false

def validSector (c h n s : Int) (len : Nat) : Bool := inB c 0 255 && inB h 0 255 && inB n 0 255 && inB s 0 2 && ((len : Int) == sizeBytes s)

theorem sector_cases (c h n s : Int) (len : Nat) :
    (inB c 0 255 = false ∧ Hid (validSector c h n s len = false)) ∨
    (inB c 0 255 = true ∧ inB h 0 255 = false ∧ Hid (validSector c h n s len = false)) ∨
    (inB c 0 255 = true ∧ inB h 0 255 = true ∧ inB n 0 255 = false ∧ Hid (validSector c h n s len = false)) ∨
    (inB c 0 255 = true ∧ inB h 0 255 = true ∧ inB n 0 255 = true ∧ inB s 0 2 = false ∧ Hid (validSector c h n s len = false)) ∨
    (inB c 0 255 = true ∧ inB h 0 255 = true ∧ inB n 0 255 = true ∧ inB s 0 2 = true ∧ Hid (validSector c h n s len = ((len : Int) == sizeBytes s))) := by
  unfold Hid validSector
  cases inB c 0 255 <;> cases inB h 0 255 <;> cases inB n 0 255 <;> cases inB s 0 2 <;> simp

set_option maxHeartbeats 2000000 in
theorem impl_ValidSectorSpec (c h n s : Int) (d : ByteArray) (b1 b2 b3 : Bool) (w : World) (hd : d.size ≤ 1048576) :
    Calls Try.prog 110 #[.agg #[.int .i64 c, .int .i64 h, .int .i64 n, .int .i64 s, .string d, .bool b1, .bool b2, .bool b3]] w fun e w' =>
      e = .returned (.bool (validSector c h n s d.size)) ∧ Below w.heap.size w w' := by
  obtain ⟨h1, HV⟩ | ⟨h1, h2, HV⟩ | ⟨h1, h2, h3, HV⟩ | ⟨h1, h2, h3, h4, HV⟩ | ⟨h1, h2, h3, h4, HV⟩ := sector_cases c h n s d.size
  all_goals
    go_enter Try.func110, Try.ntmps110
    go_wp2_with fail
    go_quiet ((first | (go_at_call 87; first | exact quiet_left (bool_is (impl_isByte _ _) (by assumption)) | exact quiet_add_left (bool_is (impl_isByte _ _) (by assumption))) | (go_at_call 44; first | exact quiet_left (bool_is (impl_within _ _ _ _) (by assumption)) | exact quiet_add_left (bool_is (impl_within _ _ _ _) (by assumption))) | (go_at_call 91; first | exact quiet_left (impl_sizeBytes _ _ h4) | exact quiet_add_left (impl_sizeBytes _ _ h4))))
    go_wp2
    go_ret
    exact ⟨ret_bool HV.out.symm, by repeat (first | exact Below.refl _ _ | refine below_drewN ?_ _ | (refine Below.alloc ?_ (by simp; try omega) _))⟩
set_option maxHeartbeats 4000000 in
theorem spec_l08Sector {c h n s : Int} {d : ByteArray} {x y z : Bool} {b o : Nat} (w : World) (hd : d.size ≤ 1048576)
    (hB : BoxAt w b o [.int .i64 c, .int .i64 h, .int .i64 n, .int .i64 s, .string d, .bool x, .bool y, .bool z]) :
    Calls Try.prog 108 #[.pointer (some ⟨b, o, none⟩)] w fun e w' => e = .returned (.bool (validSector c h n s d.size)) ∧ ∃ k, w' = w.drewN k := by
  have c0 := hB.at_ 0 _ rfl o rfl
  have c1 := hB.at_ 1 _ rfl _ rfl
  have c2 := hB.at_ 2 _ rfl _ rfl
  have c3 := hB.at_ 3 _ rfl _ rfl
  have c4 := hB.at_ 4 _ rfl _ rfl
  clear hB
  obtain ⟨h1, HV⟩ | ⟨h1, h2, HV⟩ | ⟨h1, h2, h3, HV⟩ | ⟨h1, h2, h3, h4, HV⟩ | ⟨h1, h2, h3, h4, HV⟩ := sector_cases c h n s d.size
  case inr.inr.inr.inr =>
    obtain rfl | rfl | rfl := three0 h4
    all_goals
      go_enter Try.func108, Try.ntmps108
      go_wp2_with fail
      go_quiet ((go_at_call 42; first | exact quiet_left (bool_is (spec_l00In _ _ _ _) (by assumption)) | exact quiet_add_left (bool_is (spec_l00In _ _ _ _) (by assumption))))
      go_wp2
      go_ret
      exact ⟨ret_bool HV.out.symm, _, rfl⟩
  all_goals
    go_enter Try.func108, Try.ntmps108
    go_wp2_with fail
    go_quiet ((go_at_call 42; first | exact quiet_left (bool_is (spec_l00In _ _ _ _) (by assumption)) | exact quiet_add_left (bool_is (spec_l00In _ _ _ _) (by assumption))))
    go_wp2
    go_ret
    exact ⟨ret_bool HV.out.symm, _, rfl⟩
end Go.Proofs.Ytlelgpknkgjaeaa
