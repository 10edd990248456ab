/- 'DataField' of the program and of the reference. -/
import Derived.Test.YtomfagckcfmfjaaIdField
namespace Go.Proofs.Ytomfagckcfmfjaa
open Go.ChangeShapes Go.WideShapes Go.ChangeAt Go.RowKit
set_option linter.unusedSimpArgs false
set_option linter.unusedVariables false
set_option maxRecDepth 4000

def kindOf (x : Bool) : Int := if x = true then 3 else 2
theorem kindOf_in (x : Bool) : inB (kindOf x) 1 3 = true := by cases x <;> decide
theorem impl_dataKind (c h n s : Int) (d : ByteArray) (x y z : Bool) (w : World) :
    Calls Try.prog 89 #[.agg #[.int .i64 c, .int .i64 h, .int .i64 n, .int .i64 s, .string d, .bool x, .bool y, .bool z]] w fun e w' => e = .returned (.int .i64 (kindOf x)) ∧ Below w.heap.size w w' := by
  cases x
  all_goals
    go_enter Try.func89, Try.ntmps89
    go_wp2
    go_ret
    exact ⟨rfl, balloc (Below.refl _ _) _⟩
theorem spec_l08Kind {c h n s : Int} {d : ByteArray} {x y z : Bool} {b : Nat} (w : World) (hB : Box w b [.int .i64 c, .int .i64 h, .int .i64 n, .int .i64 s, .string d, .bool x, .bool y, .bool z]) :
    Calls Try.prog 117 #[.pointer (some ⟨b, 0, none⟩)] w fun e w' => e = .returned (.int .i64 (kindOf x)) ∧ w = w' := by
  obtain ⟨c0, c1, c2, c3, c4, c5, c6, c7⟩ := box8 hB
  clear hB
  cases x
  all_goals
    go_enter Try.func117, Try.ntmps117
    go_wp2
    go_ret
    exact ⟨rfl, rfl⟩
set_option maxHeartbeats 4000000 in
theorem spec_l08Data {c h n s : Int} {d : ByteArray} {x y z : Bool} {b : Nat} (f : Int) (w : World) (hf : inB f 1 3 = true) (hd : d.size ≤ 1048576)
    (hB : Box w b [.int .i64 c, .int .i64 h, .int .i64 n, .int .i64 s, .string d, .bool x, .bool y, .bool z]) :
    Calls Try.prog 88 #[.int .i64 f, .pointer (some ⟨b, 0, none⟩)] w fun e w' => e = .returned (.string (fieldS f (kindOf x) d z)) ∧ Below w.heap.size w w' := by
  have HX := Hid.in_ hB
  have HF := Hid.in_ hf
  have HR : Hid (fieldS f (kindOf x) d z = d ++ wordS (sumP (prefixS f (kindOf x)) d z)) := rfl
  obtain ⟨c0, c1, c2, c3, c4, c5, c6, c7⟩ := box8 HX.out
  clear hB hf
  go_enter Try.func88, Try.ntmps88
  go_upto_region 1 with fail
  go_region_with (first
    | (go_at_call 117; refine (spec_l08Kind _ (HX.out.step (Below.refl w.heap.size w).drew)).mono ?_; rintro e w0 ⟨rfl, rfl⟩)
    | (go_at_call 113; refine (spec_l08Prefix f (kindOf x) _ HF.out (kindOf_in x)).mono ?_; rintro e w1 ⟨rfl, hb1⟩; have hb1' := ((Below.refl w.heap.size w).drew).trans hb1; obtain ⟨d0, d1, d2, d3, d4, d5, d6, d7⟩ := box8 (HX.out.step hb1'))
    | (go_at_call 112; refine (spec_l08Sum _ _ _ _ (prefixS_size _ _) hd).mono ?_; rintro e w2 ⟨rfl, hb2⟩; have hb2' := hb1'.trans (hb2.mono hb1'.size)))
  all_goals
    go_wp2
    go_ret
    exact ⟨ret_str' HR.out.symm, hb2'⟩
def dataV (f c h n s : Int) (d : ByteArray) (x z : Bool) : ByteArray := if idOk f c h n s d.size = true then fieldS f (kindOf x) d z else ⟨#[]⟩
theorem data_cases (f c h n s : Int) (d : ByteArray) (x z : Bool) :
    (inB f 1 3 = false ∧ Hid (idOk f c h n s d.size = false ∧ dataV f c h n s d x z = ⟨#[]⟩)) ∨
    (inB f 1 3 = true ∧ validSector c h n s d.size = false ∧ Hid (idOk f c h n s d.size = false ∧ dataV f c h n s d x z = ⟨#[]⟩)) ∨
    (inB f 1 3 = true ∧ validSector c h n s d.size = true ∧ Hid (idOk f c h n s d.size = true ∧ dataV f c h n s d x z = fieldS f (kindOf x) d z)) := by
  unfold Hid dataV idOk
  cases inB f 1 3 <;> cases validSector c h n s d.size <;> simp
set_option maxHeartbeats 1000000 in
theorem spec_DataField (f c h n s : Int) (d : ByteArray) (x y z : Bool) (w : World) (hd : d.size ≤ 1048576) :
    Calls Try.prog 36 #[.int .i64 f, .agg #[.int .i64 c, .int .i64 h, .int .i64 n, .int .i64 s, .string d, .bool x, .bool y, .bool z]] w fun e w' => e = .returned (.tuple #[.string (dataV f c h n s d x z), .bool (idOk f c h n s d.size)]) ∧ Below w.heap.size w w' := by
  have hB := Hid.in_ (Box.new w [.int .i64 c, .int .i64 h, .int .i64 n, .int .i64 s, .string d, .bool x, .bool y, .bool z] 52)
  have HB0 := Hid.in_ (balloc (Below.refl w.heap.size w) (.cells #[.int .i64 c, .int .i64 h, .int .i64 n, .int .i64 s, .string d, .bool x, .bool y, .bool z] 52))
  obtain ⟨h1, HV⟩ | ⟨h1, h2, HV⟩ | ⟨h1, h2, HV⟩ := data_cases f c h n s d x z
  · go_enter Try.func36, Try.ntmps36
    go_wp2_with (go_at_call 80; refine (bool_is (spec_l07Format _ _) (by assumption)).mono ?_; rintro e w' ⟨rfl, rfl⟩)
    go_ret2
    exact ⟨ret2_sb' HV.out.2.symm HV.out.1.symm, HB0.out⟩
  · go_enter Try.func36, Try.ntmps36
    go_wp2_with (first | (go_at_call 80; refine (bool_is (spec_l07Format _ _) (by assumption)).mono ?_; rintro e w' ⟨rfl, rfl⟩) | (go_at_call 81; refine (spec_l08Sector _ hd hB.out.at0).mono ?_; rw [h2]; rintro e w1 ⟨rfl, q, rfl⟩))
    go_ret2
    exact ⟨ret2_sb' HV.out.2.symm HV.out.1.symm, below_drewN HB0.out _⟩
  · have HW := Hid.in_ (valid_in h2)
    have HF := Hid.in_ h1
    go_enter Try.func36, Try.ntmps36
    go_wp2_with (first | (go_at_call 80; refine (bool_is (spec_l07Format _ _) (by assumption)).mono ?_; rintro e w' ⟨rfl, rfl⟩) | (go_at_call 81; refine (spec_l08Sector _ hd hB.out.at0).mono ?_; rw [h2]; rintro e w1 ⟨rfl, q, rfl⟩) | (go_at_call 88; refine (spec_l08Data f _ HF.out hd (Box.step (below_drewN (Below.refl _ _) q) hB.out)).mono ?_; rintro e w2 ⟨rfl, hb2⟩))
    go_ret2
    exact ⟨ret2_sb' HV.out.2.symm HV.out.1.symm, bstep (below_drewN HB0.out _) hb2⟩
set_option maxHeartbeats 2000000 in
theorem impl_DataField (f c h n s : Int) (d : ByteArray) (x y z : Bool) (w : World) (hd : d.size ≤ 1048576) :
    Calls Try.prog 37 #[.int .i64 f, .agg #[.int .i64 c, .int .i64 h, .int .i64 n, .int .i64 s, .string d, .bool x, .bool y, .bool z]] w fun e w' => e = .returned (.tuple #[.string (dataV f c h n s d x z), .bool (idOk f c h n s d.size)]) ∧ Below w.heap.size w w' := by
  have hB := Hid.in_ (Box.new w [.int .i64 c, .int .i64 h, .int .i64 n, .int .i64 s, .string d, .bool x, .bool y, .bool z] 52)
  have HB0 := Hid.in_ (balloc (Below.refl w.heap.size w) (.cells #[.int .i64 c, .int .i64 h, .int .i64 n, .int .i64 s, .string d, .bool x, .bool y, .bool z] 52))
  obtain ⟨h1, HV⟩ | ⟨h1, h2, HV⟩ | ⟨h1, h2, HV⟩ := data_cases f c h n s d x z
  · go_enter Try.func37, Try.ntmps37
    go_wp2_with (go_at_call 83; refine (bool_is (impl_isFormat _ _) (by assumption)).mono ?_; rintro e w' ⟨rfl, rfl⟩)
    go_ret2
    exact ⟨ret2_sb' HV.out.2.symm HV.out.1.symm, HB0.out⟩
  · go_enter Try.func37, Try.ntmps37
    go_wp2_with (first | (go_at_call 83; refine (bool_is (impl_isFormat _ _) (by assumption)).mono ?_; rintro e w' ⟨rfl, rfl⟩) | (go_at_call 84; refine (impl_ValidSectorSpec _ _ _ _ _ _ _ _ _ hd).mono ?_; rw [h2]; rintro e w1 ⟨rfl, hb1⟩))
    go_ret2
    exact ⟨ret2_sb' HV.out.2.symm HV.out.1.symm, bstep HB0.out hb1⟩
  · have HW := Hid.in_ (valid_in h2)
    have HF := Hid.in_ h1
    go_enter Try.func37, Try.ntmps37
    go_wp2_with (first | (go_at_call 83; refine (bool_is (impl_isFormat _ _) (by assumption)).mono ?_; rintro e w' ⟨rfl, rfl⟩) | (go_at_call 84; refine (impl_ValidSectorSpec _ _ _ _ _ _ _ _ _ hd).mono ?_; rw [h2]; rintro e w1 ⟨rfl, hb1⟩))
    have HB1 := Hid.in_ (bstep HB0.out hb1)
    have HX1 := Hid.in_ (Box.step hb1 hB.out)
    obtain ⟨c0, c1, c2, c3, c4, c5, c6, c7⟩ := box8 HX1.out
    go_upto_region 3 with fail
    go_region_with (first
      | (go_at_call 89; refine (impl_dataKind c h n s d x y z _).mono ?_; rintro e w2 ⟨rfl, hb2⟩; have hb2' := ((Below.refl w1.heap.size w1).drew).trans hb2; obtain ⟨d0, d1, d2, d3, d4, d5, d6, d7⟩ := box8 (HX1.out.step hb2'))
      | (go_at_call 85; refine (impl_checkedField f (kindOf x) d _ _ HF.out (kindOf_in x) hd).mono ?_; rintro e w3 ⟨rfl, hb3⟩; have hb3' := hb2'.trans (hb3.mono hb2'.size)))
    all_goals
      go_wp2
      go_ret2
      exact ⟨ret2_sb' HV.out.2.symm HV.out.1.symm, bstep HB1.out hb3'⟩
end Go.Proofs.Ytomfagckcfmfjaa
