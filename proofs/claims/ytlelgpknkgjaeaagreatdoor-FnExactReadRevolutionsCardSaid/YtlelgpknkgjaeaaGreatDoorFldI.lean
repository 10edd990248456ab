/- 'fieldAt' of the program. -/
import Derived.Test.YtlelgpknkgjaeaaGreatDoorFld
import Derived.Deep.RegionHeld3
import Derived.BigQuiet
namespace Go.Proofs.YtlelgpknkgjaeaaGreatDoor
open Go.ChangeShapes Go.WideShapes Go.ChangeAt Go.RowKit
set_option linter.unusedSimpArgs false
set_option linter.unusedVariables false
set_option maxRecDepth 4000

set_option maxHeartbeats 4000000 in
theorem impl_fieldAt_out (f k a : Int) (s : ByteArray) (b n : Int) (w : World) (hn : inB n 0 32 = false) :
    Calls Tryz.prog 72 #[.string s, .int .i64 f, .agg #[.int .i64 k, .int .i64 a, .int .i64 b], .int .i64 n] w fun e w' => e = .returned (.tuple #[.string ⟨#[]⟩, .bool false, .bool false]) ∧ Below w.heap.size w w' := by
  have HB0 := Hid.in_ (balloc (Below.refl w.heap.size w) (.cells #[.int .i64 k, .int .i64 a, .int .i64 b] 51))
  have HBC := Hid.in_ (fun w => impl_byteCells f w)
  have HNI := Hid.in_ (fun w => impl_within n 0 32 w)
  rw [hn] at HNI
  go_enter Tryz.func72, Tryz.ntmps72
  go_wp2_with (first | (go_at_call 108; refine (HBC.out _).mono ?_; rintro e w1 ⟨rfl, rfl⟩) | (go_at_call 56; refine (HNI.out _).mono ?_; rintro e w1 ⟨rfl, rfl⟩))
  go_ret3
  exact ⟨rfl, HB0.out⟩
set_option maxHeartbeats 4000000 in
theorem impl_fieldAt_no (f k a : Int) (s : ByteArray) (b : Int) (n : Nat) (w : World) (hn : n ≤ 32) (hs : s.size ≤ 1048576) (hl : ¬ (n + 2) * bcN f ≤ s.size) :
    Calls Tryz.prog 72 #[.string s, .int .i64 f, .agg #[.int .i64 k, .int .i64 a, .int .i64 b], .int .i64 n] w fun e w' => e = .returned (.tuple #[.string ⟨#[]⟩, .bool false, .bool false]) ∧ Below w.heap.size w w' := by
  have HB0 := Hid.in_ (balloc (Below.refl w.heap.size w) (.cells #[.int .i64 k, .int .i64 a, .int .i64 b] 51))
  have HBC := Hid.in_ (fun w => impl_byteCells f w)
  have HNI := Hid.in_ (fun w => impl_within n 0 32 w)
  rw [inB_mk (by omega : (0 : Int) ≤ n) (by omega : (n : Int) ≤ 32)] at HNI
  have hbc : byteCells f = (bcN f : Int) := byteCells_nat f
  have hb16 := bc_le f
  rw [hbc] at HBC
  clear hbc
  obtain ⟨L, hL⟩ : ∃ L, (n + 2) * bcN f = L := ⟨_, rfl⟩
  have hL2 : ((n : Int) + 2) * (bcN f : Int) = (L : Int) := by rw [← hL]; push_cast; rfl
  have hL3 : L ≤ 544 := by rw [← hL]; exact Nat.mul_le_mul (by omega : n + 2 ≤ 34) hb16
  rw [hL] at hl
  clear hL
  generalize bcN f = z at *
  go_enter Tryz.func72, Tryz.ntmps72
  go_wp2_with (first | (go_at_call 108; refine (HBC.out _).mono ?_; rintro e w1 ⟨rfl, rfl⟩) | (go_at_call 56; refine (HNI.out _).mono ?_; rintro e w1 ⟨rfl, rfl⟩))
  go_ret3
  exact ⟨rfl, HB0.out⟩
set_option maxHeartbeats 8000000 in
theorem impl_fieldAt (f k a : Int) (s : ByteArray) (b n : Nat) (w : World) (hT : Tab w) (hf : inB f 1 3 = true) (hk : inB k 1 3 = true) (hv : validCells s = true) (hb : b < s.size) (hn : n ≤ 32) (hl : (n + 2) * bcN f ≤ s.size) :
    Calls Tryz.prog 72 #[.string s, .int .i64 f, .agg #[.int .i64 k, .int .i64 a, .int .i64 b], .int .i64 n] w fun e w' => e = .returned (.tuple #[.string (fldD f s b n), .bool (fldG f k s b n), .bool true]) ∧ Below w.heap.size w w' := by
  obtain ⟨h0, h8, hbits⟩ := valid_size hv
  have hB := Hid.in_ (Box.new w [.int .i64 k, .int .i64 a, .int .i64 b] 51)
  have HB0 := Hid.in_ (balloc (Below.refl w.heap.size w) (.cells #[.int .i64 k, .int .i64 a, .int .i64 b] 51))
  have HT := Hid.in_ (Tab.step HB0.out hT)
  have HBC := Hid.in_ (fun w => impl_byteCells f w)
  have HNI := Hid.in_ (fun w => impl_within n 0 32 w)
  rw [inB_mk (by omega : (0 : Int) ≤ n) (by omega : (n : Int) ≤ 32)] at HNI
  have hbc : byteCells f = (bcN f : Int) := byteCells_nat f
  have hb16 := bc_le f
  rw [hbc] at HBC
  clear hbc hT
  have HSL := Hid.in_ (fun w => impl_slice s b ((n + 2) * bcN f) w (by omega) hb hl)
  rw [show sliceS s b ((n + 2) * bcN f) = fldCut f s b n from rfl] at HSL
  have HRW := Hid.in_ (fun w hT => impl_rawBytes f (fldCut f s b n) w hT (cut_cell hv hl) cut_16 cut_10)
  rw [show rawV f (fldCut f s b n) = fldS f s b n from rfl] at HRW
  have hSz := fldS_size f s b n
  have hDs : (fldD f s b n).size = n := by unfold fldD; rw [ByteArray.size_extract, hSz]; omega
  have HCF := Hid.in_ (fun w => impl_checkedField f k (fldD f s b n) false w hf hk (by omega))
  obtain ⟨X, hX⟩ : ∃ X, rawB f (fldCut f s b n) = X := ⟨_, rfl⟩
  have HG := Hid.in_ (fldG_i (k := k) hX)
  rw [hX] at HRW
  have HDX := Hid.in_ (show (fldS f s b n).extract 0 n = fldD f s b n from rfl)
  obtain ⟨L, hL⟩ : ∃ L, (n + 2) * bcN f = L := ⟨_, rfl⟩
  have hL2 : ((n : Int) + 2) * (bcN f : Int) = (L : Int) := by rw [← hL]; push_cast; rfl
  have hL3 : L ≤ 544 := by rw [← hL]; exact Nat.mul_le_mul (by omega : n + 2 ≤ 34) hb16
  rw [hL] at hl HSL
  clear hL hf hk hv hbits hX
  generalize bcN f = z at *
  generalize fldG f k s b n = G at *
  generalize fldD f s b n = D at *
  generalize fldS f s b n = S at *
  generalize fldCut f s b n = C at *
  generalize fieldS f k D false = Q at *
  have hx1 := HDX.out
  have hI0 : (0 : Int) ≤ (n : Int) := by omega
  have hI1 : (n : Int) ≤ (S.size : Int) := by omega
  have hI2 : (n : Int) ≤ (n : Int) + 2 := by omega
  have hI3 : n ≤ S.size := by omega
  obtain ⟨c0, c1, c2⟩ := box3 hB.out
  cases X
  · go_enter Tryz.func72, Tryz.ntmps72
    go_upto_region 5 with (first | (go_at_call 108; refine (HBC.out _).mono ?_; rintro e w1 ⟨rfl, rfl⟩) | (go_at_call 56; refine (HNI.out _).mono ?_; rintro e w1 ⟨rfl, rfl⟩) | (go_at_call 102; refine (HSL.out _).mono ?_; rintro e w2 ⟨rfl, hb2⟩) | (go_at_call 109; refine (HRW.out _ (Tab.step hb2 HT.out)).mono ?_; rintro e w3 ⟨rfl, hb3⟩))
    have HB3 := Hid.in_ (bstep HB0.out (bstep hb2 hb3))
    have HX3 := Hid.in_ (Box.step (bstep hb2 hb3) hB.out)
    obtain ⟨d0, d1, d2⟩ := box3 HX3.out
    clear hb2 hb3 c0 c1 c2
    go_quiet (fail)
    go_wp2
    go_ret3
    exact ⟨ret3_f rfl (by rw [HG.out]; first | rfl | simp), below_drewN HB3.out _⟩
  · go_enter Tryz.func72, Tryz.ntmps72
    go_upto_region 5 with (first | (go_at_call 108; refine (HBC.out _).mono ?_; rintro e w1 ⟨rfl, rfl⟩) | (go_at_call 56; refine (HNI.out _).mono ?_; rintro e w1 ⟨rfl, rfl⟩) | (go_at_call 102; refine (HSL.out _).mono ?_; rintro e w2 ⟨rfl, hb2⟩) | (go_at_call 109; refine (HRW.out _ (Tab.step hb2 HT.out)).mono ?_; rintro e w3 ⟨rfl, hb3⟩))
    have HB3 := Hid.in_ (bstep HB0.out (bstep hb2 hb3))
    have HX3 := Hid.in_ (Box.step (bstep hb2 hb3) hB.out)
    obtain ⟨d0, d1, d2⟩ := box3 HX3.out
    clear hb2 hb3 c0 c1 c2
    go_region_held3 (fun w' => w'.cell? ⟨w.heap.size, 0, none⟩ = some (.int .i64 k) ∧ Below w.heap.size w w') (first | exact ⟨d0, HB3.out.drew⟩ | exact ⟨d6, e6⟩ | exact ⟨d0, HB3.out⟩ | assumption)
      (first | (go_at_call 110; refine (HCF.out _).mono ?_; rintro e w6 ⟨rfl, hb6⟩; have d6 : w6.cell? ⟨w.heap.size, 0, none⟩ = some (.int .i64 k) := cstep hb6 (by assumption); have e6 : Below w.heap.size w w6 := bstep HB3.out.drew hb6))
    all_goals
      go_wp2
      go_ret3
      exact ⟨ret3_f rfl (by rw [HG.out, Bool.true_and]), e6⟩
end Go.Proofs.YtlelgpknkgjaeaaGreatDoor
