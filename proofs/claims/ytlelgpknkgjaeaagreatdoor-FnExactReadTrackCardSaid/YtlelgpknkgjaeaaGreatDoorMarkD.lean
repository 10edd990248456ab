/- 'MarkCells' of the program and of the reference. -/
import Derived.Test.YtlelgpknkgjaeaaGreatDoorMarkC
namespace Go.Proofs.YtlelgpknkgjaeaaGreatDoor
open Go.ChangeShapes Go.WideShapes Go.ChangeAt Go.RowKit
set_option linter.unusedSimpArgs false
set_option linter.unusedVariables false
set_option maxRecDepth 20000

def mfmM : ByteArray := ⟨#[48, 49, 48, 48, 48, 49, 48, 48, 49, 48, 48, 48, 49, 48, 48, 49]⟩
def mfm3 : ByteArray := ⟨(Lib.repeatL mfmM.data.toList 3).toArray⟩
def tenB : ByteArray := ⟨#[49, 49, 49, 49, 49, 49, 49, 49, 49, 49]⟩
theorem mfm3_eq : (mfmM ++ mfmM) ++ mfmM = mfm3 := by
  apply congrArg ByteArray.mk
  decide
theorem ten_eq : (⟨(Lib.repeatL [49] 10).toArray⟩ : ByteArray) = tenB := rfl
def markCS (f : Int) (b : Nat) : ByteArray := if f = 1 then fmMarkS b else if f = 2 then mfm3 ++ encS true true (oneB b) else tenB ++ encode (oneB b)
theorem markByteIn {f k : Int} (hf : inB f 1 3 = true) (hk : inB k 1 3 = true) : ∃ b : Nat, markByte f k = b ∧ b ≤ 255 := by
  obtain rfl | rfl | rfl := three hf <;> obtain rfl | rfl | rfl := three hk
  · exact ⟨254, rfl, by decide⟩
  · exact ⟨251, rfl, by decide⟩
  · exact ⟨248, rfl, by decide⟩
  · exact ⟨254, rfl, by decide⟩
  · exact ⟨251, rfl, by decide⟩
  · exact ⟨248, rfl, by decide⟩
  · exact ⟨8, rfl, by decide⟩
  · exact ⟨7, rfl, by decide⟩
  · exact ⟨6, rfl, by decide⟩
theorem encS_one_size (b : Nat) (x y : Bool) : (encS x y (oneB b)).size = 16 := by
  rw [← encS_one b x y]
  simp
def mcOk (f k : Int) : Bool := inB f 1 3 && inB k 1 3
def mcV (f k : Int) : ByteArray := if mcOk f k = true then markCS f (markByte f k).toNat else ⟨#[]⟩
theorem mc_cases (f k : Int) : (inB f 1 3 = false ∧ Hid (mcOk f k = false ∧ mcV f k = ⟨#[]⟩)) ∨ (inB f 1 3 = true ∧ inB k 1 3 = false ∧ Hid (mcOk f k = false ∧ mcV f k = ⟨#[]⟩)) ∨
    (inB f 1 3 = true ∧ inB k 1 3 = true ∧ ∃ b : Nat, markByte f k = b ∧ b ≤ 255 ∧ Hid (mcOk f k = true ∧ mcV f k = markCS f b)) := by
  unfold Hid
  cases h1 : inB f 1 3
  · have : mcOk f k = false := by unfold mcOk; rw [h1]; rfl
    exact .inl ⟨rfl, this, if_neg (by rw [this]; decide)⟩
  cases h2 : inB k 1 3
  · have : mcOk f k = false := by unfold mcOk; rw [h1, h2]; rfl
    exact .inr (.inl ⟨rfl, rfl, this, if_neg (by rw [this]; decide)⟩)
  · have : mcOk f k = true := by unfold mcOk; rw [h1, h2]; rfl
    obtain ⟨b, hb, h255⟩ := markByteIn h1 h2
    refine .inr (.inr ⟨rfl, rfl, b, hb, h255, this, ?_⟩)
    unfold mcV
    rw [if_pos this, hb]
    rfl
theorem ret2_sbm {a b : ByteArray} {x y : Bool} (h : a = b) (k : x = y) : Ending.returned (.tuple #[.string a, .bool x]) = .returned (.tuple #[.string b, .bool y]) := by rw [h, k]
set_option maxHeartbeats 2000000 in
theorem impl_markCells (f k : Int) (b : Nat) (w : World) (hf : inB f 1 3 = true) (hb : markByte f k = b) (h : b ≤ 255) (hT : Tab w) :
    Calls Tryz.prog 58 #[.int .i64 f, .int .i64 k] w fun e w' => e = .returned (.string (markCS f b)) ∧ Below w.heap.size w w' := by
  have hc := conv_byte w h
  have HMB := Hid.in_ (impl_MarkByte f k w)
  rw [hb] at HMB
  have HB0 := Hid.in_ (balloc (Below.refl w.heap.size w) (.cells #[.int .u8 (b : Int)] 5))
  have HF := Hid.in_ (fun w => show Calls Tryz.prog 90 #[.string (oneB b), .string ⟨#[49, 49, 48, 48, 48, 49, 49, 49]⟩] w fun e w' => e = .returned (.string (fmMarkS b)) ∧ Below w.heap.size w w' from impl_fmCells_at markClk (oneB b) w rfl (by rw [oneB_size]; decide))
  have HM := Hid.in_ (fun w => impl_mfmCells (oneB b) true w (by rw [oneB_size]; decide))
  have HG := Hid.in_ (fun w h => impl_gcrCells (oneB b) w (by rw [oneB_size]; decide) h)
  have HR3 := Hid.in_ (fun w => show Calls Tryz.prog 91 #[.string ⟨#[48, 49, 48, 48, 48, 49, 48, 48, 49, 48, 48, 48, 49, 48, 48, 49]⟩, .int .i64 3] w fun e w' => e = .returned (.string mfm3) ∧ Below w.heap.size w w' from
    Any.strings_Repeat_main Tryz.lays105 Tryz.Builder_Extra_105 mfmM 3 w (by decide) (by decide) (by decide) (by decide))
  have HR10 := Hid.in_ (fun w => show Calls Tryz.prog 91 #[.string ⟨#[49]⟩, .int .i64 10] w fun e w' => e = .returned (.string tenB) ∧ Below w.heap.size w w' from
    Any.strings_Repeat_main Tryz.lays105 Tryz.Builder_Extra_105 ⟨#[49]⟩ 10 w (by decide) (by decide) (by decide) (by decide))
  have hz1 := encS_one_size b true true
  have hz2 := encode_size (oneB b)
  rw [oneB_size] at hz2
  have HS1 := Hid.in_ (show markCS 1 b = fmMarkS b from rfl)
  have HS2 := Hid.in_ (show markCS 2 b = mfm3 ++ encS true true (oneB b) from rfl)
  have HS3 := Hid.in_ (show markCS 3 b = tenB ++ encode (oneB b) from rfl)
  have hm3 : mfm3.size = 48 := rfl
  have ht : tenB.size = 10 := rfl
  generalize encS true true (oneB b) = E at *
  generalize encode (oneB b) = D at *
  generalize oneB b = S at *
  generalize fmMarkS b = Z at *
  generalize mfm3 = M3 at *
  generalize tenB = TT at *
  have hno1 : ¬ (M3.size + E.size > 9223372036854775807) := by omega
  have hno2 : ¬ (TT.size + D.size > 9223372036854775807) := by omega
  have HT := Hid.in_ hT
  clear hT hb
  obtain rfl | rfl | rfl := three hf
  · go_enter Tryz.func58, Tryz.ntmps58
    go_wp2_with (first | (go_at_call 89; refine HMB.out.mono ?_; rintro e w' ⟨rfl, rfl⟩) | (go_at_call 90; refine (HF.out _).mono ?_; rintro e w1 ⟨rfl, hb1⟩))
    go_ret
    exact ⟨ret_strX HS1.out.symm, bstep HB0.out hb1⟩
  · go_enter Tryz.func58, Tryz.ntmps58
    go_wp2_with (first | (go_at_call 89; refine HMB.out.mono ?_; rintro e w' ⟨rfl, rfl⟩) | (go_at_call 91; refine (HR3.out _).mono ?_; rintro e w1 ⟨rfl, hb1⟩; have hB1 := bstep HB0.out hb1) | (go_at_call 92; refine (HM.out _).mono ?_; rintro e w2 ⟨rfl, hb2⟩; have hB2 := bstep hB1 hb2))
    go_ret
    exact ⟨ret_strX HS2.out.symm, hB2⟩
  · go_enter Tryz.func58, Tryz.ntmps58
    go_wp2_with (first | (go_at_call 89; refine HMB.out.mono ?_; rintro e w' ⟨rfl, rfl⟩) | (go_at_call 91; refine (HR10.out _).mono ?_; rintro e w1 ⟨rfl, hb1⟩; have hB1 := bstep HB0.out hb1) | (go_at_call 93; refine (HG.out _ (Tab.step hB1 HT.out)).mono ?_; rintro e w2 ⟨rfl, hb2⟩; have hB2 := bstep hB1 hb2))
    go_ret
    exact ⟨ret_strX HS3.out.symm, hB2⟩
theorem impl_MarkCells (f k : Int) (w : World) (hT : Tab w) :
    Calls Tryz.prog 30 #[.int .i64 f, .int .i64 k] w fun e w' => e = .returned (.tuple #[.string (mcV f k), .bool (mcOk f k)]) ∧ Below w.heap.size w w' := by
  obtain ⟨h1, HV⟩ | ⟨h1, h2, HV⟩ | ⟨h1, h2, b, hb, h255, HV⟩ := mc_cases f k
  case inr.inr =>
    have HM := Hid.in_ (impl_markCells f k b w h1 hb h255 hT)
    clear hT hb
    go_enter Tryz.func30, Tryz.ntmps30
    go_wp2_with (first | (go_at_call 37; refine (bool_is (impl_isFormat _ _) (by assumption)).mono ?_; rintro e w' ⟨rfl, rfl⟩) | (go_at_call 57; refine (bool_is (impl_isMarkKind _ _) (by assumption)).mono ?_; rintro e w' ⟨rfl, rfl⟩) | (go_at_call 58; refine HM.out.mono ?_; rintro e w1 ⟨rfl, hb1⟩))
    go_ret2
    exact ⟨ret2_sbm HV.out.2.symm HV.out.1.symm, hb1⟩
  all_goals
    clear hT
    go_enter Tryz.func30, Tryz.ntmps30
    go_wp2_with (first | (go_at_call 37; refine (bool_is (impl_isFormat _ _) (by assumption)).mono ?_; rintro e w' ⟨rfl, rfl⟩) | (go_at_call 57; refine (bool_is (impl_isMarkKind _ _) (by assumption)).mono ?_; rintro e w' ⟨rfl, rfl⟩))
    go_ret2
    exact ⟨ret2_sbm HV.out.2.symm HV.out.1.symm, Below.refl _ _⟩
theorem spec_MfmMark (w : World) : Calls Tryz.prog 98 #[] w fun e w' => e = .returned (.string mfmM) ∧ w = w' := by
  go_enter Tryz.func98, Tryz.ntmps98
  go_wp2
  go_ret
  exact ⟨rfl, rfl⟩
set_option maxHeartbeats 2000000 in
theorem spec_l07Mark (f k : Int) (b : Nat) (w : World) (hf : inB f 1 3 = true) (hk : inB k 1 3 = true) (hb : markByte f k = b) (h : b ≤ 255) :
    Calls Tryz.prog 62 #[.int .i64 f, .int .i64 k] w fun e w' => e = .returned (.string (markCS f b)) ∧ Below w.heap.size w w' := by
  have HMB := Hid.in_ (spec_l07Byte f k w hf hk)
  rw [hb] at HMB
  have hc := fun w => conv_byte (b := b) w h
  have HF := Hid.in_ (fun w => spec_FmMark b w h)
  have HM := Hid.in_ (show ∀ w, Calls Tryz.prog 87 #[.string (oneB b), .bool true] w fun e w' => e = .returned (.string (encS true true (oneB b))) ∧ Below w.heap.size w w' from fun w => by
    have hv : encV05 true true (oneB b) = encS true true (oneB b) := if_neg (by rw [oneB_size]; decide)
    have hl := spec_l05Encode (oneB b) true true w (by rw [oneB_size]; decide)
    rw [hv] at hl
    have HL := Hid.in_ hl
    clear hl
    go_enter Tryz.func87, Tryz.ntmps87
    go_wp2_with (go_at_call 119; refine HL.out.mono ?_; rintro e w' ⟨rfl, hb⟩)
    go_ret
    exact ⟨rfl, hb⟩)
  have HG := Hid.in_ (show ∀ w, Calls Tryz.prog 99 #[.string (oneB b)] w fun e w' => e = .returned (.tuple #[.string (encode (oneB b)), .bool true]) ∧ Below w.heap.size w w' from fun w => by
    have hn : encB (oneB b) = false := by unfold encB; rw [oneB_size]; rfl
    have hv : encV (oneB b) = encode (oneB b) := if_neg (by rw [hn]; decide)
    have hl := spec_EncodeGcr (oneB b) w (by rw [oneB_size]; decide)
    rw [hv, hn] at hl
    exact hl)
  have HM3 := Hid.in_ mfm3_eq
  have hz1 := encS_one_size b true true
  have hz2 := encode_size (oneB b)
  rw [oneB_size] at hz2
  have HS1 := Hid.in_ (show markCS 1 b = fmMarkS b from rfl)
  have HS2 := Hid.in_ (show markCS 2 b = mfm3 ++ encS true true (oneB b) from rfl)
  have HS3 := Hid.in_ (show markCS 3 b = tenB ++ encode (oneB b) from rfl)
  have hm3 : mfm3.size = 48 := rfl
  have hm1 : mfmM.size = 16 := rfl
  have hm2 : (mfmM ++ mfmM).size = 32 := rfl
  have HT10 := Hid.in_ (show tenB = ⟨#[49, 49, 49, 49, 49, 49, 49, 49, 49, 49]⟩ from rfl)
  have ht : (⟨#[49, 49, 49, 49, 49, 49, 49, 49, 49, 49]⟩ : ByteArray).size = 10 := rfl
  have HMM := Hid.in_ (fun w => spec_MfmMark w)
  generalize encS true true (oneB b) = E at *
  generalize encode (oneB b) = D at *
  generalize oneB b = S at *
  generalize fmMarkS b = Z at *
  generalize mfm3 = M3 at *
  generalize mfmM = M at *
  have hno1 : ¬ (M.size + M.size > 9223372036854775807) := by omega
  have hno2 : ¬ ((M ++ M).size + M.size > 9223372036854775807) := by omega
  have hno3 : ¬ (M3.size + E.size > 9223372036854775807) := by omega
  have hno4 : ¬ ((⟨#[49, 49, 49, 49, 49, 49, 49, 49, 49, 49]⟩ : ByteArray).size + D.size > 9223372036854775807) := by omega
  clear hb
  obtain rfl | rfl | rfl := three hf
  · go_enter Tryz.func62, Tryz.ntmps62
    go_wp2_with fail
    refine HMB.out.mono ?_
    rintro e w1 ⟨rfl, hb1⟩
    have hc1 := hc w1
    have HB1 := Hid.in_ (balloc hb1 (.cells #[.int .u8 (b : Int)] 5))
    clear hb1
    go_wp2_with (go_at_call 97; refine (HF.out _).mono ?_; rintro e w2 ⟨rfl, hb2⟩)
    go_ret
    exact ⟨ret_strX HS1.out.symm, bstep HB1.out hb2⟩
  · go_enter Tryz.func62, Tryz.ntmps62
    go_wp2_with fail
    refine HMB.out.mono ?_
    rintro e w1 ⟨rfl, hb1⟩
    have hc1 := hc w1
    have HB1 := Hid.in_ (balloc hb1 (.cells #[.int .u8 (b : Int)] 5))
    clear hb1
    go_wp2_with (first | (go_at_call 98; refine (HMM.out _).mono ?_; rintro e w' ⟨rfl, rfl⟩) | (go_at_call 87; refine (HM.out _).mono ?_; rintro e w2 ⟨rfl, hb2⟩; (try rw [HM3.out])))
    go_ret
    exact ⟨ret_strX (by rw [HS2.out, ← HM3.out]), bstep HB1.out hb2⟩
  · go_enter Tryz.func62, Tryz.ntmps62
    go_wp2_with fail
    refine HMB.out.mono ?_
    rintro e w1 ⟨rfl, hb1⟩
    have hc1 := hc w1
    have HB1 := Hid.in_ (balloc hb1 (.cells #[.int .u8 (b : Int)] 5))
    clear hb1
    go_wp2_with (go_at_call 99; refine (HG.out _).mono ?_; rintro e w2 ⟨rfl, hb2⟩)
    go_ret
    exact ⟨ret_strX (by rw [HS3.out, HT10.out]), bstep HB1.out hb2⟩
end Go.Proofs.YtlelgpknkgjaeaaGreatDoor
