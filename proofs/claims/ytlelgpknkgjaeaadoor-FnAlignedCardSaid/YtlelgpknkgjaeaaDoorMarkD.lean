/- 'MarkCells' of the program and of the reference. -/
import Derived.Test.YtlelgpknkgjaeaaDoorMarkC
namespace Go.Proofs.YtlelgpknkgjaeaaDoor
open Go.ChangeShapes Go.WideShapes Go.ChangeAt Go.RowKit
set_option linter.unusedSimpArgs false
set_option linter.unusedVariables false
set_option maxRecDepth 20000

def mfmM : ByteArray := ⟨#[48, 49, 48, 48, 48, 49, 48, 48, 49, 48, 48, 48, 49, 48, 48, 49]⟩
def mfm3 : ByteArray := ⟨(Lib.repeatL mfmM.data.toList 3).toArray⟩
def tenB : ByteArray := ⟨#[49, 49, 49, 49, 49, 49, 49, 49, 49, 49]⟩
theorem mfm3_eq : (mfmM ++ mfmM) ++ mfmM = mfm3 := by
  apply congrArg ByteArray.mk
  decide
theorem ten_eq : (⟨(Lib.repeatL [49] 10).toArray⟩ : ByteArray) = tenB := rfl
def markS (f : Int) (b : Nat) : ByteArray := if f = 1 then fmMarkS b else if f = 2 then mfm3 ++ encS true true (oneB b) else tenB ++ encode (oneB b)
theorem markByte_in {f k : Int} (hf : inB f 1 3 = true) (hk : inB k 1 3 = true) : ∃ b : Nat, markByte f k = b ∧ b ≤ 255 := by
  obtain rfl | rfl | rfl := three hf <;> obtain rfl | rfl | rfl := three hk
  · exact ⟨254, rfl, by decide⟩
  · exact ⟨251, rfl, by decide⟩
  · exact ⟨248, rfl, by decide⟩
  · exact ⟨254, rfl, by decide⟩
  · exact ⟨251, rfl, by decide⟩
  · exact ⟨248, rfl, by decide⟩
  · exact ⟨8, rfl, by decide⟩
  · exact ⟨7, rfl, by decide⟩
  · exact ⟨6, rfl, by decide⟩
theorem encS_one_size (b : Nat) (x y : Bool) : (encS x y (oneB b)).size = 16 := by
  rw [← encS_one b x y]
  simp
def mcOk (f k : Int) : Bool := inB f 1 3 && inB k 1 3
def mcV (f k : Int) : ByteArray := if mcOk f k = true then markS f (markByte f k).toNat else ⟨#[]⟩
theorem mc_cases (f k : Int) : (inB f 1 3 = false ∧ Hid (mcOk f k = false ∧ mcV f k = ⟨#[]⟩)) ∨ (inB f 1 3 = true ∧ inB k 1 3 = false ∧ Hid (mcOk f k = false ∧ mcV f k = ⟨#[]⟩)) ∨
    (inB f 1 3 = true ∧ inB k 1 3 = true ∧ ∃ b : Nat, markByte f k = b ∧ b ≤ 255 ∧ Hid (mcOk f k = true ∧ mcV f k = markS f b)) := by
  unfold Hid
  cases h1 : inB f 1 3
  · have : mcOk f k = false := by unfold mcOk; rw [h1]; rfl
    exact .inl ⟨rfl, this, if_neg (by rw [this]; decide)⟩
  cases h2 : inB k 1 3
  · have : mcOk f k = false := by unfold mcOk; rw [h1, h2]; rfl
    exact .inr (.inl ⟨rfl, rfl, this, if_neg (by rw [this]; decide)⟩)
  · have : mcOk f k = true := by unfold mcOk; rw [h1, h2]; rfl
    obtain ⟨b, hb, h255⟩ := markByte_in h1 h2
    refine .inr (.inr ⟨rfl, rfl, b, hb, h255, this, ?_⟩)
    unfold mcV
    rw [if_pos this, hb]
    rfl
theorem ret2_sbm {a b : ByteArray} {x y : Bool} (h : a = b) (k : x = y) : Ending.returned (.tuple #[.string a, .bool x]) = .returned (.tuple #[.string b, .bool y]) := by rw [h, k]
theorem spec_MfmMark (w : World) : Calls Tryd.prog 36 #[] w fun e w' => e = .returned (.string mfmM) ∧ w = w' := by
  go_enter Tryd.func36, Tryd.ntmps36
  go_wp2
  go_ret
  exact ⟨rfl, rfl⟩
set_option maxHeartbeats 2000000 in
theorem spec_l07Mark (f k : Int) (b : Nat) (w : World) (hf : inB f 1 3 = true) (hk : inB k 1 3 = true) (hb : markByte f k = b) (h : b ≤ 255) :
    Calls Tryd.prog 27 #[.int .i64 f, .int .i64 k] w fun e w' => e = .returned (.string (markS f b)) ∧ Below w.heap.size w w' := by
  have HMB := Hid.in_ (spec_l07Byte f k w hf hk)
  rw [hb] at HMB
  have hc := fun w => conv_byte (b := b) w h
  have HF := Hid.in_ (fun w => spec_FmMark b w h)
  have HM := Hid.in_ (show ∀ w, Calls Tryd.prog 28 #[.string (oneB b), .bool true] w fun e w' => e = .returned (.string (encS true true (oneB b))) ∧ Below w.heap.size w w' from fun w => by
    have hv : encV05 true true (oneB b) = encS true true (oneB b) := if_neg (by rw [oneB_size]; decide)
    have hl := spec_l05Encode (oneB b) true true w (by rw [oneB_size]; decide)
    rw [hv] at hl
    have HL := Hid.in_ hl
    clear hl
    go_enter Tryd.func28, Tryd.ntmps28
    go_wp2_with (go_at_call 38; refine HL.out.mono ?_; rintro e w' ⟨rfl, hb⟩)
    go_ret
    exact ⟨rfl, hb⟩)
  have HG := Hid.in_ (show ∀ w, Calls Tryd.prog 37 #[.string (oneB b)] w fun e w' => e = .returned (.tuple #[.string (encode (oneB b)), .bool true]) ∧ Below w.heap.size w w' from fun w => by
    have hn : encB (oneB b) = false := by unfold encB; rw [oneB_size]; rfl
    have hv : encV (oneB b) = encode (oneB b) := if_neg (by rw [hn]; decide)
    have hl := spec_EncodeGcr (oneB b) w (by rw [oneB_size]; decide)
    rw [hv, hn] at hl
    exact hl)
  have HM3 := Hid.in_ mfm3_eq
  have hz1 := encS_one_size b true true
  have hz2 := encode_size (oneB b)
  rw [oneB_size] at hz2
  have HS1 := Hid.in_ (show markS 1 b = fmMarkS b from rfl)
  have HS2 := Hid.in_ (show markS 2 b = mfm3 ++ encS true true (oneB b) from rfl)
  have HS3 := Hid.in_ (show markS 3 b = tenB ++ encode (oneB b) from rfl)
  have hm3 : mfm3.size = 48 := rfl
  have hm1 : mfmM.size = 16 := rfl
  have hm2 : (mfmM ++ mfmM).size = 32 := rfl
  have HT10 := Hid.in_ (show tenB = ⟨#[49, 49, 49, 49, 49, 49, 49, 49, 49, 49]⟩ from rfl)
  have ht : (⟨#[49, 49, 49, 49, 49, 49, 49, 49, 49, 49]⟩ : ByteArray).size = 10 := rfl
  have HMM := Hid.in_ (fun w => spec_MfmMark w)
  generalize encS true true (oneB b) = E at *
  generalize encode (oneB b) = D at *
  generalize oneB b = S at *
  generalize fmMarkS b = Z at *
  generalize mfm3 = M3 at *
  generalize mfmM = M at *
  have hno1 : ¬ (M.size + M.size > 9223372036854775807) := by omega
  have hno2 : ¬ ((M ++ M).size + M.size > 9223372036854775807) := by omega
  have hno3 : ¬ (M3.size + E.size > 9223372036854775807) := by omega
  have hno4 : ¬ ((⟨#[49, 49, 49, 49, 49, 49, 49, 49, 49, 49]⟩ : ByteArray).size + D.size > 9223372036854775807) := by omega
  clear hb
  obtain rfl | rfl | rfl := three hf
  · go_enter Tryd.func27, Tryd.ntmps27
    go_wp2_with fail
    refine HMB.out.mono ?_
    rintro e w1 ⟨rfl, hb1⟩
    have hc1 := hc w1
    have HB1 := Hid.in_ (balloc hb1 (.cells #[.int .u8 (b : Int)] 5))
    clear hb1
    go_wp2_with (go_at_call 35; refine (HF.out _).mono ?_; rintro e w2 ⟨rfl, hb2⟩)
    go_ret
    exact ⟨ret_strX HS1.out.symm, bstep HB1.out hb2⟩
  · go_enter Tryd.func27, Tryd.ntmps27
    go_wp2_with fail
    refine HMB.out.mono ?_
    rintro e w1 ⟨rfl, hb1⟩
    have hc1 := hc w1
    have HB1 := Hid.in_ (balloc hb1 (.cells #[.int .u8 (b : Int)] 5))
    clear hb1
    go_wp2_with (first | (go_at_call 36; refine (HMM.out _).mono ?_; rintro e w' ⟨rfl, rfl⟩) | (go_at_call 28; refine (HM.out _).mono ?_; rintro e w2 ⟨rfl, hb2⟩; (try rw [HM3.out])))
    go_ret
    exact ⟨ret_strX (by rw [HS2.out, ← HM3.out]), bstep HB1.out hb2⟩
  · go_enter Tryd.func27, Tryd.ntmps27
    go_wp2_with fail
    refine HMB.out.mono ?_
    rintro e w1 ⟨rfl, hb1⟩
    have hc1 := hc w1
    have HB1 := Hid.in_ (balloc hb1 (.cells #[.int .u8 (b : Int)] 5))
    clear hb1
    go_wp2_with (go_at_call 37; refine (HG.out _).mono ?_; rintro e w2 ⟨rfl, hb2⟩)
    go_ret
    exact ⟨ret_strX (by rw [HS3.out, HT10.out]), bstep HB1.out hb2⟩
end Go.Proofs.YtlelgpknkgjaeaaDoor
