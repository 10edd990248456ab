/- Fields of a track: 'PutWord', the prefix of a field, 'checkedField', 'l08Sum'. -/
import Derived.Test.YtlelgpknkgjaeaaGreatDoorCrcS
import Derived.Test.YtlelgpknkgjaeaaGreatDoorCrcI
import Derived.Test.YtlelgpknkgjaeaaGreatDoorStr
import Derived.Test.YtlelgpknkgjaeaaGreatDoorMark
import Derived.Test.YtlelgpknkgjaeaaGreatDoorSector
import Derived.Laws.Concat
namespace Go.Proofs.YtlelgpknkgjaeaaGreatDoor
open Go.ChangeShapes Go.WideShapes Go.ChangeAt Go.RowKit
set_option linter.unusedSimpArgs false
set_option linter.unusedVariables false
set_option maxRecDepth 4000

theorem conv_lit {w : World} {cs : List UInt8} {vs : Array Value} {n : Nat} (hn : vs.size = n) (h : vs.toList = Lib.byteCells cs) (hm : n ≤ maxLen) :
    (convert 43 9 (.slice (some ⟨w.heap.size, 0, none⟩) n n)).run Tryz.prog (w.alloc (.cells vs 5)) = .ok (.string ⟨cs.toArray⟩) (w.alloc (.cells vs 5)) := by
  have := World.ownsRow_lit (base := w.heap.size) (size := 1) (e := 5) w vs n (Nat.le_refl _) hm (by omega)
  rw [h] at this
  exact conv_own Tryz.underlying43 Tryz.underlying5 Tryz.underlying9 this
theorem u8_val {x : Int} (h0 : 0 ≤ x) (h1 : x ≤ 255) : Value.int .u8 x = .int .u8 ((UInt8.ofNat x.toNat).toNat : Int) := by
  rw [UInt8.toNat_ofNat']
  congr 1
  omega
theorem ret_strF {a b : ByteArray} (h : a = b) : Ending.returned (.string a) = .returned (.string b) := by rw [h]
def wordS (n : Nat) : ByteArray := ⟨[UInt8.ofNat (n / 256), UInt8.ofNat (n % 256)].toArray⟩
theorem word_cells {n : Nat} (hn : n < 65536) : (#[Value.int .u8 ((n : Int) / 256), Value.int .u8 ((n : Int) % 256)] : Array Value).toList = Lib.byteCells [UInt8.ofNat (n / 256), UInt8.ofNat (n % 256)] := by
  show [Value.int .u8 ((n : Int) / 256), Value.int .u8 ((n : Int) % 256)] = [Value.int .u8 ((UInt8.ofNat (n / 256)).toNat : Int), Value.int .u8 ((UInt8.ofNat (n % 256)).toNat : Int)]
  rw [UInt8.toNat_ofNat', UInt8.toNat_ofNat']
  congr 2
  · omega
  · congr 2
    omega
set_option maxHeartbeats 1000000 in
theorem impl_PutWord (n : Nat) (w : World) (hn : n < 65536) :
    Calls Tryz.prog 151 #[.int .i64 n] w fun e w' => e = .returned (.string (wordS n)) ∧ Below w.heap.size w w' := by
  have hi : inB (n : Int) 0 65535 = true := by unfold inB; simp; omega
  have hc := conv_lit (n := 2) (w := w) rfl (word_cells hn) (by decide)
  go_enter Tryz.func151, Tryz.ntmps151
  go_wp2_with (go_at_call 56; refine (bool_is (impl_within _ _ _ _) (by assumption)).mono ?_; rintro e w' ⟨rfl, rfl⟩)
  go_ret
  exact ⟨rfl, balloc (Below.refl _ _) _⟩
theorem spec_Crc16 (s : ByteArray) (w : World) (hs : s.size ≤ 4194304) :
    Calls Tryz.prog 145 #[.string s, .int .i64 65535] w fun e w' => e = .returned (.int .i64 (crcN s 65535 s.size : Nat)) ∧ w = w' := by
  have hi : inB (65535 : Int) 0 65535 = true := by decide
  have HW := Hid.in_ (show Calls Tryz.prog 183 #[.string s, .int .i64 65535] w _ from spec_l01Crc s 65535 w (by omega) hs)
  go_enter Tryz.func145, Tryz.ntmps145
  go_wp2_with (first | (go_at_call 60; refine (bool_is (spec_l00In _ _ _ _) (by assumption)).mono ?_; rintro e w' ⟨rfl, rfl⟩) | (go_at_call 183; refine HW.out.mono ?_; rintro e w1 ⟨rfl, rfl⟩))
  go_ret
  exact ⟨rfl, rfl⟩
def markS (f k : Int) : ByteArray := ⟨[UInt8.ofNat (markByte f k).toNat].toArray⟩
def prefixS (f k : Int) : ByteArray := if f = 2 then ⟨#[161, 161, 161]⟩ ++ markS f k else markS f k
theorem prefixS_2 (k : Int) : prefixS 2 k = ⟨#[161, 161, 161]⟩ ++ markS 2 k := if_pos rfl
theorem prefixS_no {f : Int} (h : ¬ f = 2) (k : Int) : prefixS f k = markS f k := if_neg h
theorem prefixS_size (f k : Int) : (prefixS f k).size ≤ 4 := by
  unfold prefixS
  split
  · rw [ByteArray.size_append]
    show 3 + 1 ≤ 4
    omega
  · show 1 ≤ 4
    omega
theorem markByte_in {f k : Int} (hf : inB f 1 3 = true) (hk : inB k 1 3 = true) : 0 ≤ markByte f k ∧ markByte f k ≤ 255 := by
  obtain rfl | rfl | rfl := three hf <;> obtain rfl | rfl | rfl := three hk <;> decide +kernel
theorem mark_cells {f k : Int} (hf : inB f 1 3 = true) (hk : inB k 1 3 = true) : (#[Value.int .u8 (markByte f k)] : Array Value).toList = Lib.byteCells [UInt8.ofNat (markByte f k).toNat] := by
  have := markByte_in hf hk
  show [Value.int .u8 (markByte f k)] = [Value.int .u8 ((UInt8.ofNat (markByte f k).toNat).toNat : Int)]
  rw [← u8_val this.1 this.2]
def sumP (P d : ByteArray) (b : Bool) : Nat := if b = true then 65535 - crcN (P ++ d) 65535 (P ++ d).size else crcN (P ++ d) 65535 (P ++ d).size
def fieldS (f k : Int) (d : ByteArray) (b : Bool) : ByteArray := d ++ wordS (sumP (prefixS f k) d b)
theorem wordS_size (n : Nat) : (wordS n).size = 2 := rfl
set_option maxHeartbeats 1000000 in
theorem spec_l08Prefix (f k : Int) (w : World) (hf : inB f 1 3 = true) (hk : inB k 1 3 = true) :
    Calls Tryz.prog 146 #[.int .i64 f, .int .i64 k] w fun e w' => e = .returned (.string (prefixS f k)) ∧ Below w.heap.size w w' := by
  obtain ⟨hm0, hm1⟩ := markByte_in hf hk
  have HM := Hid.in_ (mark_cells hf hk)
  have HC := Hid.in_ (spec_l07Byte f k w hf hk)
  have HS : (markS f k).size = 1 := rfl
  by_cases h2 : f = 2
  · subst h2
    have HP := Hid.in_ (prefixS_2 k)
    go_enter Tryz.func146, Tryz.ntmps146
    go_wp2_with fail
    refine HC.out.mono ?_
    rintro e w1 ⟨rfl, hb1⟩
    have hc := conv_lit (n := 1) (w := w1) rfl HM.out (by decide)
    change _ = Result.ok (Value.string (markS 2 k)) _ at hc
    generalize markS 2 k = P at *
    have hno : ¬ ((ByteArray.mk #[161, 161, 161]).size + P.size > 9223372036854775807) := by rw [HS]; decide
    go_wp2
    go_ret
    exact ⟨ret_strF HP.out.symm, balloc hb1 _⟩
  · have HP := Hid.in_ (prefixS_no h2 k)
    have h3 : (f == 2) = false := beq_eq_false_iff_ne.2 h2
    go_enter Tryz.func146, Tryz.ntmps146
    go_wp2_with fail
    refine HC.out.mono ?_
    rintro e w1 ⟨rfl, hb1⟩
    have hc := conv_lit (n := 1) (w := w1) rfl HM.out (by decide)
    change _ = Result.ok (Value.string (markS f k)) _ at hc
    generalize markS f k = P at *
    go_wp2
    go_ret
    exact ⟨ret_strF HP.out.symm, balloc hb1 _⟩
set_option maxHeartbeats 2000000 in
theorem impl_checkedField (f k : Int) (d : ByteArray) (b : Bool) (w : World) (hf : inB f 1 3 = true) (hk : inB k 1 3 = true) (hd : d.size ≤ 1048576) :
    Calls Tryz.prog 110 #[.int .i64 f, .int .i64 k, .string d, .bool b] w fun e w' => e = .returned (.string (fieldS f k d b)) ∧ Below w.heap.size w w' := by
  obtain ⟨hm0, hm1⟩ := markByte_in hf hk
  have HM := Hid.in_ (mark_cells hf hk)
  have HC := Hid.in_ (impl_MarkByte f k w)
  have hP := prefixS_size f k
  have HX := Hid.in_ (show ∀ w, Calls Tryz.prog 150 #[.string (prefixS f k ++ d), .int .i64 65535] w _ from fun w => impl_crc16 (prefixS f k ++ d) 65535 w (by omega) (by rw [ByteArray.size_append]; omega))
  have HL := Hid.in_ (crcN_lt (v := 65535) (by omega) (prefixS f k ++ d) (prefixS f k ++ d).size)
  have HF : Hid (fieldS f k d b = d ++ wordS (sumP (prefixS f k) d b)) := rfl
  have HS : Hid (sumP (prefixS f k) d b = if b = true then 65535 - crcN (prefixS f k ++ d) 65535 (prefixS f k ++ d).size else crcN (prefixS f k ++ d) 65535 (prefixS f k ++ d).size) := rfl
  have hno : ¬ ((prefixS f k).size + d.size > 9223372036854775807) := by omega
  generalize crcN (prefixS f k ++ d) 65535 (prefixS f k ++ d).size = c at *
  have hc := HL.out
  have HW := Hid.in_ (show ∀ w, Calls Tryz.prog 151 #[.int .i64 (sumP (prefixS f k) d b : Nat)] w fun e w' => e = .returned (.string (wordS (sumP (prefixS f k) d b))) ∧ Below w.heap.size w w' from fun w => impl_PutWord _ w (by rw [HS.out]; split <;> omega))
  have HZ := Hid.in_ (wordS_size (sumP (prefixS f k) d b))
  generalize sumP (prefixS f k) d b = S at *
  have HE : Hid ((b = false ∧ (S : Int) = c) ∨ (b = true ∧ (S : Int) = 65535 - c)) := by
    rw [HS.out]
    cases b
    · exact .inl ⟨rfl, rfl⟩
    · refine .inr ⟨rfl, ?_⟩
      show ((65535 - c : Nat) : Int) = _
      omega
  generalize wordS S = W at *
  have hno2 : ¬ (d.size + W.size > 9223372036854775807) := by rw [HZ.out]; omega
  have hcv := conv_lit (n := 1) (w := w) rfl HM.out (by decide)
  change _ = Result.ok (Value.string (markS f k)) _ at hcv
  by_cases h2 : f = 2
  · subst h2
    have hno3 : ¬ ((ByteArray.mk #[161, 161, 161]).size + (markS 2 k).size > 9223372036854775807) := by rw [show (markS 2 k).size = 1 from rfl]; decide
    rw [prefixS_2 k] at HX hno
    generalize markS 2 k = M at *
    generalize fieldS 2 k d b = R at *
    obtain ⟨rfl, he⟩ | ⟨rfl, he⟩ := HE.out
    all_goals
      rw [he] at HW
      clear he
      go_enter Tryz.func110, Tryz.ntmps110
      go_wp2_with (first | (go_at_call 89; refine HC.out.mono ?_; rintro e w1 ⟨rfl, rfl⟩) | (go_at_call 150; refine (HX.out _).mono ?_; rintro e w2 ⟨rfl, rfl⟩) | (go_at_call 151; refine (HW.out _).mono ?_; rintro e w3 ⟨rfl, hb3⟩))
      go_ret
      exact ⟨ret_strF HF.out.symm, bstep (balloc (Below.refl _ _) _) hb3⟩
  · have h3 : (f == 2) = false := beq_eq_false_iff_ne.2 h2
    rw [prefixS_no h2 k] at HX hno
    generalize markS f k = M at *
    generalize fieldS f k d b = R at *
    obtain ⟨rfl, he⟩ | ⟨rfl, he⟩ := HE.out
    all_goals
      rw [he] at HW
      clear he
      go_enter Tryz.func110, Tryz.ntmps110
      go_wp2_with (first | (go_at_call 89; refine HC.out.mono ?_; rintro e w1 ⟨rfl, rfl⟩) | (go_at_call 150; refine (HX.out _).mono ?_; rintro e w2 ⟨rfl, rfl⟩) | (go_at_call 151; refine (HW.out _).mono ?_; rintro e w3 ⟨rfl, hb3⟩))
      go_ret
      exact ⟨ret_strF HF.out.symm, bstep (balloc (Below.refl _ _) _) hb3⟩
end Go.Proofs.YtlelgpknkgjaeaaGreatDoor
