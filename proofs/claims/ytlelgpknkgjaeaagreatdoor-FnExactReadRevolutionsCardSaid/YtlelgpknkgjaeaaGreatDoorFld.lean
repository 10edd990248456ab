/- Fields that are read: 'GetWord', 'l09Field', 'fieldAt', 'FieldAt'. -/
import Derived.Test.YtlelgpknkgjaeaaGreatDoorRaw
import Derived.Test.YtlelgpknkgjaeaaGreatDoorSlice
import Derived.Test.YtlelgpknkgjaeaaGreatDoorField
import Derived.Test.YtlelgpknkgjaeaaGreatDoorAsk
import Derived.BigRegion
import Derived.Deep.RegionWith
import Derived.Deep.DeepCutAuto
namespace Go.Proofs.YtlelgpknkgjaeaaGreatDoor
open Go.ChangeShapes Go.WideShapes Go.ChangeAt Go.RowKit
set_option linter.unusedSimpArgs false
set_option linter.unusedVariables false
set_option maxRecDepth 4000

theorem listEq {a b : ByteArray} : (a.toList == b.toList) = decide (a.data.toList = b.data.toList) := by
  rw [Go.ByteArray.toList_eq, Go.ByteArray.toList_eq]
  by_cases h : a.data.toList = b.data.toList
  · rw [decide_eq_true h, h]
    exact beq_self_eq_true _
  · rw [decide_eq_false h]
    exact beq_eq_false_iff_ne.2 h
def wordAt (S : ByteArray) (n : Nat) : Nat := (byteAt S n).toNat * 256 + (byteAt S (n + 1)).toNat
theorem wordAt_lt (S : ByteArray) (n : Nat) : wordAt S n < 65536 := by
  have h1 := (byteAt S n).toNat_lt
  have h2 := (byteAt S (n + 1)).toNat_lt
  unfold wordAt
  omega
theorem word_back {x y : UInt8} {c : Nat} (hc : c < 65536) : ([UInt8.ofNat (c / 256), UInt8.ofNat (c % 256)] = [x, y]) ↔ c = x.toNat * 256 + y.toNat := by
  have h1 := x.toNat_lt
  have h2 := y.toNat_lt
  constructor
  · intro h
    injection h with h3 h4
    injection h4 with h4 _
    have h3' := congrArg UInt8.toNat h3
    have h4' := congrArg UInt8.toNat h4
    rw [UInt8.toNat_ofNat'] at h3' h4'
    omega
  · rintro rfl
    congr 1
    · apply UInt8.toNat_inj.1
      rw [UInt8.toNat_ofNat']
      omega
    · congr 1
      apply UInt8.toNat_inj.1
      rw [UInt8.toNat_ofNat']
      omega
theorem last_two {S : ByteArray} {n : Nat} (hs : S.size = n + 2) : S.data.toList = S.data.toList.take n ++ [byteAt S n, byteAt S (n + 1)] := by
  have hl : S.data.toList.length = n + 2 := by rw [len_data, hs]
  have h0 : n < S.data.toList.length := by omega
  have h1 : n + 1 < S.data.toList.length := by omega
  have e1 : S.data.toList.take (n + 1) = S.data.toList.take n ++ [byteAt S n] := by
    rw [List.take_succ_eq_append_getElem h0]
    congr 2
    unfold byteAt
    rw [List.getD_eq_getElem?_getD, List.getElem?_eq_getElem h0]
    rfl
  have e2 : S.data.toList.take (n + 1 + 1) = S.data.toList.take (n + 1) ++ [byteAt S (n + 1)] := by
    rw [List.take_succ_eq_append_getElem h1]
    congr 2
    unfold byteAt
    rw [List.getD_eq_getElem?_getD, List.getElem?_eq_getElem h1]
    rfl
  rw [e1, List.append_assoc, List.take_of_length_le (by omega)] at e2
  exact e2
theorem fld_eq {S : ByteArray} {n c : Nat} (hs : S.size = n + 2) (hc : c < 65536) : ((S.extract 0 n ++ wordS c).toList == S.toList) = decide (c = wordAt S n) := by
  rw [listEq]
  apply decide_eq_decide.2
  have e : (S.extract 0 n ++ wordS c).data.toList = S.data.toList.take n ++ [UInt8.ofNat (c / 256), UInt8.ofNat (c % 256)] := by
    rw [ByteArray.data_append, Array.toList_append, extract_list, List.drop_zero, Nat.sub_zero]
    rfl
  rw [e]
  constructor
  · intro h
    rw [last_two hs] at h
    have h2 : (S.data.toList.take n ++ [byteAt S n, byteAt S (n + 1)]).take n = S.data.toList.take n := by rw [← last_two hs]
    rw [h2] at h
    exact (word_back hc).1 (List.append_cancel_left h)
  · intro h
    rw [(word_back hc).2 h]
    exact (last_two hs).symm
theorem byteCells_nat (f : Int) : byteCells f = ((if f = 3 then 10 else 16 : Nat) : Int) := by unfold byteCells; split <;> rfl
def bcN (f : Int) : Nat := if f = 3 then 10 else 16
def fldCut (f : Int) (s : ByteArray) (b n : Nat) : ByteArray := sliceS s b ((n + 2) * bcN f)
def fldS (f : Int) (s : ByteArray) (b n : Nat) : ByteArray := rawV f (fldCut f s b n)
def fldD (f : Int) (s : ByteArray) (b n : Nat) : ByteArray := (fldS f s b n).extract 0 n
def fldG (f k : Int) (s : ByteArray) (b n : Nat) : Bool := rawB f (fldCut f s b n) && decide (sumP (prefixS f k) (fldD f s b n) false = wordAt (fldS f s b n) n)
theorem fldCut_size (f : Int) (s : ByteArray) (b n : Nat) : (fldCut f s b n).size = (n + 2) * bcN f := sliceS_size _ _ _
theorem bc_le (f : Int) : bcN f ≤ 16 := by unfold bcN; split <;> omega
theorem fldS_size (f : Int) (s : ByteArray) (b n : Nat) : (fldS f s b n).size = n + 2 := by
  have h := fldCut_size f s b n
  unfold fldS rawV
  by_cases h3 : f = 3
  · rw [if_pos h3, size_mk]
    unfold rawTo
    rw [List.length_map, List.length_range, h, bcN, if_pos h3]
    omega
  · rw [if_neg h3]
    unfold bytesS
    rw [size_mk, bytesTo_len, dataS_size, h, bcN, if_neg h3]
    omega
theorem slice_bits {s : ByteArray} {b n : Nat} (h : allBits s = true) (h0 : 0 < s.size) : allBits (sliceS s b n) = true := by
  unfold sliceS
  rw [allBits_mk, List.all_eq_true]
  intro c hc
  unfold sliceL at hc
  rw [List.mem_map] at hc
  obtain ⟨j, _, rfl⟩ := hc
  have hm : (b + j) % s.data.toList.length < s.data.toList.length := Nat.mod_lt _ (by rw [len_data]; exact h0)
  rw [List.getD_eq_getElem?_getD, List.getElem?_eq_getElem hm]
  unfold allBits at h
  rw [List.all_eq_true] at h
  exact h _ (List.getElem_mem hm)
theorem cut_cell {f : Int} {s : ByteArray} {b n : Nat} (h : validCells s = true) (hl : (n + 2) * bcN f ≤ s.size) : cellStr (fldCut f s b n) = true := by
  obtain ⟨h0, h8, hb⟩ := valid_size h
  unfold cellStr
  rw [fldCut_size, show allBits (fldCut f s b n) = true from slice_bits hb h0, decide_eq_true (by omega : (n + 2) * bcN f ≤ 8000)]
  rfl
theorem cut_16 {f : Int} {s : ByteArray} {b n : Nat} (h : f ≠ 3) : (fldCut f s b n).size % 16 = 0 := by rw [fldCut_size, bcN, if_neg h]; omega
theorem cut_10 {f : Int} {s : ByteArray} {b n : Nat} (h : f = 3) : (fldCut f s b n).size % 10 = 0 := by rw [fldCut_size, bcN, if_pos h]; omega
theorem ret3_f {a b : ByteArray} {x y z : Bool} (h : a = b) (k : x = y) : Ending.returned (.tuple #[.string a, .bool x, .bool z]) = .returned (.tuple #[.string b, .bool y, .bool z]) := by rw [h, k]
theorem spec_l01Get (S : ByteArray) (n : Nat) (w : World) (hs : S.size = n + 2) (hn : n ≤ 1048576) :
    Calls Tryz.prog 182 #[.string S, .int .i64 n] w fun e w' => e = .returned (.int .i64 (wordAt S n : Nat)) ∧ ∃ k, w' = w.drewN k := by
  have h0 : n < S.size := by omega
  have h1 : n + 1 < S.size := by omega
  obtain ⟨x, hx⟩ : ∃ x : UInt8, S[n] = x := ⟨_, rfl⟩
  obtain ⟨y, hy⟩ : ∃ y : UInt8, S[n + 1] = y := ⟨_, rfl⟩
  have HW := Hid.in_ (show ((wordAt S n : Nat) : Int) = (x.toNat : Int) * 256 + (y.toNat : Int) by
    unfold wordAt
    rw [byteAt_eq h0, byteAt_eq h1, hx, hy]
    push_cast
    rfl)
  have hx1 := x.toNat_lt
  have hy1 := y.toNat_lt
  go_enter Tryz.func182, Tryz.ntmps182
  go_wp2_with fail
  go_quiet (fail)
  go_wp2
  go_ret
  exact ⟨ret_int (by rw [HW.out]), _, rfl⟩
theorem spec_GetWord (S : ByteArray) (n : Nat) (w : World) (hs : S.size = n + 2) (hn : n ≤ 1048576) :
    Calls Tryz.prog 144 #[.string S, .int .i64 n] w fun e w' => e = .returned (.tuple #[.int .i64 (wordAt S n : Nat), .bool true]) ∧ ∃ k, w' = w.drewN k := by
  have HG := Hid.in_ (spec_l01Get S n w hs hn)
  have hi : inB (n : Int) 0 ((S.size : Int) - 2) = true := inB_mk (by omega) (by omega)
  have hi2 : inB (n : Int) 0 (n : Int) = true := inB_mk (by omega) (by omega)
  have hsz : (S.size : Int) - 2 = (n : Int) := by omega
  go_enter Tryz.func144, Tryz.ntmps144
  go_wp2_with (first | (go_at_call 60; refine (bool_is (spec_l00In _ _ _ _) (by assumption)).mono ?_; rintro e w' ⟨rfl, rfl⟩) | (go_at_call 182; refine HG.out.mono ?_; rintro e w1 ⟨rfl, k1, rfl⟩))
  go_ret2
  exact ⟨rfl, _, rfl⟩
theorem fldG_s {f k : Int} {s : ByteArray} {b n : Nat} {X : Bool} (hX : rawB f (fldCut f s b n) = X) :
    fldG f k s b n = (X && (((crcN (prefixS f k ++ fldD f s b n) 65535 (prefixS f k ++ fldD f s b n).size : Nat) : Int) == ((wordAt (fldS f s b n) n : Nat) : Int))) := by
  unfold fldG
  rw [hX]
  congr 1
  unfold sumP
  rw [if_neg (by decide)]
  by_cases h : crcN (prefixS f k ++ fldD f s b n) 65535 (prefixS f k ++ fldD f s b n).size = wordAt (fldS f s b n) n
  · rw [decide_eq_true h, h]
    exact (beq_self_eq_true _).symm
  · rw [decide_eq_false h]
    exact (beq_eq_false_iff_ne.2 (fun e => h (by omega))).symm
theorem fldG_i {f k : Int} {s : ByteArray} {b n : Nat} {X : Bool} (hX : rawB f (fldCut f s b n) = X) :
    fldG f k s b n = (X && ((fieldS f k (fldD f s b n) false).toList == (fldS f s b n).toList)) := by
  unfold fldG
  rw [hX]
  congr 1
  have := fld_eq (S := fldS f s b n) (n := n) (c := sumP (prefixS f k) (fldD f s b n) false) (fldS_size f s b n) (by unfold sumP; rw [if_neg (by decide)]; exact crcN_lt (by omega) _ _)
  rw [← this]
  rfl
set_option maxHeartbeats 4000000 in
theorem spec_l09Field_no (f k a : Int) (s : ByteArray) (b : Int) (n : Nat) (w : World) (hn : n ≤ 32) (hs : s.size ≤ 1048576) (hl : ¬ (n + 2) * bcN f ≤ s.size) :
    Calls Tryz.prog 106 #[.string s, .int .i64 f, .agg #[.int .i64 k, .int .i64 a, .int .i64 b], .int .i64 n] w fun e w' => e = .returned (.tuple #[.string ⟨#[]⟩, .bool false, .bool false]) ∧ Below w.heap.size w w' := by
  have HB0 := Hid.in_ (balloc (Below.refl w.heap.size w) (.cells #[.int .i64 k, .int .i64 a, .int .i64 b] 51))
  have HBC := Hid.in_ (fun w => spec_l08Cell f w)
  have hbc : byteCells f = (bcN f : Int) := byteCells_nat f
  have hb16 := bc_le f
  rw [hbc] at HBC
  clear hbc
  obtain ⟨L, hL⟩ : ∃ L, (n + 2) * bcN f = L := ⟨_, rfl⟩
  have hL2 : ((n : Int) + 2) * (bcN f : Int) = (L : Int) := by rw [← hL]; push_cast; rfl
  have hL3 : L ≤ 544 := by rw [← hL]; exact Nat.mul_le_mul (by omega : n + 2 ≤ 34) hb16
  rw [hL] at hl
  clear hL
  generalize bcN f = z at *
  go_enter Tryz.func106, Tryz.ntmps106
  go_wp2_with (go_at_call 141; refine (HBC.out _).mono ?_; rintro e w1 ⟨rfl, rfl⟩)
  go_ret3
  exact ⟨rfl, HB0.out⟩
set_option maxHeartbeats 8000000 in
theorem spec_l09Field (f k a : Int) (s : ByteArray) (b n : Nat) (w : World) (hf : inB f 1 3 = true) (hk : inB k 1 3 = true) (hv : validCells s = true) (hb : b < s.size) (hn : n ≤ 32) (hl : (n + 2) * bcN f ≤ s.size) :
    Calls Tryz.prog 106 #[.string s, .int .i64 f, .agg #[.int .i64 k, .int .i64 a, .int .i64 b], .int .i64 n] w fun e w' => e = .returned (.tuple #[.string (fldD f s b n), .bool (fldG f k s b n), .bool true]) ∧ Below w.heap.size w w' := by
  obtain ⟨h0, h8, hbits⟩ := valid_size hv
  have hB := Hid.in_ (Box.new w [.int .i64 k, .int .i64 a, .int .i64 b] 51)
  have HB0 := Hid.in_ (balloc (Below.refl w.heap.size w) (.cells #[.int .i64 k, .int .i64 a, .int .i64 b] 51))
  have HBC := Hid.in_ (fun w => spec_l08Cell f w)
  have hbc : byteCells f = (bcN f : Int) := byteCells_nat f
  have hb16 := bc_le f
  rw [hbc] at HBC
  clear hbc
  have HSL := Hid.in_ (fun w => spec_l07Slice s b ((n + 2) * bcN f) w h0 (by omega) (by omega) (by omega))
  rw [show sliceS s b ((n + 2) * bcN f) = fldCut f s b n from rfl] at HSL
  have HRW := Hid.in_ (fun w => spec_l09Raw f (fldCut f s b n) w (cut_cell hv hl) cut_16 cut_10)
  rw [show rawV f (fldCut f s b n) = fldS f s b n from rfl] at HRW
  have hSz := fldS_size f s b n
  have HGW := Hid.in_ (fun w => spec_GetWord (fldS f s b n) n w hSz (by omega))
  have HPX := Hid.in_ (fun w => spec_l08Prefix f k w hf hk)
  have hPs := prefixS_size f k
  have hDs : (fldD f s b n).size = n := by unfold fldD; rw [ByteArray.size_extract, hSz]; omega
  have HCR := Hid.in_ (fun w => spec_Crc16 (prefixS f k ++ fldD f s b n) w (by rw [ByteArray.size_append]; omega))
  obtain ⟨X, hX⟩ : ∃ X, rawB f (fldCut f s b n) = X := ⟨_, rfl⟩
  have HG := Hid.in_ (fldG_s (k := k) hX)
  rw [hX] at HRW
  have HDX := Hid.in_ (show (fldS f s b n).extract 0 n = fldD f s b n from rfl)
  obtain ⟨L, hL⟩ : ∃ L, (n + 2) * bcN f = L := ⟨_, rfl⟩
  have hL2 : ((n : Int) + 2) * (bcN f : Int) = (L : Int) := by rw [← hL]; push_cast; rfl
  have hL3 : L ≤ 544 := by rw [← hL]; exact Nat.mul_le_mul (by omega : n + 2 ≤ 34) hb16
  rw [hL] at hl HSL
  clear hL hf hk hv hbits hX
  generalize bcN f = z at *
  generalize fldG f k s b n = G at *
  generalize fldD f s b n = D at *
  generalize fldS f s b n = S at *
  generalize fldCut f s b n = C at *
  generalize prefixS f k = P at *
  generalize crcN (P ++ D) 65535 (P ++ D).size = cr at *
  generalize wordAt S n = wd at *
  have hx1 := HDX.out
  have hno : ¬ (P.size + D.size > 9223372036854775807) := by omega
  obtain ⟨c0, c1, c2⟩ := box3 hB.out
  go_enter Tryz.func106, Tryz.ntmps106
  go_upto_region 6 with (first | (go_at_call 141; refine (HBC.out _).mono ?_; rintro e w1 ⟨rfl, rfl⟩) | (go_at_call 143; refine (HSL.out _).mono ?_; rintro e w2 ⟨rfl, hb2⟩) | (go_at_call 142; refine (HRW.out _).mono ?_; rintro e w3 ⟨rfl, hb3⟩) | (go_at_call 144; refine (HGW.out _).mono ?_; rintro e w4 ⟨rfl, k4, rfl⟩))
  have HB3 := Hid.in_ (bstep HB0.out (bstep hb2 (below_drewN hb3 k4)))
  have HX3 := Hid.in_ (Box.step (bstep hb2 (below_drewN hb3 k4)) hB.out)
  obtain ⟨d0, d1, d2⟩ := box3 HX3.out
  clear hb2 hb3 c0 c1 c2
  generalize w3.drewN k4 = w5 at *
  go_region_with (first
    | (go_at_call 146; refine (HPX.out _).mono ?_; rintro e w6 ⟨rfl, hb6⟩; have hb6' := ((Below.refl w5.heap.size w5).drew).trans hb6; obtain ⟨e0, e1, e2⟩ := box3 (HX3.out.step hb6'))
    | (go_at_call 145; refine (HCR.out _).mono ?_; rintro e w7 ⟨rfl, rfl⟩))
  all_goals
    have HB7 := Hid.in_ (bstep HB3.out hb6')
    cases X
    all_goals
      go_wp2
      go_ret3
      exact ⟨ret3_f rfl (by rw [HG.out]; simp), HB7.out⟩
end Go.Proofs.YtlelgpknkgjaeaaGreatDoor
