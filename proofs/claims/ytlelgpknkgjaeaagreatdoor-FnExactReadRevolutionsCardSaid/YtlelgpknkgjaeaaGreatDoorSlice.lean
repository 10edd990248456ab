/- 'SliceCells' of the program and of the reference: cells of a circular track. -/
import Derived.Test.YtlelgpknkgjaeaaGreatDoorValid
import Derived.Test.YtlelgpknkgjaeaaGreatDoorDist
import Derived.Test.YtlelgpknkgjaeaaGreatDoorStr
import Derived.Test.YtlelgpknkgjaeaaGreatDoorRow
import Derived.Laws.Concat
namespace Go.Proofs.YtlelgpknkgjaeaaGreatDoor
open Go.ChangeShapes Go.WideShapes Go.ChangeAt Go.RowKit
set_option linter.unusedSimpArgs false
set_option linter.unusedVariables false
set_option maxRecDepth 4000

theorem Tryz.infoU8s : (Tryz.prog.info? 5).map (fun i => (i.zero, i.size, i.bytes)) = some (some (.int .u8 0), 1, 1) := by kernel_rfl
/-- 'n' bytes of a circular string from the place 'at' on. -/
def sliceL (L : List UInt8) (at_ n : Nat) : List UInt8 := (List.range n).map fun i => L.getD ((at_ + i) % L.length) 0
theorem sliceL_len (L : List UInt8) (at_ n : Nat) : (sliceL L at_ n).length = n := by simp [sliceL]
theorem sliceL_next (L : List UInt8) (at_ n : Nat) : sliceL L at_ (n + 1) = sliceL L at_ n ++ [L.getD ((at_ + n) % L.length) 0] := by
  unfold sliceL
  rw [List.range_succ, List.map_append]
  rfl
theorem sliceL_at {L : List UInt8} {a n i : Nat} (h : i < n) : (sliceL L a n)[i]? = some (L.getD ((a + i) % L.length) 0) := by
  unfold sliceL
  rw [List.getElem?_map, List.getElem?_range h]
  rfl
theorem getD_at {L : List UInt8} {k : Nat} (h : k < L.length) : L[k]? = some (L.getD k 0) := by
  rw [List.getD_eq_getElem?_getD, List.getElem?_eq_getElem h]
  rfl
theorem sliceL_one {L : List UInt8} {at_ n : Nat} (h : at_ + n ≤ L.length) : (L.drop at_).take n = sliceL L at_ n := by
  apply List.ext_getElem?
  intro i
  by_cases hi : i < n
  · rw [sliceL_at hi, List.getElem?_take, if_pos hi, List.getElem?_drop, getD_at (by omega), Nat.mod_eq_of_lt (by omega)]
  · rw [List.getElem?_eq_none (by rw [List.length_take]; omega), List.getElem?_eq_none (by rw [sliceL_len]; omega)]
theorem sliceL_two {L : List UInt8} {at_ n : Nat} (h1 : at_ < L.length) (h2 : n ≤ L.length) (h : L.length < at_ + n) : L.drop at_ ++ L.take (at_ + n - L.length) = sliceL L at_ n := by
  apply List.ext_getElem?
  intro i
  by_cases hi : i < n
  · rw [sliceL_at hi]
    by_cases hj : i < L.length - at_
    · rw [List.getElem?_append_left (by rw [List.length_drop]; exact hj), List.getElem?_drop, getD_at (by omega), Nat.mod_eq_of_lt (by omega)]
    · have hm : (at_ + i) % L.length = at_ + i - L.length := by
        rw [Nat.mod_eq_sub_mod (by omega), Nat.mod_eq_of_lt (by omega)]
      rw [List.getElem?_append_right (by rw [List.length_drop]; omega), List.length_drop, List.getElem?_take, if_pos (by omega), getD_at (by omega), hm]
      congr 2
      omega
  · rw [List.getElem?_eq_none (by rw [List.length_append, List.length_take, List.length_drop]; omega), List.getElem?_eq_none (by rw [sliceL_len]; omega)]
def sliceS (s : ByteArray) (at_ n : Nat) : ByteArray := ⟨(sliceL s.data.toList at_ n).toArray⟩
theorem sliceS_size (s : ByteArray) (at_ n : Nat) : (sliceS s at_ n).size = n := by
  show (sliceL s.data.toList at_ n).toArray.size = n
  rw [List.size_toArray, sliceL_len]
theorem len_data (s : ByteArray) : s.data.toList.length = s.size := by simp
theorem ba_ext {a b : ByteArray} (h : a.data.toList = b.data.toList) : a = b := by
  cases a; cases b
  congr 1
  exact Array.ext' h
theorem extract_list (s : ByteArray) (a b : Nat) : (s.extract a b).data.toList = (s.data.toList.drop a).take (b - a) := by
  rw [ByteArray.data_extract, Array.toList_extract]
theorem slice_one {s : ByteArray} {at_ n : Nat} (h : at_ + n ≤ s.size) : s.extract at_ (at_ + n) = sliceS s at_ n := by
  apply ba_ext
  rw [extract_list, Nat.add_sub_cancel_left]
  exact sliceL_one (by rw [len_data]; exact h)
theorem slice_two {s : ByteArray} {at_ n : Nat} (h1 : at_ < s.size) (h2 : n ≤ s.size) (h : s.size < at_ + n) : s.extract at_ s.size ++ s.extract 0 (at_ + n - s.size) = sliceS s at_ n := by
  apply ba_ext
  rw [ByteArray.data_append, Array.toList_append, extract_list, extract_list, List.drop_zero, Nat.sub_zero, List.take_of_length_le (by rw [List.length_drop, len_data]; omega)]
  have := sliceL_two (L := s.data.toList) (at_ := at_) (n := n) (by rw [len_data]; exact h1) (by rw [len_data]; exact h2) (by rw [len_data]; exact h)
  rw [len_data] at this
  exact this
theorem slice_cell (s : ByteArray) (at_ n : Nat) : Lib.byteCells (sliceL s.data.toList at_ n) ++ [.int .u8 ((byteAt s ((at_ + n) % s.size)).toNat : Int)] = Lib.byteCells (sliceL s.data.toList at_ (n + 1)) := by
  rw [sliceL_next, len_data]
  unfold Lib.byteCells
  rw [List.map_append]
  rfl
theorem ret_str' {a b : ByteArray} (h : a = b) : Ending.returned (.string a) = .returned (.string b) := by rw [h]
theorem ret2_sb2 {a b : ByteArray} {x y : Bool} (h : a = b) (k : x = y) : Ending.returned (.tuple #[.string a, .bool x]) = .returned (.tuple #[.string b, .bool y]) := by rw [h, k]
theorem nat_mod (a b : Nat) : (a : Int) % (b : Int) = ((a % b : Nat) : Int) := by simp
theorem spec_l07At (s : ByteArray) (k : Nat) (w : World) (h0 : 0 < s.size) (hs : s.size ≤ 1048576) (hk : k ≤ 4294967296) :
    Calls Tryz.prog 95 #[.string s, .int .i64 k] w fun e w' => e = .returned (.int .u8 ((byteAt s (k % s.size)).toNat : Int)) ∧ w = w' := by
  obtain ⟨r, hr⟩ : ∃ r, r = k % s.size := ⟨_, rfl⟩
  have hlt : r < s.size := by rw [hr]; exact Nat.mod_lt _ h0
  have hm : (k : Int) % (s.size : Int) = (r : Int) := by rw [nat_mod, hr]
  rw [← hr, byteAt_eq hlt]
  clear hr
  obtain ⟨c, hc⟩ : ∃ c : UInt8, s[r] = c := ⟨_, rfl⟩
  rw [hc]
  go_enter Tryz.func95, Tryz.ntmps95
  go_wp2
  go_ret
  exact ⟨rfl, rfl⟩
set_option maxHeartbeats 1000000 in
theorem spec_l07Slice (s : ByteArray) (at_ n : Nat) (w : World) (h0 : 0 < s.size) (hs : s.size ≤ 1048576) (ha : at_ ≤ 1048576) (hn : n ≤ 1048576) :
    Calls Tryz.prog 143 #[.string s, .int .i64 at_, .int .i64 n] w fun e w' => e = .returned (.string (sliceS s at_ n)) ∧ Below w.heap.size w w' := by
  obtain ⟨i0, hti, hz0, hz1, hz2⟩ := info_parts Tryz.infoU8s
  go_enter Tryz.func143, Tryz.ntmps143
  go_wp2_with fail
  go_loopg [7, 8] n (fun m v i wr => ∃ k : Nat, k + m = n ∧ i = .int .i64 k ∧ Hid (wr.ownsRow w.heap.size 5 1 v k (Lib.byteCells (sliceL s.data.toList at_ k))) ∧ Hid (Below w.heap.size w wr))
  case atStart => exact ⟨0, by omega, rfl, World.ownsRow_lit w #[] 0 (Nat.le_refl _) (by decide) (by decide), balloc (Below.refl _ _) _⟩
  case round =>
    obtain ⟨k, hkm, rfl, HI, HB⟩ := hrel
    have HK := Hid.in_ hkm
    clear hkm
    by_cases hlt : k < n
    · have HW := Hid.in_ (slice_cell s at_ k)
      go_wp2_with fail
      refine (show Calls Tryz.prog 95 #[.string s, .int .i64 ((at_ : Int) + (k : Int))] _ _ from spec_l07At s (at_ + k) _ h0 hs (by omega)).mono ?_
      rintro e w2 ⟨rfl, rfl⟩
      generalize byteAt s ((at_ + k) % s.size) = c at *
      go_wp2_with (at_builtin; refine wpList_append_own _ rfl _ _ 43 rfl w.heap.size 5 i0 (.int .u8 0) 1 1 Tryz.underlying43 hti hz0 hz1 hz2 rfl (by decide) _ _ _ rfl (HI.out.alloc _) ⟨wr.heap.size, 0, none⟩ 1 1 [.int .u8 (c.toNat : Int)] rfl rfl (cell_one_new _ _ _) (fun x hx => by simp at hx; subst hx; rfl) (by unfold maxLen; omega) (by omega) (balloc HB.out _).size ?_; intro v4 w4 ho4 hg4 _)
      have HB4 := Hid.in_ (bgrown (balloc HB.out _) (HI.out.alloc _) (Nat.le_refl _) hg4)
      rw [HW.out] at ho4
      have HO4 := Hid.in_ ho4
      clear ho4 hg4
      have hk := HK.out
      go_roundg (gk - 1)
      case measure => omega
      case rel => exact ⟨k + 1, by omega, by go_num, HO4, HB4⟩
    · have hk := HK.out
      obtain rfl : k = n := by omega
      have hc := conv_own Tryz.underlying43 Tryz.underlying5 Tryz.underlying9 HI.out
      go_wp2
      go_ret
      exact ⟨rfl, HB.out⟩
theorem impl_slice (s : ByteArray) (at_ n : Nat) (w : World) (hs : s.size ≤ 1048576) (ha : at_ < s.size) (hn : n ≤ s.size) :
    Calls Tryz.prog 102 #[.string s, .int .i64 at_, .int .i64 n] w fun e w' => e = .returned (.string (sliceS s at_ n)) ∧ Below w.heap.size w w' := by
  by_cases h : at_ + n ≤ s.size
  · have HE := Hid.in_ (slice_one h)
    go_enter Tryz.func102, Tryz.ntmps102
    go_wp2
    go_ret
    exact ⟨ret_str' HE.out, Below.refl _ _⟩
  · have HE := Hid.in_ (slice_two ha hn (by omega))
    go_enter Tryz.func102, Tryz.ntmps102
    go_wp2_with fail
    go_quiet (fail)
    go_wp2
    go_ret
    exact ⟨ret_str' HE.out, below_drewN (Below.refl _ _) _⟩
def sliceOk (s : ByteArray) (a n : Int) : Bool := validCells s && (inB a 0 (s.size - 1) && inB n 0 s.size)
def sliceV (s : ByteArray) (a n : Int) : ByteArray := if sliceOk s a n = true then sliceS s a.toNat n.toNat else ⟨#[]⟩
theorem slice_cases (s : ByteArray) (a n : Int) :
    (validCells s = false ∧ Hid (sliceOk s a n = false ∧ sliceV s a n = ⟨#[]⟩)) ∨ (validCells s = true ∧ inB a 0 (s.size - 1) = false ∧ Hid (sliceOk s a n = false ∧ sliceV s a n = ⟨#[]⟩)) ∨
    (validCells s = true ∧ inB a 0 (s.size - 1) = true ∧ inB n 0 s.size = false ∧ Hid (sliceOk s a n = false ∧ sliceV s a n = ⟨#[]⟩)) ∨
    (validCells s = true ∧ inB a 0 (s.size - 1) = true ∧ inB n 0 s.size = true ∧ ∃ j k : Nat, a = j ∧ n = k ∧ j < s.size ∧ k ≤ s.size ∧ Hid (sliceOk s a n = true ∧ sliceV s a n = sliceS s j k)) := by
  unfold Hid
  cases h1 : validCells s
  · have : sliceOk s a n = false := by unfold sliceOk; rw [h1]; rfl
    exact .inl ⟨rfl, this, if_neg (by rw [this]; decide)⟩
  cases h2 : inB a 0 (s.size - 1)
  · have : sliceOk s a n = false := by unfold sliceOk; rw [h1, h2]; rfl
    exact .inr (.inl ⟨rfl, rfl, this, if_neg (by rw [this]; decide)⟩)
  cases h3 : inB n 0 s.size
  · have : sliceOk s a n = false := by unfold sliceOk; rw [h1, h2, h3]; rfl
    exact .inr (.inr (.inl ⟨rfl, rfl, rfl, this, if_neg (by rw [this]; decide)⟩))
  · have : sliceOk s a n = true := by unfold sliceOk; rw [h1, h2, h3]; rfl
    obtain ⟨a1, a2⟩ := inB_t h2
    obtain ⟨b1, b2⟩ := inB_t h3
    obtain ⟨j, rfl⟩ := Int.eq_ofNat_of_zero_le a1
    obtain ⟨k, rfl⟩ := Int.eq_ofNat_of_zero_le b1
    refine .inr (.inr (.inr ⟨rfl, rfl, rfl, j, k, rfl, rfl, by omega, by omega, this, ?_⟩))
    unfold sliceV
    rw [if_pos this]
    rfl
end Go.Proofs.YtlelgpknkgjaeaaGreatDoor
