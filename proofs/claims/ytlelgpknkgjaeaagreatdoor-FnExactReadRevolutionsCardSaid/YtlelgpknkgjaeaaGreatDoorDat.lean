/- The data cells of cells: 'dataCells' of the program (cut out of XRaw). -/
import Derived.Test.YtlelgpknkgjaeaaGreatDoorBytes
namespace Go.Proofs.YtlelgpknkgjaeaaGreatDoor
open Go.ChangeShapes Go.WideShapes Go.ChangeAt Go.RowKit
set_option linter.unusedSimpArgs false
set_option linter.unusedVariables false
set_option maxRecDepth 4000

theorem allBits_mk (l : List UInt8) : allBits ⟨l.toArray⟩ = l.all isBit := by
  show (l.toArray.toList).all isBit = _
  rw [List.toList_toArray]
theorem byteAt_mk (l : List UInt8) (k : Nat) : byteAt ⟨l.toArray⟩ k = l.getD k 0 := by
  show (l.toArray.toList).getD k 0 = _
  rw [List.toList_toArray]
theorem size_mk (l : List UInt8) : (⟨l.toArray⟩ : ByteArray).size = l.length := by
  show l.toArray.size = _
  simp
/-- The data cells of the first 'k' pairs. -/
def dataTo (s : ByteArray) (k : Nat) : List UInt8 := (List.range k).map fun j => byteAt s (2 * j + 1)
def dataS (s : ByteArray) : ByteArray := ⟨(dataTo s (s.size / 2)).toArray⟩
theorem dataTo_len (s : ByteArray) (k : Nat) : (dataTo s k).length = k := by simp [dataTo]
theorem dataTo_next {s : ByteArray} {k : Nat} (h : 2 * k + 1 < s.size) {c : UInt8} (hc : s[2 * k + 1] = c) : Lib.byteCells (dataTo s k) ++ [.int .u8 (c.toNat : Int)] = Lib.byteCells (dataTo s (k + 1)) := by
  unfold dataTo
  rw [List.range_succ, List.map_append]
  unfold Lib.byteCells
  rw [List.map_append]
  congr 1
  show _ = [Value.int .u8 ((byteAt s (2 * k + 1)).toNat : Int)]
  rw [byteAt_eq h, hc]
theorem dataS_size (s : ByteArray) : (dataS s).size = s.size / 2 := by unfold dataS; rw [size_mk, dataTo_len]
theorem dataS_bits {s : ByteArray} (h : allBits s = true) : allBits (dataS s) = true := by
  unfold dataS
  rw [allBits_mk, List.all_eq_true]
  intro c hc
  unfold dataTo at hc
  rw [List.mem_map] at hc
  obtain ⟨j, hj, rfl⟩ := hc
  rw [List.mem_range] at hj
  rw [byteAt_eq (by omega)]
  obtain h | h := allBits_at h (k := 2 * j + 1) (by omega) <;> rw [h] <;> rfl
theorem cellStr_parts {s : ByteArray} (h : cellStr s = true) : allBits s = true ∧ s.size ≤ 8000 := by
  unfold cellStr at h
  simpa using h
set_option maxHeartbeats 4000000 in
theorem impl_dataCells (s : ByteArray) (w : World) (hc : cellStr s = true) (h16 : s.size % 16 = 0) :
    Calls Tryz.prog 148 #[.string s] w fun e w' => e = .returned (.tuple #[.string (bytesS (dataS s)), .bool true]) ∧ Below w.heap.size w w' := by
  obtain ⟨i0, hti, hz0, hz1, hz2⟩ := info_parts Tryz.infoU8b
  obtain ⟨hbits, h8⟩ := cellStr_parts hc
  have HC := Hid.in_ (impl_isCellString s w (by omega))
  rw [hc] at HC
  obtain ⟨N, hN⟩ : ∃ N, s.size = 2 * N := ⟨s.size / 2, by omega⟩
  have HN := Hid.in_ hN
  have HD := Hid.in_ (show (⟨(dataTo s N).toArray⟩ : ByteArray) = dataS s by unfold dataS; rw [show s.size / 2 = N by omega])
  have HBY := Hid.in_ (fun w => impl_bytesOf (dataS s) w (N / 8) (by rw [dataS_size]; omega) (by rw [dataS_size]; omega) (dataS_bits hbits))
  have hrem : (s.size : Int) % 16 = 0 := by omega
  have hrem2 : (s.size : Int).tmod 16 = 0 := by rw [Int.tmod_eq_emod_of_nonneg (by omega)]; omega
  have hdv : (s.size : Int) / 2 = (N : Int) := by omega
  generalize dataS s = D at *
  clear hbits hc h16 hN
  go_enter Tryz.func148, Tryz.ntmps148
  go_wp2_with (first
    | (go_at_call 66; refine HC.out.mono ?_; rintro e w1 ⟨rfl, hb1⟩)
    | (at_make; refine wpList_make_own _ rfl _ _ 43 rfl w.heap.size 5 i0 (.int .u8 0) 1 Tryz.underlying43 hti hz0 hz1 .i64 .i64 _ N rfl rfl (by first | rfl | (push_cast; rfl)) (by rw [hz2]; omega) (by unfold maxLen; omega) hb1.size ?_; intro w2 hown hgrow))
  have HO2 := Hid.in_ hown
  have HB2 := Hid.in_ (show Below w.heap.size w w2 from hb1.grown hgrow hb1.size (fun k hk => by cases hk))
  clear hown hgrow hb1
  go_loopg [4, 5] N (fun m v i wr => ∃ k : Nat, k + m = N ∧ i = .int .i64 (1 + 2 * (k : Int)) ∧ Hid (wr.ownsRow w.heap.size 5 1 v k (Lib.byteCells (dataTo s k))) ∧ Hid (Below w.heap.size w wr))
  case atStart => exact ⟨0, by omega, rfl, HO2.out, HB2.out⟩
  case round =>
    obtain ⟨k, hkm, rfl, HI, HB⟩ := hrel
    have HK := Hid.in_ hkm
    clear hkm
    by_cases hlt : k < N
    · obtain ⟨q, hq⟩ : ∃ q, q = 2 * k + 1 := ⟨_, rfl⟩
      have hqs : q < s.size := by have := HN.out; omega
      have hqi : 1 + 2 * (k : Int) = (q : Int) := by omega
      obtain ⟨c, hc⟩ : ∃ c : UInt8, s[q] = c := ⟨_, rfl⟩
      have HW := Hid.in_ (dataTo_next (s := s) (k := k) (c := c) (hq ▸ hqs) (by simp only [← hq]; exact hc))
      clear hq
      go_wp2_with (at_builtin; refine wpList_append_own _ rfl _ _ 43 rfl w.heap.size 5 i0 (.int .u8 0) 1 1 Tryz.underlying43 hti hz0 hz1 hz2 rfl (by decide) _ _ _ rfl (HI.out.alloc _) ⟨wr.heap.size, 0, none⟩ 1 1 [.int .u8 (c.toNat : Int)] rfl rfl (cell_one_new _ _ _) (fun x hx => by simp at hx; subst hx; rfl) (by unfold maxLen; omega) (by omega) (balloc HB.out _).size ?_; intro v6 w6 ho6 hg6 _)
      have HB6 := Hid.in_ (bgrown (balloc HB.out _) (HI.out.alloc _) (Nat.le_refl _) hg6)
      rw [HW.out] at ho6
      have HO6 := Hid.in_ ho6
      clear ho6 hg6
      have hk := HK.out
      go_roundg (gk - 1)
      case measure => omega
      case rel => exact ⟨k + 1, by omega, by go_num, HO6, HB6⟩
    · have hk := HK.out
      obtain rfl : k = N := by omega
      have hge : ¬ (1 + 2 * (k : Int) < (s.size : Int)) := by have := HN.out; omega
      have hcv := conv_own Tryz.underlying43 Tryz.underlying5 Tryz.underlying9 HI.out
      rw [HD.out] at hcv
      go_wp2_with fail
      refine (HBY.out _).mono ?_
      rintro e w9 ⟨rfl, hb9⟩
      go_wp2
      go_ret2
      exact ⟨rfl, HB.out.trans (hb9.mono HB.out.size)⟩
end Go.Proofs.YtlelgpknkgjaeaaGreatDoor
