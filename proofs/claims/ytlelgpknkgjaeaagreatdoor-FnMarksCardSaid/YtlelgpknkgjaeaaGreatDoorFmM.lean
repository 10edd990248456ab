/- 'fmCells' of the program at whatever eight clocks. -/
import Derived.Test.YtlelgpknkgjaeaaGreatDoorMfm
import Derived.Test.YtlelgpknkgjaeaaGreatDoorDist
import Derived.BigRegion
import Derived.Deep.RegionLaw
namespace Go.Proofs.YtlelgpknkgjaeaaGreatDoor
open Go.ChangeShapes Go.WideShapes Go.ChangeAt Go.RowKit
set_option linter.unusedSimpArgs false
set_option linter.unusedVariables false
set_option maxRecDepth 4000

/-- The cells of the first 'k' bits of 'L', each behind its clock. -/
def fmTo (C : ByteArray) (L : List Bool) : Nat → List UInt8
  | 0 => []
  | k + 1 => fmTo C L k ++ [byteAt C (k % 8), chr (L.getD k false)]
theorem fmTo_len (C : ByteArray) (L : List Bool) : ∀ k, (fmTo C L k).length = 2 * k
  | 0 => rfl
  | k + 1 => by
    show (fmTo C L k ++ [byteAt C (k % 8), chr (L.getD k false)]).length = _
    rw [List.length_append, fmTo_len C L k]
    rfl
theorem fm_cell {C : ByteArray} {L : List Bool} {k : Nat} {c d : UInt8} (hc : byteAt C (k % 8) = c) (hd : chr (L.getD k false) = d) :
    Lib.byteCells (fmTo C L (k + 1)) = Lib.byteCells (fmTo C L k) ++ [.int .u8 (c.toNat : Int), .int .u8 (d.toNat : Int)] := by
  show Lib.byteCells (fmTo C L k ++ [byteAt C (k % 8), chr (L.getD k false)]) = _
  rw [hc, hd]
  unfold Lib.byteCells
  rw [List.map_append]
  rfl
def fmS (C s : ByteArray) : ByteArray := ⟨(fmTo C (bitsN s s.size) (bitsS s).size).toArray⟩
set_option maxHeartbeats 8000000 in
theorem impl_fmCells_at (C s : ByteArray) (w : World) (h8 : C.size = 8) (hs : s.size ≤ 1048576) :
    Calls Tryz.prog 90 #[.string s, .string C] w fun e w' => e = .returned (.string (fmS C s)) ∧ Below w.heap.size w w' := by
  obtain ⟨i0, hti, hz0, hz1, hz2⟩ := info_parts Tryz.infoByte8
  have HBI := Hid.in_ (impl_bitsOf s w hs)
  have hbs : (bitsS s).size ≤ 8388608 := by rw [bitsS_size]; omega
  have HGET := Hid.in_ (show ∀ k (h : k < (bitsS s).size), ∃ b, (bitsN s s.size)[k]? = some b ∧ (bitsS s)[k] = chr b from fun k h => bitsS_get h)
  have HR : Hid (fmS C s = ⟨(fmTo C (bitsN s s.size) (bitsS s).size).toArray⟩) := rfl
  generalize bitsS s = B at *
  generalize bitsN s s.size = L at *
  go_enter Tryz.func90, Tryz.ntmps90
  go_wp2_with fail
  refine HBI.out.mono ?_
  rintro e w0 ⟨rfl, hb0⟩
  have HB0 := Hid.in_ hb0
  clear hb0
  go_wp2_with (at_make; refine wpList_make_own _ rfl _ _ 43 rfl w.heap.size 5 i0 (.int .u8 0) 1 Tryz.underlying43 hti hz0 hz1 .i64 .i64 _ (2 * B.size) rfl rfl (by push_cast; rfl) (by rw [hz2]; omega) (by unfold maxLen; omega) HB0.out.size ?_; intro w1 hown hgrow)
  have HO1 := Hid.in_ hown
  have HB1 := Hid.in_ (show Below w.heap.size w w1 from HB0.out.grown hgrow HB0.out.size (fun k hk => by cases hk))
  clear hown hgrow
  go_loopg [6, 16] B.size (fun m v i wr => ∃ k : Nat, k + m = B.size ∧ i = .int .i64 k ∧ Hid (wr.ownsRow w.heap.size 5 1 v (2 * k) (Lib.byteCells (fmTo C L k))) ∧ Hid (Below w.heap.size w wr))
  case atStart => exact ⟨0, by omega, rfl, HO1.out, HB1.out⟩
  case round =>
    obtain ⟨k, hkm, rfl, HI, HB⟩ := hrel
    have HK := Hid.in_ hkm
    clear hkm
    by_cases hlt : k < B.size
    · obtain ⟨b, hb, hc⟩ := HGET.out k hlt
      obtain ⟨r, hr⟩ : ∃ r, r = k % 8 := ⟨_, rfl⟩
      have hr8 : r < C.size := by omega
      have hm : ((k : Int).tmod 8) = (r : Int) := by rw [hr]; rfl
      have hm3 : ((r : Nat) : Int) < 8 := by omega
      obtain ⟨c, hcr⟩ : ∃ c : UInt8, C[r] = c := ⟨_, rfl⟩
      obtain ⟨d, hcd⟩ : ∃ d : UInt8, chr b = d := ⟨_, rfl⟩
      rw [hcd] at hc
      have HW := Hid.in_ (fm_cell (C := C) (L := L) (k := k) (c := c) (d := d) (by rw [← hr, byteAt_eq hr8, hcr]) (by rw [List.getD_eq_getElem?_getD, hb]; exact hcd))
      clear hb hr hcd
      go_wp2_with fail
      go_region_law (refine step_append_lies _ rfl (.tmp 19) (.tmp 27) 43 rfl w.heap.size 5 i0 (.int .u8 0) 1 1 Tryz.underlying43 hti hz0 hz1 hz2 rfl (by decide) _ _ _ (by simp [Act.eval, Act.put]) (own_drewN (HI.out.alloc _) 1) ⟨wr.heap.size, 0, none⟩ 2 2 [.int .u8 (c.toNat : Int), .int .u8 (d.toNat : Int)] (by simp [Act.eval, Act.put]) rfl (cell_two wr _ _ _) (fun x hx => by simp at hx; rcases hx with rfl | rfl <;> rfl) (by omega) (by unfold maxLen; omega) (by omega) (balloc HB.out _).size _ rfl ?_; intro gg cp4 w4 ho4 hg4 hat4 hlt4)
      all_goals
        have HB4 := Hid.in_ (bgrown (balloc HB.out _).drew (own_drewN (HI.out.alloc _) 1) (Nat.le_refl _) hg4)
        rw [← HW.out] at ho4
        have HO4 := Hid.in_ ho4
        clear ho4 hg4 hat4 hlt4
        go_wp2
        have hk := HK.out
        go_roundg (gk - 1)
        case measure => omega
        case rel => exact ⟨k + 1, by omega, by go_num, HO4.out, HB4.out⟩
    · have hk := HK.out
      obtain rfl : k = B.size := by omega
      have hcv := conv_own Tryz.underlying43 Tryz.underlying5 Tryz.underlying9 HI.out
      go_wp2
      go_ret
      exact ⟨ret_strX HR.out.symm, HB.out⟩
end Go.Proofs.YtlelgpknkgjaeaaGreatDoor
