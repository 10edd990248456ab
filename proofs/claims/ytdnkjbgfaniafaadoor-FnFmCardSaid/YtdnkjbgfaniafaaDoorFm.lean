/- 'fmCells' of the program: the cells of bytes in FM. -/
import Derived.Test.YtdnkjbgfaniafaaDoorMfm
import Derived.BigRegion
import Derived.Deep.RegionLaw
namespace Go.Proofs.YtdnkjbgfaniafaaDoor
open Go.ChangeShapes Go.WideShapes Go.ChangeAt Go.RowKit
set_option linter.unusedSimpArgs false
set_option linter.unusedVariables false
set_option maxRecDepth 4000

/-- The clocks of FM, all of them set. -/
def clkAll : ByteArray := ⟨#[49, 49, 49, 49, 49, 49, 49, 49]⟩
theorem clkAll_get {k : Nat} (h : k < clkAll.size) : clkAll[k] = 49 := by
  have h8 : k < 8 := h
  obtain rfl | rfl | rfl | rfl | rfl | rfl | rfl | rfl : k = 0 ∨ k = 1 ∨ k = 2 ∨ k = 3 ∨ k = 4 ∨ k = 5 ∨ k = 6 ∨ k = 7 := by omega
  all_goals rfl
theorem mod8 (k : Nat) : ((k : Int) % 8) = ((k % 8 : Nat) : Int) := rfl
set_option maxHeartbeats 8000000 in
theorem impl_fmCells (s : ByteArray) (w : World) (hs : s.size ≤ 1048576) :
    Calls Tryd.prog 20 #[.string s, .string clkAll] w fun e w' => e = .returned (.string (encS false false s)) ∧ Below w.heap.size w w' := by
  obtain ⟨i0, hti, hz0, hz1, hz2⟩ := info_parts Tryd.infoByte8
  have HBI := Hid.in_ (impl_bitsOf s w hs)
  have HSZ := Hid.in_ (bitsS_size s)
  have hbs : (bitsS s).size ≤ 8388608 := by rw [bitsS_size]; omega
  have HGET := Hid.in_ (show ∀ k (h : k < (bitsS s).size), ∃ b, (bitsN s s.size)[k]? = some b ∧ (bitsS s)[k] = chr b from fun k h => bitsS_get h)
  have HLEN := Hid.in_ (bitsN_len (s := s) (Nat.le_refl _))
  have HR : Hid (encS false false s = ⟨((encL false false (bitsN s s.size)).map chr).toArray⟩) := rfl
  have HCK := Hid.in_ (show ∀ k (h : k < clkAll.size), clkAll[k] = 49 from fun k h => clkAll_get h)
  have h8 : clkAll.size = 8 := rfl
  generalize clkAll = C at *
  generalize bitsS s = B at *
  generalize bitsN s s.size = L at *
  go_enter Tryd.func20, Tryd.ntmps20
  go_wp2_with fail
  refine HBI.out.mono ?_
  rintro e w0 ⟨rfl, hb0⟩
  have HB0 := Hid.in_ hb0
  clear hb0
  go_wp2_with (at_make; refine wpList_make_own _ rfl _ _ 22 rfl w.heap.size 5 i0 (.int .u8 0) 1 Tryd.underlying22 hti hz0 hz1 .i64 .i64 _ (2 * B.size) rfl rfl (by push_cast; rfl) (by rw [hz2]; omega) (by unfold maxLen; omega) HB0.out.size ?_; intro w1 hown hgrow)
  have HO1 := Hid.in_ hown
  have HB1 := Hid.in_ (show Below w.heap.size w w1 from HB0.out.grown hgrow HB0.out.size (fun k hk => by cases hk))
  clear hown hgrow
  go_loopg [6, 16] B.size (fun m v i wr => ∃ k : Nat, k + m = B.size ∧ i = .int .i64 k ∧ Hid (wr.ownsRow w.heap.size 5 1 v (2 * k) (bitCells (encL false false (L.take k)))) ∧ Hid (Below w.heap.size w wr))
  case atStart => exact ⟨0, by omega, rfl, HO1.out, HB1.out⟩
  case round =>
    obtain ⟨k, hkm, rfl, HI, HB⟩ := hrel
    have HK := Hid.in_ hkm
    clear hkm
    by_cases hlt : k < B.size
    · obtain ⟨b, hb, hc⟩ := HGET.out k hlt
      obtain ⟨r, hr⟩ : ∃ r, r = k % 8 := ⟨_, rfl⟩
      have hr8 : r < C.size := by omega
      have hm : ((k : Int).tmod 8) = (r : Int) := by rw [hr]; rfl
      have hm3 : ((r : Nat) : Int) < 8 := by omega
      have hcr := HCK.out r hr8
      have HT := Hid.in_ (take_next hb)
      have HE := Hid.in_ (encL_snoc false b false (L.take k))
      clear hb hr
      cases b
      · have hc2 : B[k] = 48 := hc
        have HW := Hid.in_ (show bitCells (encL false false (L.take (k + 1))) = bitCells (encL false false (L.take k)) ++ [.int .u8 49, .int .u8 48] by rw [HT.out, HE.out, bitCells_app]; rfl)
        clear hc HT HE
        go_wp2_with fail
        go_region_law (refine step_append_lies _ rfl (.tmp 19) (.tmp 27) 22 rfl w.heap.size 5 i0 (.int .u8 0) 1 1 Tryd.underlying22 hti hz0 hz1 hz2 rfl (by decide) _ _ _ (by simp [Act.eval, Act.put]) (own_drewN (HI.out.alloc _) 1) ⟨wr.heap.size, 0, none⟩ 2 2 [.int .u8 49, .int .u8 48] (by simp [Act.eval, Act.put]) rfl (cell_two wr _ _ _) (fun x hx => by simp at hx; rcases hx with rfl | rfl <;> rfl) (by omega) (by unfold maxLen; omega) (by omega) (balloc HB.out _).size _ rfl ?_; intro gg cp4 w4 ho4 hg4 hat4 hlt4)
        all_goals
          have HB4 := Hid.in_ (bgrown (balloc HB.out _).drew (own_drewN (HI.out.alloc _) 1) (Nat.le_refl _) hg4)
          rw [← HW.out] at ho4
          have HO4 := Hid.in_ ho4
          clear ho4 hg4 hat4 hlt4
          go_wp2
          have hk := HK.out
          go_roundg (gk - 1)
          case measure => omega
          case rel => exact ⟨k + 1, by omega, by go_num, HO4.out, HB4.out⟩
      · have hc2 : B[k] = 49 := hc
        have HW := Hid.in_ (show bitCells (encL false false (L.take (k + 1))) = bitCells (encL false false (L.take k)) ++ [.int .u8 49, .int .u8 49] by rw [HT.out, HE.out, bitCells_app]; rfl)
        clear hc HT HE
        go_wp2_with fail
        go_region_law (refine step_append_lies _ rfl (.tmp 19) (.tmp 27) 22 rfl w.heap.size 5 i0 (.int .u8 0) 1 1 Tryd.underlying22 hti hz0 hz1 hz2 rfl (by decide) _ _ _ (by simp [Act.eval, Act.put]) (own_drewN (HI.out.alloc _) 1) ⟨wr.heap.size, 0, none⟩ 2 2 [.int .u8 49, .int .u8 49] (by simp [Act.eval, Act.put]) rfl (cell_two wr _ _ _) (fun x hx => by simp at hx; rcases hx with rfl | rfl <;> rfl) (by omega) (by unfold maxLen; omega) (by omega) (balloc HB.out _).size _ rfl ?_; intro gg cp4 w4 ho4 hg4 hat4 hlt4)
        all_goals
          have HB4 := Hid.in_ (bgrown (balloc HB.out _).drew (own_drewN (HI.out.alloc _) 1) (Nat.le_refl _) hg4)
          rw [← HW.out] at ho4
          have HO4 := Hid.in_ ho4
          clear ho4 hg4 hat4 hlt4
          go_wp2
          have hk := HK.out
          go_roundg (gk - 1)
          case measure => omega
          case rel => exact ⟨k + 1, by omega, by go_num, HO4.out, HB4.out⟩
    · have hk := HK.out
      obtain rfl : k = B.size := by omega
      have hle : L.length ≤ B.size := by rw [HLEN.out, HSZ.out]; omega
      have HX := HI.out
      rw [List.take_of_length_le hle] at HX
      have hcv := conv_own Tryd.underlying22 Tryd.underlying5 Tryd.underlying9 HX
      clear HX
      go_wp2
      go_ret
      exact ⟨ret_strX HR.out.symm, HB.out⟩
end Go.Proofs.YtdnkjbgfaniafaaDoor
