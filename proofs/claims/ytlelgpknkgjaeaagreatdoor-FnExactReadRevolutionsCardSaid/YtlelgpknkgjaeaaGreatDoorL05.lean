/- 'l05Encode' of the reference: the cells of bytes. -/
import Derived.Test.YtlelgpknkgjaeaaGreatDoorMfm
namespace Go.Proofs.YtlelgpknkgjaeaaGreatDoor
open Go.ChangeShapes Go.WideShapes Go.ChangeAt Go.RowKit
set_option linter.unusedSimpArgs false
set_option linter.unusedVariables false
set_option maxRecDepth 4000

theorem spec_l05Bit_yes (w : World) : Calls Tryz.prog 161 #[.bool true] w fun e w' => e = .returned (.int .u8 49) ∧ w = w' := by
  go_enter Tryz.func161, Tryz.ntmps161
  go_wp2
  go_ret
  exact ⟨rfl, rfl⟩
theorem spec_l05Bit_no (w : World) : Calls Tryz.prog 161 #[.bool false] w fun e w' => e = .returned (.int .u8 48) ∧ w = w' := by
  go_enter Tryz.func161, Tryz.ntmps161
  go_wp2
  go_ret
  exact ⟨rfl, rfl⟩
def encV05 (mfm last : Bool) (s : ByteArray) : ByteArray := if (8000 : Int) < 16 * (s.size : Int) then ⟨#[]⟩ else encS mfm last s
set_option maxHeartbeats 16000000 in
theorem spec_l05Encode (s : ByteArray) (last mfm : Bool) (w : World) (hs : s.size ≤ 1048576) :
    Calls Tryz.prog 119 #[.string s, .bool last, .bool mfm] w fun e w' => e = .returned (.string (encV05 mfm last s)) ∧ Below w.heap.size w w' := by
  obtain ⟨i0, hti, hz0, hz1, hz2⟩ := info_parts Tryz.infoByte8
  by_cases h8 : (8000 : Int) < 16 * (s.size : Int)
  · have HR := Hid.in_ (show encV05 mfm last s = ⟨#[]⟩ from if_pos h8)
    go_enter Tryz.func119, Tryz.ntmps119
    go_wp2
    go_ret
    exact ⟨ret_strX HR.out.symm, balloc (Below.refl _ _) _⟩
  have HR := Hid.in_ (show encV05 mfm last s = encS mfm last s from if_neg h8)
  have HR2 : Hid (encS mfm last s = ⟨((encL mfm last (bitsN s s.size)).map chr).toArray⟩) := rfl
  go_enter Tryz.func119, Tryz.ntmps119
  go_wp2
  go_loopg [1, 7, 8] s.size (fun m la v i wr => ∃ k : Nat, k + m = s.size ∧ i = .int .i64 k ∧ la = .bool (lastOf last (bitsN s k)) ∧ Hid (wr.ownsRow w.heap.size 5 1 v (2 * (8 * k)) (bitCells (encL mfm last (bitsN s k)))) ∧ Hid (Below w.heap.size w wr))
  case atStart => exact ⟨0, by omega, rfl, rfl, World.ownsRow_lit w #[] 0 (Nat.le_refl _) (by decide) (by decide), balloc (Below.refl _ _) _⟩
  case round =>
    obtain ⟨k, hkm, rfl, rfl, HI, HB⟩ := hrel
    have HK := Hid.in_ hkm
    clear hkm
    by_cases hlt : k < s.size
    · obtain ⟨c, hc⟩ : ∃ c : UInt8, s[k] = c := ⟨_, rfl⟩
      have HN := Hid.in_ (bitsN_next hlt hc)
      have HP0 := Hid.in_ (show bitsN s k = bitsN s k ++ bitsTo c 0 from (List.append_nil _).symm)
      go_wp2
      obtain ⟨gO, rfl⟩ : ∃ g, g = gk := ⟨_, rfl⟩
      go_loopg [1, 7, 9] 8 (fun m la v i wr => ∃ j : Nat, j + m = 8 ∧ i = .int .i64 (7 - (j : Int)) ∧ la = .bool (lastOf last (bitsN s k ++ bitsTo c j)) ∧ Hid (wr.ownsRow w.heap.size 5 1 v (2 * (8 * k + j)) (bitCells (encL mfm last (bitsN s k ++ bitsTo c j)))) ∧ Hid (Below w.heap.size w wr))
      case atStart => exact ⟨0, by omega, by go_num, by rw [← HP0.out], by rw [← HP0.out]; exact HI.out, HB.out⟩
      case round =>
        obtain ⟨j, hjm, rfl, rfl, HJI, HJB⟩ := hrel
        have HJ := Hid.in_ hjm
        clear hjm
        by_cases hj : j < 8
        · have hcl := c.toNat_lt
          have HP := Hid.in_ (show bitsN s k ++ bitsTo c (j + 1) = (bitsN s k ++ bitsTo c j) ++ [bitAt c j] by rw [bitsTo_next, List.append_assoc])
          have HE := Hid.in_ (encL_snoc mfm (bitAt c j) last (bitsN s k ++ bitsTo c j))
          have HLS := Hid.in_ (lastOf_snoc (bitAt c j) last (bitsN s k ++ bitsTo c j))
          generalize bitsN s k ++ bitsTo c j = P at *
          generalize lastOf last P = la at *
          obtain rfl | rfl | rfl | rfl | rfl | rfl | rfl | rfl : j = 0 ∨ j = 1 ∨ j = 2 ∨ j = 3 ∨ j = 4 ∨ j = 5 ∨ j = 6 ∨ j = 7 := by omega
          · have e0 := low_u8 (c.toNat / 128) (by omega)
            rcases Nat.mod_two_eq_zero_or_one (c.toNat / 128) with hq | hq
            · have e1 : bits BinOp.and .u8 ((c.toNat : Int) / 128) 1 = 0 := e0.trans (by rw [hq]; rfl)
              have HA := Hid.in_ (show bitAt c 0 = false by unfold bitAt; rw [show c.toNat / 2 ^ (7 - 0) = c.toNat / 128 by rfl, hq]; rfl)
              have HW := Hid.in_ (show bitCells (encL mfm last (bitsN s k ++ bitsTo c 1)) = bitCells (encL mfm last P) ++ [.int .u8 ((chr (clk mfm la false)).toNat : Int)] ++ [.int .u8 48] by rw [show (1 : Nat) = 0 + 1 from rfl, HP.out, HE.out, HA.out, bitCells_app, List.append_assoc]; rfl)
              have HLA := Hid.in_ (show lastOf last (bitsN s k ++ bitsTo c 1) = false by rw [show (1 : Nat) = 0 + 1 from rfl, HP.out, HLS.out, HA.out])
              clear e0 hq HA HE HLS HP
              cases mfm <;> cases la
              all_goals
                first
                | (change Hid (_ = _ ++ [Value.int .u8 49] ++ _) at HW
                   go_wp2_with (first
                     | (go_at_call 161; refine (spec_l05Bit_yes _).mono ?_; rintro e w' ⟨rfl, rfl⟩)
                     | (go_at_call 161; refine (spec_l05Bit_no _).mono ?_; rintro e w' ⟨rfl, rfl⟩)
                     | (at_builtin; refine wpList_append_own _ rfl _ _ 43 rfl w.heap.size 5 i0 (.int .u8 0) 1 1 Tryz.underlying43 hti hz0 hz1 hz2 rfl (by decide) _ _ _ rfl (HJI.out.alloc _) ⟨wr.heap.size, 0, none⟩ 1 1 [.int .u8 49] rfl rfl (cell_one_new _ _ _) (fun x hx => by simp at hx; subst hx; rfl) (by unfold maxLen; omega) (by omega) (balloc HJB.out _).size ?_; intro v4 w4 ho4 hg4 _; have HO4 := Hid.in_ ho4; have HB4 := Hid.in_ (bgrown (balloc HJB.out _) (HJI.out.alloc _) (Nat.le_refl _) hg4); clear ho4 hg4)
                     | (at_builtin; refine wpList_append_own _ rfl _ _ 43 rfl w.heap.size 5 i0 (.int .u8 0) 1 1 Tryz.underlying43 hti hz0 hz1 hz2 rfl (by decide) _ _ _ rfl (HO4.out.alloc _) ⟨w4.heap.size, 0, none⟩ 1 1 [.int .u8 48] rfl rfl (cell_one_new _ _ _) (fun x hx => by simp at hx; subst hx; rfl) (by unfold maxLen; omega) (by omega) (balloc HB4.out _).size ?_; intro v6 w6 ho6 hg6 _; have HO6 := Hid.in_ ho6; have HB6 := Hid.in_ (bgrown (balloc HB4.out _) (HO4.out.alloc _) (Nat.le_refl _) hg6); clear ho6 hg6))
                   have hj2 := HJ.out
                   go_roundg (gk - 1)
                   case measure => omega
                   case rel => exact ⟨1, by omega, by go_num, by rw [HLA.out], by rw [HW.out]; exact HO6.out, HB6.out⟩)
                | (change Hid (_ = _ ++ [Value.int .u8 48] ++ _) at HW
                   go_wp2_with (first
                     | (go_at_call 161; refine (spec_l05Bit_yes _).mono ?_; rintro e w' ⟨rfl, rfl⟩)
                     | (go_at_call 161; refine (spec_l05Bit_no _).mono ?_; rintro e w' ⟨rfl, rfl⟩)
                     | (at_builtin; refine wpList_append_own _ rfl _ _ 43 rfl w.heap.size 5 i0 (.int .u8 0) 1 1 Tryz.underlying43 hti hz0 hz1 hz2 rfl (by decide) _ _ _ rfl (HJI.out.alloc _) ⟨wr.heap.size, 0, none⟩ 1 1 [.int .u8 48] rfl rfl (cell_one_new _ _ _) (fun x hx => by simp at hx; subst hx; rfl) (by unfold maxLen; omega) (by omega) (balloc HJB.out _).size ?_; intro v4 w4 ho4 hg4 _; have HO4 := Hid.in_ ho4; have HB4 := Hid.in_ (bgrown (balloc HJB.out _) (HJI.out.alloc _) (Nat.le_refl _) hg4); clear ho4 hg4)
                     | (at_builtin; refine wpList_append_own _ rfl _ _ 43 rfl w.heap.size 5 i0 (.int .u8 0) 1 1 Tryz.underlying43 hti hz0 hz1 hz2 rfl (by decide) _ _ _ rfl (HO4.out.alloc _) ⟨w4.heap.size, 0, none⟩ 1 1 [.int .u8 48] rfl rfl (cell_one_new _ _ _) (fun x hx => by simp at hx; subst hx; rfl) (by unfold maxLen; omega) (by omega) (balloc HB4.out _).size ?_; intro v6 w6 ho6 hg6 _; have HO6 := Hid.in_ ho6; have HB6 := Hid.in_ (bgrown (balloc HB4.out _) (HO4.out.alloc _) (Nat.le_refl _) hg6); clear ho6 hg6))
                   have hj2 := HJ.out
                   go_roundg (gk - 1)
                   case measure => omega
                   case rel => exact ⟨1, by omega, by go_num, by rw [HLA.out], by rw [HW.out]; exact HO6.out, HB6.out⟩)
            · have e1 : bits BinOp.and .u8 ((c.toNat : Int) / 128) 1 = 1 := e0.trans (by rw [hq]; rfl)
              have HA := Hid.in_ (show bitAt c 0 = true by unfold bitAt; rw [show c.toNat / 2 ^ (7 - 0) = c.toNat / 128 by rfl, hq]; rfl)
              have HW := Hid.in_ (show bitCells (encL mfm last (bitsN s k ++ bitsTo c 1)) = bitCells (encL mfm last P) ++ [.int .u8 ((chr (clk mfm la true)).toNat : Int)] ++ [.int .u8 49] by rw [show (1 : Nat) = 0 + 1 from rfl, HP.out, HE.out, HA.out, bitCells_app, List.append_assoc]; rfl)
              have HLA := Hid.in_ (show lastOf last (bitsN s k ++ bitsTo c 1) = true by rw [show (1 : Nat) = 0 + 1 from rfl, HP.out, HLS.out, HA.out])
              clear e0 hq HA HE HLS HP
              cases mfm <;> cases la
              all_goals
                first
                | (change Hid (_ = _ ++ [Value.int .u8 49] ++ _) at HW
                   go_wp2_with (first
                     | (go_at_call 161; refine (spec_l05Bit_yes _).mono ?_; rintro e w' ⟨rfl, rfl⟩)
                     | (go_at_call 161; refine (spec_l05Bit_no _).mono ?_; rintro e w' ⟨rfl, rfl⟩)
                     | (at_builtin; refine wpList_append_own _ rfl _ _ 43 rfl w.heap.size 5 i0 (.int .u8 0) 1 1 Tryz.underlying43 hti hz0 hz1 hz2 rfl (by decide) _ _ _ rfl (HJI.out.alloc _) ⟨wr.heap.size, 0, none⟩ 1 1 [.int .u8 49] rfl rfl (cell_one_new _ _ _) (fun x hx => by simp at hx; subst hx; rfl) (by unfold maxLen; omega) (by omega) (balloc HJB.out _).size ?_; intro v4 w4 ho4 hg4 _; have HO4 := Hid.in_ ho4; have HB4 := Hid.in_ (bgrown (balloc HJB.out _) (HJI.out.alloc _) (Nat.le_refl _) hg4); clear ho4 hg4)
                     | (at_builtin; refine wpList_append_own _ rfl _ _ 43 rfl w.heap.size 5 i0 (.int .u8 0) 1 1 Tryz.underlying43 hti hz0 hz1 hz2 rfl (by decide) _ _ _ rfl (HO4.out.alloc _) ⟨w4.heap.size, 0, none⟩ 1 1 [.int .u8 49] rfl rfl (cell_one_new _ _ _) (fun x hx => by simp at hx; subst hx; rfl) (by unfold maxLen; omega) (by omega) (balloc HB4.out _).size ?_; intro v6 w6 ho6 hg6 _; have HO6 := Hid.in_ ho6; have HB6 := Hid.in_ (bgrown (balloc HB4.out _) (HO4.out.alloc _) (Nat.le_refl _) hg6); clear ho6 hg6))
                   have hj2 := HJ.out
                   go_roundg (gk - 1)
                   case measure => omega
                   case rel => exact ⟨1, by omega, by go_num, by rw [HLA.out], by rw [HW.out]; exact HO6.out, HB6.out⟩)
                | (change Hid (_ = _ ++ [Value.int .u8 48] ++ _) at HW
                   go_wp2_with (first
                     | (go_at_call 161; refine (spec_l05Bit_yes _).mono ?_; rintro e w' ⟨rfl, rfl⟩)
                     | (go_at_call 161; refine (spec_l05Bit_no _).mono ?_; rintro e w' ⟨rfl, rfl⟩)
                     | (at_builtin; refine wpList_append_own _ rfl _ _ 43 rfl w.heap.size 5 i0 (.int .u8 0) 1 1 Tryz.underlying43 hti hz0 hz1 hz2 rfl (by decide) _ _ _ rfl (HJI.out.alloc _) ⟨wr.heap.size, 0, none⟩ 1 1 [.int .u8 48] rfl rfl (cell_one_new _ _ _) (fun x hx => by simp at hx; subst hx; rfl) (by unfold maxLen; omega) (by omega) (balloc HJB.out _).size ?_; intro v4 w4 ho4 hg4 _; have HO4 := Hid.in_ ho4; have HB4 := Hid.in_ (bgrown (balloc HJB.out _) (HJI.out.alloc _) (Nat.le_refl _) hg4); clear ho4 hg4)
                     | (at_builtin; refine wpList_append_own _ rfl _ _ 43 rfl w.heap.size 5 i0 (.int .u8 0) 1 1 Tryz.underlying43 hti hz0 hz1 hz2 rfl (by decide) _ _ _ rfl (HO4.out.alloc _) ⟨w4.heap.size, 0, none⟩ 1 1 [.int .u8 49] rfl rfl (cell_one_new _ _ _) (fun x hx => by simp at hx; subst hx; rfl) (by unfold maxLen; omega) (by omega) (balloc HB4.out _).size ?_; intro v6 w6 ho6 hg6 _; have HO6 := Hid.in_ ho6; have HB6 := Hid.in_ (bgrown (balloc HB4.out _) (HO4.out.alloc _) (Nat.le_refl _) hg6); clear ho6 hg6))
                   have hj2 := HJ.out
                   go_roundg (gk - 1)
                   case measure => omega
                   case rel => exact ⟨1, by omega, by go_num, by rw [HLA.out], by rw [HW.out]; exact HO6.out, HB6.out⟩)
          · have e0 := low_u8 (c.toNat / 64) (by omega)
            rcases Nat.mod_two_eq_zero_or_one (c.toNat / 64) with hq | hq
            · have e1 : bits BinOp.and .u8 ((c.toNat : Int) / 64) 1 = 0 := e0.trans (by rw [hq]; rfl)
              have HA := Hid.in_ (show bitAt c 1 = false by unfold bitAt; rw [show c.toNat / 2 ^ (7 - 1) = c.toNat / 64 by rfl, hq]; rfl)
              have HW := Hid.in_ (show bitCells (encL mfm last (bitsN s k ++ bitsTo c 2)) = bitCells (encL mfm last P) ++ [.int .u8 ((chr (clk mfm la false)).toNat : Int)] ++ [.int .u8 48] by rw [show (2 : Nat) = 1 + 1 from rfl, HP.out, HE.out, HA.out, bitCells_app, List.append_assoc]; rfl)
              have HLA := Hid.in_ (show lastOf last (bitsN s k ++ bitsTo c 2) = false by rw [show (2 : Nat) = 1 + 1 from rfl, HP.out, HLS.out, HA.out])
              clear e0 hq HA HE HLS HP
              cases mfm <;> cases la
              all_goals
                first
                | (change Hid (_ = _ ++ [Value.int .u8 49] ++ _) at HW
                   go_wp2_with (first
                     | (go_at_call 161; refine (spec_l05Bit_yes _).mono ?_; rintro e w' ⟨rfl, rfl⟩)
                     | (go_at_call 161; refine (spec_l05Bit_no _).mono ?_; rintro e w' ⟨rfl, rfl⟩)
                     | (at_builtin; refine wpList_append_own _ rfl _ _ 43 rfl w.heap.size 5 i0 (.int .u8 0) 1 1 Tryz.underlying43 hti hz0 hz1 hz2 rfl (by decide) _ _ _ rfl (HJI.out.alloc _) ⟨wr.heap.size, 0, none⟩ 1 1 [.int .u8 49] rfl rfl (cell_one_new _ _ _) (fun x hx => by simp at hx; subst hx; rfl) (by unfold maxLen; omega) (by omega) (balloc HJB.out _).size ?_; intro v4 w4 ho4 hg4 _; have HO4 := Hid.in_ ho4; have HB4 := Hid.in_ (bgrown (balloc HJB.out _) (HJI.out.alloc _) (Nat.le_refl _) hg4); clear ho4 hg4)
                     | (at_builtin; refine wpList_append_own _ rfl _ _ 43 rfl w.heap.size 5 i0 (.int .u8 0) 1 1 Tryz.underlying43 hti hz0 hz1 hz2 rfl (by decide) _ _ _ rfl (HO4.out.alloc _) ⟨w4.heap.size, 0, none⟩ 1 1 [.int .u8 48] rfl rfl (cell_one_new _ _ _) (fun x hx => by simp at hx; subst hx; rfl) (by unfold maxLen; omega) (by omega) (balloc HB4.out _).size ?_; intro v6 w6 ho6 hg6 _; have HO6 := Hid.in_ ho6; have HB6 := Hid.in_ (bgrown (balloc HB4.out _) (HO4.out.alloc _) (Nat.le_refl _) hg6); clear ho6 hg6))
                   have hj2 := HJ.out
                   go_roundg (gk - 1)
                   case measure => omega
                   case rel => exact ⟨2, by omega, by go_num, by rw [HLA.out], by rw [HW.out]; exact HO6.out, HB6.out⟩)
                | (change Hid (_ = _ ++ [Value.int .u8 48] ++ _) at HW
                   go_wp2_with (first
                     | (go_at_call 161; refine (spec_l05Bit_yes _).mono ?_; rintro e w' ⟨rfl, rfl⟩)
                     | (go_at_call 161; refine (spec_l05Bit_no _).mono ?_; rintro e w' ⟨rfl, rfl⟩)
                     | (at_builtin; refine wpList_append_own _ rfl _ _ 43 rfl w.heap.size 5 i0 (.int .u8 0) 1 1 Tryz.underlying43 hti hz0 hz1 hz2 rfl (by decide) _ _ _ rfl (HJI.out.alloc _) ⟨wr.heap.size, 0, none⟩ 1 1 [.int .u8 48] rfl rfl (cell_one_new _ _ _) (fun x hx => by simp at hx; subst hx; rfl) (by unfold maxLen; omega) (by omega) (balloc HJB.out _).size ?_; intro v4 w4 ho4 hg4 _; have HO4 := Hid.in_ ho4; have HB4 := Hid.in_ (bgrown (balloc HJB.out _) (HJI.out.alloc _) (Nat.le_refl _) hg4); clear ho4 hg4)
                     | (at_builtin; refine wpList_append_own _ rfl _ _ 43 rfl w.heap.size 5 i0 (.int .u8 0) 1 1 Tryz.underlying43 hti hz0 hz1 hz2 rfl (by decide) _ _ _ rfl (HO4.out.alloc _) ⟨w4.heap.size, 0, none⟩ 1 1 [.int .u8 48] rfl rfl (cell_one_new _ _ _) (fun x hx => by simp at hx; subst hx; rfl) (by unfold maxLen; omega) (by omega) (balloc HB4.out _).size ?_; intro v6 w6 ho6 hg6 _; have HO6 := Hid.in_ ho6; have HB6 := Hid.in_ (bgrown (balloc HB4.out _) (HO4.out.alloc _) (Nat.le_refl _) hg6); clear ho6 hg6))
                   have hj2 := HJ.out
                   go_roundg (gk - 1)
                   case measure => omega
                   case rel => exact ⟨2, by omega, by go_num, by rw [HLA.out], by rw [HW.out]; exact HO6.out, HB6.out⟩)
            · have e1 : bits BinOp.and .u8 ((c.toNat : Int) / 64) 1 = 1 := e0.trans (by rw [hq]; rfl)
              have HA := Hid.in_ (show bitAt c 1 = true by unfold bitAt; rw [show c.toNat / 2 ^ (7 - 1) = c.toNat / 64 by rfl, hq]; rfl)
              have HW := Hid.in_ (show bitCells (encL mfm last (bitsN s k ++ bitsTo c 2)) = bitCells (encL mfm last P) ++ [.int .u8 ((chr (clk mfm la true)).toNat : Int)] ++ [.int .u8 49] by rw [show (2 : Nat) = 1 + 1 from rfl, HP.out, HE.out, HA.out, bitCells_app, List.append_assoc]; rfl)
              have HLA := Hid.in_ (show lastOf last (bitsN s k ++ bitsTo c 2) = true by rw [show (2 : Nat) = 1 + 1 from rfl, HP.out, HLS.out, HA.out])
              clear e0 hq HA HE HLS HP
              cases mfm <;> cases la
              all_goals
                first
                | (change Hid (_ = _ ++ [Value.int .u8 49] ++ _) at HW
                   go_wp2_with (first
                     | (go_at_call 161; refine (spec_l05Bit_yes _).mono ?_; rintro e w' ⟨rfl, rfl⟩)
                     | (go_at_call 161; refine (spec_l05Bit_no _).mono ?_; rintro e w' ⟨rfl, rfl⟩)
                     | (at_builtin; refine wpList_append_own _ rfl _ _ 43 rfl w.heap.size 5 i0 (.int .u8 0) 1 1 Tryz.underlying43 hti hz0 hz1 hz2 rfl (by decide) _ _ _ rfl (HJI.out.alloc _) ⟨wr.heap.size, 0, none⟩ 1 1 [.int .u8 49] rfl rfl (cell_one_new _ _ _) (fun x hx => by simp at hx; subst hx; rfl) (by unfold maxLen; omega) (by omega) (balloc HJB.out _).size ?_; intro v4 w4 ho4 hg4 _; have HO4 := Hid.in_ ho4; have HB4 := Hid.in_ (bgrown (balloc HJB.out _) (HJI.out.alloc _) (Nat.le_refl _) hg4); clear ho4 hg4)
                     | (at_builtin; refine wpList_append_own _ rfl _ _ 43 rfl w.heap.size 5 i0 (.int .u8 0) 1 1 Tryz.underlying43 hti hz0 hz1 hz2 rfl (by decide) _ _ _ rfl (HO4.out.alloc _) ⟨w4.heap.size, 0, none⟩ 1 1 [.int .u8 49] rfl rfl (cell_one_new _ _ _) (fun x hx => by simp at hx; subst hx; rfl) (by unfold maxLen; omega) (by omega) (balloc HB4.out _).size ?_; intro v6 w6 ho6 hg6 _; have HO6 := Hid.in_ ho6; have HB6 := Hid.in_ (bgrown (balloc HB4.out _) (HO4.out.alloc _) (Nat.le_refl _) hg6); clear ho6 hg6))
                   have hj2 := HJ.out
                   go_roundg (gk - 1)
                   case measure => omega
                   case rel => exact ⟨2, by omega, by go_num, by rw [HLA.out], by rw [HW.out]; exact HO6.out, HB6.out⟩)
                | (change Hid (_ = _ ++ [Value.int .u8 48] ++ _) at HW
                   go_wp2_with (first
                     | (go_at_call 161; refine (spec_l05Bit_yes _).mono ?_; rintro e w' ⟨rfl, rfl⟩)
                     | (go_at_call 161; refine (spec_l05Bit_no _).mono ?_; rintro e w' ⟨rfl, rfl⟩)
                     | (at_builtin; refine wpList_append_own _ rfl _ _ 43 rfl w.heap.size 5 i0 (.int .u8 0) 1 1 Tryz.underlying43 hti hz0 hz1 hz2 rfl (by decide) _ _ _ rfl (HJI.out.alloc _) ⟨wr.heap.size, 0, none⟩ 1 1 [.int .u8 48] rfl rfl (cell_one_new _ _ _) (fun x hx => by simp at hx; subst hx; rfl) (by unfold maxLen; omega) (by omega) (balloc HJB.out _).size ?_; intro v4 w4 ho4 hg4 _; have HO4 := Hid.in_ ho4; have HB4 := Hid.in_ (bgrown (balloc HJB.out _) (HJI.out.alloc _) (Nat.le_refl _) hg4); clear ho4 hg4)
                     | (at_builtin; refine wpList_append_own _ rfl _ _ 43 rfl w.heap.size 5 i0 (.int .u8 0) 1 1 Tryz.underlying43 hti hz0 hz1 hz2 rfl (by decide) _ _ _ rfl (HO4.out.alloc _) ⟨w4.heap.size, 0, none⟩ 1 1 [.int .u8 49] rfl rfl (cell_one_new _ _ _) (fun x hx => by simp at hx; subst hx; rfl) (by unfold maxLen; omega) (by omega) (balloc HB4.out _).size ?_; intro v6 w6 ho6 hg6 _; have HO6 := Hid.in_ ho6; have HB6 := Hid.in_ (bgrown (balloc HB4.out _) (HO4.out.alloc _) (Nat.le_refl _) hg6); clear ho6 hg6))
                   have hj2 := HJ.out
                   go_roundg (gk - 1)
                   case measure => omega
                   case rel => exact ⟨2, by omega, by go_num, by rw [HLA.out], by rw [HW.out]; exact HO6.out, HB6.out⟩)
          · have e0 := low_u8 (c.toNat / 32) (by omega)
            rcases Nat.mod_two_eq_zero_or_one (c.toNat / 32) with hq | hq
            · have e1 : bits BinOp.and .u8 ((c.toNat : Int) / 32) 1 = 0 := e0.trans (by rw [hq]; rfl)
              have HA := Hid.in_ (show bitAt c 2 = false by unfold bitAt; rw [show c.toNat / 2 ^ (7 - 2) = c.toNat / 32 by rfl, hq]; rfl)
              have HW := Hid.in_ (show bitCells (encL mfm last (bitsN s k ++ bitsTo c 3)) = bitCells (encL mfm last P) ++ [.int .u8 ((chr (clk mfm la false)).toNat : Int)] ++ [.int .u8 48] by rw [show (3 : Nat) = 2 + 1 from rfl, HP.out, HE.out, HA.out, bitCells_app, List.append_assoc]; rfl)
              have HLA := Hid.in_ (show lastOf last (bitsN s k ++ bitsTo c 3) = false by rw [show (3 : Nat) = 2 + 1 from rfl, HP.out, HLS.out, HA.out])
              clear e0 hq HA HE HLS HP
              cases mfm <;> cases la
              all_goals
                first
                | (change Hid (_ = _ ++ [Value.int .u8 49] ++ _) at HW
                   go_wp2_with (first
                     | (go_at_call 161; refine (spec_l05Bit_yes _).mono ?_; rintro e w' ⟨rfl, rfl⟩)
                     | (go_at_call 161; refine (spec_l05Bit_no _).mono ?_; rintro e w' ⟨rfl, rfl⟩)
                     | (at_builtin; refine wpList_append_own _ rfl _ _ 43 rfl w.heap.size 5 i0 (.int .u8 0) 1 1 Tryz.underlying43 hti hz0 hz1 hz2 rfl (by decide) _ _ _ rfl (HJI.out.alloc _) ⟨wr.heap.size, 0, none⟩ 1 1 [.int .u8 49] rfl rfl (cell_one_new _ _ _) (fun x hx => by simp at hx; subst hx; rfl) (by unfold maxLen; omega) (by omega) (balloc HJB.out _).size ?_; intro v4 w4 ho4 hg4 _; have HO4 := Hid.in_ ho4; have HB4 := Hid.in_ (bgrown (balloc HJB.out _) (HJI.out.alloc _) (Nat.le_refl _) hg4); clear ho4 hg4)
                     | (at_builtin; refine wpList_append_own _ rfl _ _ 43 rfl w.heap.size 5 i0 (.int .u8 0) 1 1 Tryz.underlying43 hti hz0 hz1 hz2 rfl (by decide) _ _ _ rfl (HO4.out.alloc _) ⟨w4.heap.size, 0, none⟩ 1 1 [.int .u8 48] rfl rfl (cell_one_new _ _ _) (fun x hx => by simp at hx; subst hx; rfl) (by unfold maxLen; omega) (by omega) (balloc HB4.out _).size ?_; intro v6 w6 ho6 hg6 _; have HO6 := Hid.in_ ho6; have HB6 := Hid.in_ (bgrown (balloc HB4.out _) (HO4.out.alloc _) (Nat.le_refl _) hg6); clear ho6 hg6))
                   have hj2 := HJ.out
                   go_roundg (gk - 1)
                   case measure => omega
                   case rel => exact ⟨3, by omega, by go_num, by rw [HLA.out], by rw [HW.out]; exact HO6.out, HB6.out⟩)
                | (change Hid (_ = _ ++ [Value.int .u8 48] ++ _) at HW
                   go_wp2_with (first
                     | (go_at_call 161; refine (spec_l05Bit_yes _).mono ?_; rintro e w' ⟨rfl, rfl⟩)
                     | (go_at_call 161; refine (spec_l05Bit_no _).mono ?_; rintro e w' ⟨rfl, rfl⟩)
                     | (at_builtin; refine wpList_append_own _ rfl _ _ 43 rfl w.heap.size 5 i0 (.int .u8 0) 1 1 Tryz.underlying43 hti hz0 hz1 hz2 rfl (by decide) _ _ _ rfl (HJI.out.alloc _) ⟨wr.heap.size, 0, none⟩ 1 1 [.int .u8 48] rfl rfl (cell_one_new _ _ _) (fun x hx => by simp at hx; subst hx; rfl) (by unfold maxLen; omega) (by omega) (balloc HJB.out _).size ?_; intro v4 w4 ho4 hg4 _; have HO4 := Hid.in_ ho4; have HB4 := Hid.in_ (bgrown (balloc HJB.out _) (HJI.out.alloc _) (Nat.le_refl _) hg4); clear ho4 hg4)
                     | (at_builtin; refine wpList_append_own _ rfl _ _ 43 rfl w.heap.size 5 i0 (.int .u8 0) 1 1 Tryz.underlying43 hti hz0 hz1 hz2 rfl (by decide) _ _ _ rfl (HO4.out.alloc _) ⟨w4.heap.size, 0, none⟩ 1 1 [.int .u8 48] rfl rfl (cell_one_new _ _ _) (fun x hx => by simp at hx; subst hx; rfl) (by unfold maxLen; omega) (by omega) (balloc HB4.out _).size ?_; intro v6 w6 ho6 hg6 _; have HO6 := Hid.in_ ho6; have HB6 := Hid.in_ (bgrown (balloc HB4.out _) (HO4.out.alloc _) (Nat.le_refl _) hg6); clear ho6 hg6))
                   have hj2 := HJ.out
                   go_roundg (gk - 1)
                   case measure => omega
                   case rel => exact ⟨3, by omega, by go_num, by rw [HLA.out], by rw [HW.out]; exact HO6.out, HB6.out⟩)
            · have e1 : bits BinOp.and .u8 ((c.toNat : Int) / 32) 1 = 1 := e0.trans (by rw [hq]; rfl)
              have HA := Hid.in_ (show bitAt c 2 = true by unfold bitAt; rw [show c.toNat / 2 ^ (7 - 2) = c.toNat / 32 by rfl, hq]; rfl)
              have HW := Hid.in_ (show bitCells (encL mfm last (bitsN s k ++ bitsTo c 3)) = bitCells (encL mfm last P) ++ [.int .u8 ((chr (clk mfm la true)).toNat : Int)] ++ [.int .u8 49] by rw [show (3 : Nat) = 2 + 1 from rfl, HP.out, HE.out, HA.out, bitCells_app, List.append_assoc]; rfl)
              have HLA := Hid.in_ (show lastOf last (bitsN s k ++ bitsTo c 3) = true by rw [show (3 : Nat) = 2 + 1 from rfl, HP.out, HLS.out, HA.out])
              clear e0 hq HA HE HLS HP
              cases mfm <;> cases la
              all_goals
                first
                | (change Hid (_ = _ ++ [Value.int .u8 49] ++ _) at HW
                   go_wp2_with (first
                     | (go_at_call 161; refine (spec_l05Bit_yes _).mono ?_; rintro e w' ⟨rfl, rfl⟩)
                     | (go_at_call 161; refine (spec_l05Bit_no _).mono ?_; rintro e w' ⟨rfl, rfl⟩)
                     | (at_builtin; refine wpList_append_own _ rfl _ _ 43 rfl w.heap.size 5 i0 (.int .u8 0) 1 1 Tryz.underlying43 hti hz0 hz1 hz2 rfl (by decide) _ _ _ rfl (HJI.out.alloc _) ⟨wr.heap.size, 0, none⟩ 1 1 [.int .u8 49] rfl rfl (cell_one_new _ _ _) (fun x hx => by simp at hx; subst hx; rfl) (by unfold maxLen; omega) (by omega) (balloc HJB.out _).size ?_; intro v4 w4 ho4 hg4 _; have HO4 := Hid.in_ ho4; have HB4 := Hid.in_ (bgrown (balloc HJB.out _) (HJI.out.alloc _) (Nat.le_refl _) hg4); clear ho4 hg4)
                     | (at_builtin; refine wpList_append_own _ rfl _ _ 43 rfl w.heap.size 5 i0 (.int .u8 0) 1 1 Tryz.underlying43 hti hz0 hz1 hz2 rfl (by decide) _ _ _ rfl (HO4.out.alloc _) ⟨w4.heap.size, 0, none⟩ 1 1 [.int .u8 49] rfl rfl (cell_one_new _ _ _) (fun x hx => by simp at hx; subst hx; rfl) (by unfold maxLen; omega) (by omega) (balloc HB4.out _).size ?_; intro v6 w6 ho6 hg6 _; have HO6 := Hid.in_ ho6; have HB6 := Hid.in_ (bgrown (balloc HB4.out _) (HO4.out.alloc _) (Nat.le_refl _) hg6); clear ho6 hg6))
                   have hj2 := HJ.out
                   go_roundg (gk - 1)
                   case measure => omega
                   case rel => exact ⟨3, by omega, by go_num, by rw [HLA.out], by rw [HW.out]; exact HO6.out, HB6.out⟩)
                | (change Hid (_ = _ ++ [Value.int .u8 48] ++ _) at HW
                   go_wp2_with (first
                     | (go_at_call 161; refine (spec_l05Bit_yes _).mono ?_; rintro e w' ⟨rfl, rfl⟩)
                     | (go_at_call 161; refine (spec_l05Bit_no _).mono ?_; rintro e w' ⟨rfl, rfl⟩)
                     | (at_builtin; refine wpList_append_own _ rfl _ _ 43 rfl w.heap.size 5 i0 (.int .u8 0) 1 1 Tryz.underlying43 hti hz0 hz1 hz2 rfl (by decide) _ _ _ rfl (HJI.out.alloc _) ⟨wr.heap.size, 0, none⟩ 1 1 [.int .u8 48] rfl rfl (cell_one_new _ _ _) (fun x hx => by simp at hx; subst hx; rfl) (by unfold maxLen; omega) (by omega) (balloc HJB.out _).size ?_; intro v4 w4 ho4 hg4 _; have HO4 := Hid.in_ ho4; have HB4 := Hid.in_ (bgrown (balloc HJB.out _) (HJI.out.alloc _) (Nat.le_refl _) hg4); clear ho4 hg4)
                     | (at_builtin; refine wpList_append_own _ rfl _ _ 43 rfl w.heap.size 5 i0 (.int .u8 0) 1 1 Tryz.underlying43 hti hz0 hz1 hz2 rfl (by decide) _ _ _ rfl (HO4.out.alloc _) ⟨w4.heap.size, 0, none⟩ 1 1 [.int .u8 49] rfl rfl (cell_one_new _ _ _) (fun x hx => by simp at hx; subst hx; rfl) (by unfold maxLen; omega) (by omega) (balloc HB4.out _).size ?_; intro v6 w6 ho6 hg6 _; have HO6 := Hid.in_ ho6; have HB6 := Hid.in_ (bgrown (balloc HB4.out _) (HO4.out.alloc _) (Nat.le_refl _) hg6); clear ho6 hg6))
                   have hj2 := HJ.out
                   go_roundg (gk - 1)
                   case measure => omega
                   case rel => exact ⟨3, by omega, by go_num, by rw [HLA.out], by rw [HW.out]; exact HO6.out, HB6.out⟩)
          · have e0 := low_u8 (c.toNat / 16) (by omega)
            rcases Nat.mod_two_eq_zero_or_one (c.toNat / 16) with hq | hq
            · have e1 : bits BinOp.and .u8 ((c.toNat : Int) / 16) 1 = 0 := e0.trans (by rw [hq]; rfl)
              have HA := Hid.in_ (show bitAt c 3 = false by unfold bitAt; rw [show c.toNat / 2 ^ (7 - 3) = c.toNat / 16 by rfl, hq]; rfl)
              have HW := Hid.in_ (show bitCells (encL mfm last (bitsN s k ++ bitsTo c 4)) = bitCells (encL mfm last P) ++ [.int .u8 ((chr (clk mfm la false)).toNat : Int)] ++ [.int .u8 48] by rw [show (4 : Nat) = 3 + 1 from rfl, HP.out, HE.out, HA.out, bitCells_app, List.append_assoc]; rfl)
              have HLA := Hid.in_ (show lastOf last (bitsN s k ++ bitsTo c 4) = false by rw [show (4 : Nat) = 3 + 1 from rfl, HP.out, HLS.out, HA.out])
              clear e0 hq HA HE HLS HP
              cases mfm <;> cases la
              all_goals
                first
                | (change Hid (_ = _ ++ [Value.int .u8 49] ++ _) at HW
                   go_wp2_with (first
                     | (go_at_call 161; refine (spec_l05Bit_yes _).mono ?_; rintro e w' ⟨rfl, rfl⟩)
                     | (go_at_call 161; refine (spec_l05Bit_no _).mono ?_; rintro e w' ⟨rfl, rfl⟩)
                     | (at_builtin; refine wpList_append_own _ rfl _ _ 43 rfl w.heap.size 5 i0 (.int .u8 0) 1 1 Tryz.underlying43 hti hz0 hz1 hz2 rfl (by decide) _ _ _ rfl (HJI.out.alloc _) ⟨wr.heap.size, 0, none⟩ 1 1 [.int .u8 49] rfl rfl (cell_one_new _ _ _) (fun x hx => by simp at hx; subst hx; rfl) (by unfold maxLen; omega) (by omega) (balloc HJB.out _).size ?_; intro v4 w4 ho4 hg4 _; have HO4 := Hid.in_ ho4; have HB4 := Hid.in_ (bgrown (balloc HJB.out _) (HJI.out.alloc _) (Nat.le_refl _) hg4); clear ho4 hg4)
                     | (at_builtin; refine wpList_append_own _ rfl _ _ 43 rfl w.heap.size 5 i0 (.int .u8 0) 1 1 Tryz.underlying43 hti hz0 hz1 hz2 rfl (by decide) _ _ _ rfl (HO4.out.alloc _) ⟨w4.heap.size, 0, none⟩ 1 1 [.int .u8 48] rfl rfl (cell_one_new _ _ _) (fun x hx => by simp at hx; subst hx; rfl) (by unfold maxLen; omega) (by omega) (balloc HB4.out _).size ?_; intro v6 w6 ho6 hg6 _; have HO6 := Hid.in_ ho6; have HB6 := Hid.in_ (bgrown (balloc HB4.out _) (HO4.out.alloc _) (Nat.le_refl _) hg6); clear ho6 hg6))
                   have hj2 := HJ.out
                   go_roundg (gk - 1)
                   case measure => omega
                   case rel => exact ⟨4, by omega, by go_num, by rw [HLA.out], by rw [HW.out]; exact HO6.out, HB6.out⟩)
                | (change Hid (_ = _ ++ [Value.int .u8 48] ++ _) at HW
                   go_wp2_with (first
                     | (go_at_call 161; refine (spec_l05Bit_yes _).mono ?_; rintro e w' ⟨rfl, rfl⟩)
                     | (go_at_call 161; refine (spec_l05Bit_no _).mono ?_; rintro e w' ⟨rfl, rfl⟩)
                     | (at_builtin; refine wpList_append_own _ rfl _ _ 43 rfl w.heap.size 5 i0 (.int .u8 0) 1 1 Tryz.underlying43 hti hz0 hz1 hz2 rfl (by decide) _ _ _ rfl (HJI.out.alloc _) ⟨wr.heap.size, 0, none⟩ 1 1 [.int .u8 48] rfl rfl (cell_one_new _ _ _) (fun x hx => by simp at hx; subst hx; rfl) (by unfold maxLen; omega) (by omega) (balloc HJB.out _).size ?_; intro v4 w4 ho4 hg4 _; have HO4 := Hid.in_ ho4; have HB4 := Hid.in_ (bgrown (balloc HJB.out _) (HJI.out.alloc _) (Nat.le_refl _) hg4); clear ho4 hg4)
                     | (at_builtin; refine wpList_append_own _ rfl _ _ 43 rfl w.heap.size 5 i0 (.int .u8 0) 1 1 Tryz.underlying43 hti hz0 hz1 hz2 rfl (by decide) _ _ _ rfl (HO4.out.alloc _) ⟨w4.heap.size, 0, none⟩ 1 1 [.int .u8 48] rfl rfl (cell_one_new _ _ _) (fun x hx => by simp at hx; subst hx; rfl) (by unfold maxLen; omega) (by omega) (balloc HB4.out _).size ?_; intro v6 w6 ho6 hg6 _; have HO6 := Hid.in_ ho6; have HB6 := Hid.in_ (bgrown (balloc HB4.out _) (HO4.out.alloc _) (Nat.le_refl _) hg6); clear ho6 hg6))
                   have hj2 := HJ.out
                   go_roundg (gk - 1)
                   case measure => omega
                   case rel => exact ⟨4, by omega, by go_num, by rw [HLA.out], by rw [HW.out]; exact HO6.out, HB6.out⟩)
            · have e1 : bits BinOp.and .u8 ((c.toNat : Int) / 16) 1 = 1 := e0.trans (by rw [hq]; rfl)
              have HA := Hid.in_ (show bitAt c 3 = true by unfold bitAt; rw [show c.toNat / 2 ^ (7 - 3) = c.toNat / 16 by rfl, hq]; rfl)
              have HW := Hid.in_ (show bitCells (encL mfm last (bitsN s k ++ bitsTo c 4)) = bitCells (encL mfm last P) ++ [.int .u8 ((chr (clk mfm la true)).toNat : Int)] ++ [.int .u8 49] by rw [show (4 : Nat) = 3 + 1 from rfl, HP.out, HE.out, HA.out, bitCells_app, List.append_assoc]; rfl)
              have HLA := Hid.in_ (show lastOf last (bitsN s k ++ bitsTo c 4) = true by rw [show (4 : Nat) = 3 + 1 from rfl, HP.out, HLS.out, HA.out])
              clear e0 hq HA HE HLS HP
              cases mfm <;> cases la
              all_goals
                first
                | (change Hid (_ = _ ++ [Value.int .u8 49] ++ _) at HW
                   go_wp2_with (first
                     | (go_at_call 161; refine (spec_l05Bit_yes _).mono ?_; rintro e w' ⟨rfl, rfl⟩)
                     | (go_at_call 161; refine (spec_l05Bit_no _).mono ?_; rintro e w' ⟨rfl, rfl⟩)
                     | (at_builtin; refine wpList_append_own _ rfl _ _ 43 rfl w.heap.size 5 i0 (.int .u8 0) 1 1 Tryz.underlying43 hti hz0 hz1 hz2 rfl (by decide) _ _ _ rfl (HJI.out.alloc _) ⟨wr.heap.size, 0, none⟩ 1 1 [.int .u8 49] rfl rfl (cell_one_new _ _ _) (fun x hx => by simp at hx; subst hx; rfl) (by unfold maxLen; omega) (by omega) (balloc HJB.out _).size ?_; intro v4 w4 ho4 hg4 _; have HO4 := Hid.in_ ho4; have HB4 := Hid.in_ (bgrown (balloc HJB.out _) (HJI.out.alloc _) (Nat.le_refl _) hg4); clear ho4 hg4)
                     | (at_builtin; refine wpList_append_own _ rfl _ _ 43 rfl w.heap.size 5 i0 (.int .u8 0) 1 1 Tryz.underlying43 hti hz0 hz1 hz2 rfl (by decide) _ _ _ rfl (HO4.out.alloc _) ⟨w4.heap.size, 0, none⟩ 1 1 [.int .u8 49] rfl rfl (cell_one_new _ _ _) (fun x hx => by simp at hx; subst hx; rfl) (by unfold maxLen; omega) (by omega) (balloc HB4.out _).size ?_; intro v6 w6 ho6 hg6 _; have HO6 := Hid.in_ ho6; have HB6 := Hid.in_ (bgrown (balloc HB4.out _) (HO4.out.alloc _) (Nat.le_refl _) hg6); clear ho6 hg6))
                   have hj2 := HJ.out
                   go_roundg (gk - 1)
                   case measure => omega
                   case rel => exact ⟨4, by omega, by go_num, by rw [HLA.out], by rw [HW.out]; exact HO6.out, HB6.out⟩)
                | (change Hid (_ = _ ++ [Value.int .u8 48] ++ _) at HW
                   go_wp2_with (first
                     | (go_at_call 161; refine (spec_l05Bit_yes _).mono ?_; rintro e w' ⟨rfl, rfl⟩)
                     | (go_at_call 161; refine (spec_l05Bit_no _).mono ?_; rintro e w' ⟨rfl, rfl⟩)
                     | (at_builtin; refine wpList_append_own _ rfl _ _ 43 rfl w.heap.size 5 i0 (.int .u8 0) 1 1 Tryz.underlying43 hti hz0 hz1 hz2 rfl (by decide) _ _ _ rfl (HJI.out.alloc _) ⟨wr.heap.size, 0, none⟩ 1 1 [.int .u8 48] rfl rfl (cell_one_new _ _ _) (fun x hx => by simp at hx; subst hx; rfl) (by unfold maxLen; omega) (by omega) (balloc HJB.out _).size ?_; intro v4 w4 ho4 hg4 _; have HO4 := Hid.in_ ho4; have HB4 := Hid.in_ (bgrown (balloc HJB.out _) (HJI.out.alloc _) (Nat.le_refl _) hg4); clear ho4 hg4)
                     | (at_builtin; refine wpList_append_own _ rfl _ _ 43 rfl w.heap.size 5 i0 (.int .u8 0) 1 1 Tryz.underlying43 hti hz0 hz1 hz2 rfl (by decide) _ _ _ rfl (HO4.out.alloc _) ⟨w4.heap.size, 0, none⟩ 1 1 [.int .u8 49] rfl rfl (cell_one_new _ _ _) (fun x hx => by simp at hx; subst hx; rfl) (by unfold maxLen; omega) (by omega) (balloc HB4.out _).size ?_; intro v6 w6 ho6 hg6 _; have HO6 := Hid.in_ ho6; have HB6 := Hid.in_ (bgrown (balloc HB4.out _) (HO4.out.alloc _) (Nat.le_refl _) hg6); clear ho6 hg6))
                   have hj2 := HJ.out
                   go_roundg (gk - 1)
                   case measure => omega
                   case rel => exact ⟨4, by omega, by go_num, by rw [HLA.out], by rw [HW.out]; exact HO6.out, HB6.out⟩)
          · have e0 := low_u8 (c.toNat / 8) (by omega)
            rcases Nat.mod_two_eq_zero_or_one (c.toNat / 8) with hq | hq
            · have e1 : bits BinOp.and .u8 ((c.toNat : Int) / 8) 1 = 0 := e0.trans (by rw [hq]; rfl)
              have HA := Hid.in_ (show bitAt c 4 = false by unfold bitAt; rw [show c.toNat / 2 ^ (7 - 4) = c.toNat / 8 by rfl, hq]; rfl)
              have HW := Hid.in_ (show bitCells (encL mfm last (bitsN s k ++ bitsTo c 5)) = bitCells (encL mfm last P) ++ [.int .u8 ((chr (clk mfm la false)).toNat : Int)] ++ [.int .u8 48] by rw [show (5 : Nat) = 4 + 1 from rfl, HP.out, HE.out, HA.out, bitCells_app, List.append_assoc]; rfl)
              have HLA := Hid.in_ (show lastOf last (bitsN s k ++ bitsTo c 5) = false by rw [show (5 : Nat) = 4 + 1 from rfl, HP.out, HLS.out, HA.out])
              clear e0 hq HA HE HLS HP
              cases mfm <;> cases la
              all_goals
                first
                | (change Hid (_ = _ ++ [Value.int .u8 49] ++ _) at HW
                   go_wp2_with (first
                     | (go_at_call 161; refine (spec_l05Bit_yes _).mono ?_; rintro e w' ⟨rfl, rfl⟩)
                     | (go_at_call 161; refine (spec_l05Bit_no _).mono ?_; rintro e w' ⟨rfl, rfl⟩)
                     | (at_builtin; refine wpList_append_own _ rfl _ _ 43 rfl w.heap.size 5 i0 (.int .u8 0) 1 1 Tryz.underlying43 hti hz0 hz1 hz2 rfl (by decide) _ _ _ rfl (HJI.out.alloc _) ⟨wr.heap.size, 0, none⟩ 1 1 [.int .u8 49] rfl rfl (cell_one_new _ _ _) (fun x hx => by simp at hx; subst hx; rfl) (by unfold maxLen; omega) (by omega) (balloc HJB.out _).size ?_; intro v4 w4 ho4 hg4 _; have HO4 := Hid.in_ ho4; have HB4 := Hid.in_ (bgrown (balloc HJB.out _) (HJI.out.alloc _) (Nat.le_refl _) hg4); clear ho4 hg4)
                     | (at_builtin; refine wpList_append_own _ rfl _ _ 43 rfl w.heap.size 5 i0 (.int .u8 0) 1 1 Tryz.underlying43 hti hz0 hz1 hz2 rfl (by decide) _ _ _ rfl (HO4.out.alloc _) ⟨w4.heap.size, 0, none⟩ 1 1 [.int .u8 48] rfl rfl (cell_one_new _ _ _) (fun x hx => by simp at hx; subst hx; rfl) (by unfold maxLen; omega) (by omega) (balloc HB4.out _).size ?_; intro v6 w6 ho6 hg6 _; have HO6 := Hid.in_ ho6; have HB6 := Hid.in_ (bgrown (balloc HB4.out _) (HO4.out.alloc _) (Nat.le_refl _) hg6); clear ho6 hg6))
                   have hj2 := HJ.out
                   go_roundg (gk - 1)
                   case measure => omega
                   case rel => exact ⟨5, by omega, by go_num, by rw [HLA.out], by rw [HW.out]; exact HO6.out, HB6.out⟩)
                | (change Hid (_ = _ ++ [Value.int .u8 48] ++ _) at HW
                   go_wp2_with (first
                     | (go_at_call 161; refine (spec_l05Bit_yes _).mono ?_; rintro e w' ⟨rfl, rfl⟩)
                     | (go_at_call 161; refine (spec_l05Bit_no _).mono ?_; rintro e w' ⟨rfl, rfl⟩)
                     | (at_builtin; refine wpList_append_own _ rfl _ _ 43 rfl w.heap.size 5 i0 (.int .u8 0) 1 1 Tryz.underlying43 hti hz0 hz1 hz2 rfl (by decide) _ _ _ rfl (HJI.out.alloc _) ⟨wr.heap.size, 0, none⟩ 1 1 [.int .u8 48] rfl rfl (cell_one_new _ _ _) (fun x hx => by simp at hx; subst hx; rfl) (by unfold maxLen; omega) (by omega) (balloc HJB.out _).size ?_; intro v4 w4 ho4 hg4 _; have HO4 := Hid.in_ ho4; have HB4 := Hid.in_ (bgrown (balloc HJB.out _) (HJI.out.alloc _) (Nat.le_refl _) hg4); clear ho4 hg4)
                     | (at_builtin; refine wpList_append_own _ rfl _ _ 43 rfl w.heap.size 5 i0 (.int .u8 0) 1 1 Tryz.underlying43 hti hz0 hz1 hz2 rfl (by decide) _ _ _ rfl (HO4.out.alloc _) ⟨w4.heap.size, 0, none⟩ 1 1 [.int .u8 48] rfl rfl (cell_one_new _ _ _) (fun x hx => by simp at hx; subst hx; rfl) (by unfold maxLen; omega) (by omega) (balloc HB4.out _).size ?_; intro v6 w6 ho6 hg6 _; have HO6 := Hid.in_ ho6; have HB6 := Hid.in_ (bgrown (balloc HB4.out _) (HO4.out.alloc _) (Nat.le_refl _) hg6); clear ho6 hg6))
                   have hj2 := HJ.out
                   go_roundg (gk - 1)
                   case measure => omega
                   case rel => exact ⟨5, by omega, by go_num, by rw [HLA.out], by rw [HW.out]; exact HO6.out, HB6.out⟩)
            · have e1 : bits BinOp.and .u8 ((c.toNat : Int) / 8) 1 = 1 := e0.trans (by rw [hq]; rfl)
              have HA := Hid.in_ (show bitAt c 4 = true by unfold bitAt; rw [show c.toNat / 2 ^ (7 - 4) = c.toNat / 8 by rfl, hq]; rfl)
              have HW := Hid.in_ (show bitCells (encL mfm last (bitsN s k ++ bitsTo c 5)) = bitCells (encL mfm last P) ++ [.int .u8 ((chr (clk mfm la true)).toNat : Int)] ++ [.int .u8 49] by rw [show (5 : Nat) = 4 + 1 from rfl, HP.out, HE.out, HA.out, bitCells_app, List.append_assoc]; rfl)
              have HLA := Hid.in_ (show lastOf last (bitsN s k ++ bitsTo c 5) = true by rw [show (5 : Nat) = 4 + 1 from rfl, HP.out, HLS.out, HA.out])
              clear e0 hq HA HE HLS HP
              cases mfm <;> cases la
              all_goals
                first
                | (change Hid (_ = _ ++ [Value.int .u8 49] ++ _) at HW
                   go_wp2_with (first
                     | (go_at_call 161; refine (spec_l05Bit_yes _).mono ?_; rintro e w' ⟨rfl, rfl⟩)
                     | (go_at_call 161; refine (spec_l05Bit_no _).mono ?_; rintro e w' ⟨rfl, rfl⟩)
                     | (at_builtin; refine wpList_append_own _ rfl _ _ 43 rfl w.heap.size 5 i0 (.int .u8 0) 1 1 Tryz.underlying43 hti hz0 hz1 hz2 rfl (by decide) _ _ _ rfl (HJI.out.alloc _) ⟨wr.heap.size, 0, none⟩ 1 1 [.int .u8 49] rfl rfl (cell_one_new _ _ _) (fun x hx => by simp at hx; subst hx; rfl) (by unfold maxLen; omega) (by omega) (balloc HJB.out _).size ?_; intro v4 w4 ho4 hg4 _; have HO4 := Hid.in_ ho4; have HB4 := Hid.in_ (bgrown (balloc HJB.out _) (HJI.out.alloc _) (Nat.le_refl _) hg4); clear ho4 hg4)
                     | (at_builtin; refine wpList_append_own _ rfl _ _ 43 rfl w.heap.size 5 i0 (.int .u8 0) 1 1 Tryz.underlying43 hti hz0 hz1 hz2 rfl (by decide) _ _ _ rfl (HO4.out.alloc _) ⟨w4.heap.size, 0, none⟩ 1 1 [.int .u8 49] rfl rfl (cell_one_new _ _ _) (fun x hx => by simp at hx; subst hx; rfl) (by unfold maxLen; omega) (by omega) (balloc HB4.out _).size ?_; intro v6 w6 ho6 hg6 _; have HO6 := Hid.in_ ho6; have HB6 := Hid.in_ (bgrown (balloc HB4.out _) (HO4.out.alloc _) (Nat.le_refl _) hg6); clear ho6 hg6))
                   have hj2 := HJ.out
                   go_roundg (gk - 1)
                   case measure => omega
                   case rel => exact ⟨5, by omega, by go_num, by rw [HLA.out], by rw [HW.out]; exact HO6.out, HB6.out⟩)
                | (change Hid (_ = _ ++ [Value.int .u8 48] ++ _) at HW
                   go_wp2_with (first
                     | (go_at_call 161; refine (spec_l05Bit_yes _).mono ?_; rintro e w' ⟨rfl, rfl⟩)
                     | (go_at_call 161; refine (spec_l05Bit_no _).mono ?_; rintro e w' ⟨rfl, rfl⟩)
                     | (at_builtin; refine wpList_append_own _ rfl _ _ 43 rfl w.heap.size 5 i0 (.int .u8 0) 1 1 Tryz.underlying43 hti hz0 hz1 hz2 rfl (by decide) _ _ _ rfl (HJI.out.alloc _) ⟨wr.heap.size, 0, none⟩ 1 1 [.int .u8 48] rfl rfl (cell_one_new _ _ _) (fun x hx => by simp at hx; subst hx; rfl) (by unfold maxLen; omega) (by omega) (balloc HJB.out _).size ?_; intro v4 w4 ho4 hg4 _; have HO4 := Hid.in_ ho4; have HB4 := Hid.in_ (bgrown (balloc HJB.out _) (HJI.out.alloc _) (Nat.le_refl _) hg4); clear ho4 hg4)
                     | (at_builtin; refine wpList_append_own _ rfl _ _ 43 rfl w.heap.size 5 i0 (.int .u8 0) 1 1 Tryz.underlying43 hti hz0 hz1 hz2 rfl (by decide) _ _ _ rfl (HO4.out.alloc _) ⟨w4.heap.size, 0, none⟩ 1 1 [.int .u8 49] rfl rfl (cell_one_new _ _ _) (fun x hx => by simp at hx; subst hx; rfl) (by unfold maxLen; omega) (by omega) (balloc HB4.out _).size ?_; intro v6 w6 ho6 hg6 _; have HO6 := Hid.in_ ho6; have HB6 := Hid.in_ (bgrown (balloc HB4.out _) (HO4.out.alloc _) (Nat.le_refl _) hg6); clear ho6 hg6))
                   have hj2 := HJ.out
                   go_roundg (gk - 1)
                   case measure => omega
                   case rel => exact ⟨5, by omega, by go_num, by rw [HLA.out], by rw [HW.out]; exact HO6.out, HB6.out⟩)
          · have e0 := low_u8 (c.toNat / 4) (by omega)
            rcases Nat.mod_two_eq_zero_or_one (c.toNat / 4) with hq | hq
            · have e1 : bits BinOp.and .u8 ((c.toNat : Int) / 4) 1 = 0 := e0.trans (by rw [hq]; rfl)
              have HA := Hid.in_ (show bitAt c 5 = false by unfold bitAt; rw [show c.toNat / 2 ^ (7 - 5) = c.toNat / 4 by rfl, hq]; rfl)
              have HW := Hid.in_ (show bitCells (encL mfm last (bitsN s k ++ bitsTo c 6)) = bitCells (encL mfm last P) ++ [.int .u8 ((chr (clk mfm la false)).toNat : Int)] ++ [.int .u8 48] by rw [show (6 : Nat) = 5 + 1 from rfl, HP.out, HE.out, HA.out, bitCells_app, List.append_assoc]; rfl)
              have HLA := Hid.in_ (show lastOf last (bitsN s k ++ bitsTo c 6) = false by rw [show (6 : Nat) = 5 + 1 from rfl, HP.out, HLS.out, HA.out])
              clear e0 hq HA HE HLS HP
              cases mfm <;> cases la
              all_goals
                first
                | (change Hid (_ = _ ++ [Value.int .u8 49] ++ _) at HW
                   go_wp2_with (first
                     | (go_at_call 161; refine (spec_l05Bit_yes _).mono ?_; rintro e w' ⟨rfl, rfl⟩)
                     | (go_at_call 161; refine (spec_l05Bit_no _).mono ?_; rintro e w' ⟨rfl, rfl⟩)
                     | (at_builtin; refine wpList_append_own _ rfl _ _ 43 rfl w.heap.size 5 i0 (.int .u8 0) 1 1 Tryz.underlying43 hti hz0 hz1 hz2 rfl (by decide) _ _ _ rfl (HJI.out.alloc _) ⟨wr.heap.size, 0, none⟩ 1 1 [.int .u8 49] rfl rfl (cell_one_new _ _ _) (fun x hx => by simp at hx; subst hx; rfl) (by unfold maxLen; omega) (by omega) (balloc HJB.out _).size ?_; intro v4 w4 ho4 hg4 _; have HO4 := Hid.in_ ho4; have HB4 := Hid.in_ (bgrown (balloc HJB.out _) (HJI.out.alloc _) (Nat.le_refl _) hg4); clear ho4 hg4)
                     | (at_builtin; refine wpList_append_own _ rfl _ _ 43 rfl w.heap.size 5 i0 (.int .u8 0) 1 1 Tryz.underlying43 hti hz0 hz1 hz2 rfl (by decide) _ _ _ rfl (HO4.out.alloc _) ⟨w4.heap.size, 0, none⟩ 1 1 [.int .u8 48] rfl rfl (cell_one_new _ _ _) (fun x hx => by simp at hx; subst hx; rfl) (by unfold maxLen; omega) (by omega) (balloc HB4.out _).size ?_; intro v6 w6 ho6 hg6 _; have HO6 := Hid.in_ ho6; have HB6 := Hid.in_ (bgrown (balloc HB4.out _) (HO4.out.alloc _) (Nat.le_refl _) hg6); clear ho6 hg6))
                   have hj2 := HJ.out
                   go_roundg (gk - 1)
                   case measure => omega
                   case rel => exact ⟨6, by omega, by go_num, by rw [HLA.out], by rw [HW.out]; exact HO6.out, HB6.out⟩)
                | (change Hid (_ = _ ++ [Value.int .u8 48] ++ _) at HW
                   go_wp2_with (first
                     | (go_at_call 161; refine (spec_l05Bit_yes _).mono ?_; rintro e w' ⟨rfl, rfl⟩)
                     | (go_at_call 161; refine (spec_l05Bit_no _).mono ?_; rintro e w' ⟨rfl, rfl⟩)
                     | (at_builtin; refine wpList_append_own _ rfl _ _ 43 rfl w.heap.size 5 i0 (.int .u8 0) 1 1 Tryz.underlying43 hti hz0 hz1 hz2 rfl (by decide) _ _ _ rfl (HJI.out.alloc _) ⟨wr.heap.size, 0, none⟩ 1 1 [.int .u8 48] rfl rfl (cell_one_new _ _ _) (fun x hx => by simp at hx; subst hx; rfl) (by unfold maxLen; omega) (by omega) (balloc HJB.out _).size ?_; intro v4 w4 ho4 hg4 _; have HO4 := Hid.in_ ho4; have HB4 := Hid.in_ (bgrown (balloc HJB.out _) (HJI.out.alloc _) (Nat.le_refl _) hg4); clear ho4 hg4)
                     | (at_builtin; refine wpList_append_own _ rfl _ _ 43 rfl w.heap.size 5 i0 (.int .u8 0) 1 1 Tryz.underlying43 hti hz0 hz1 hz2 rfl (by decide) _ _ _ rfl (HO4.out.alloc _) ⟨w4.heap.size, 0, none⟩ 1 1 [.int .u8 48] rfl rfl (cell_one_new _ _ _) (fun x hx => by simp at hx; subst hx; rfl) (by unfold maxLen; omega) (by omega) (balloc HB4.out _).size ?_; intro v6 w6 ho6 hg6 _; have HO6 := Hid.in_ ho6; have HB6 := Hid.in_ (bgrown (balloc HB4.out _) (HO4.out.alloc _) (Nat.le_refl _) hg6); clear ho6 hg6))
                   have hj2 := HJ.out
                   go_roundg (gk - 1)
                   case measure => omega
                   case rel => exact ⟨6, by omega, by go_num, by rw [HLA.out], by rw [HW.out]; exact HO6.out, HB6.out⟩)
            · have e1 : bits BinOp.and .u8 ((c.toNat : Int) / 4) 1 = 1 := e0.trans (by rw [hq]; rfl)
              have HA := Hid.in_ (show bitAt c 5 = true by unfold bitAt; rw [show c.toNat / 2 ^ (7 - 5) = c.toNat / 4 by rfl, hq]; rfl)
              have HW := Hid.in_ (show bitCells (encL mfm last (bitsN s k ++ bitsTo c 6)) = bitCells (encL mfm last P) ++ [.int .u8 ((chr (clk mfm la true)).toNat : Int)] ++ [.int .u8 49] by rw [show (6 : Nat) = 5 + 1 from rfl, HP.out, HE.out, HA.out, bitCells_app, List.append_assoc]; rfl)
              have HLA := Hid.in_ (show lastOf last (bitsN s k ++ bitsTo c 6) = true by rw [show (6 : Nat) = 5 + 1 from rfl, HP.out, HLS.out, HA.out])
              clear e0 hq HA HE HLS HP
              cases mfm <;> cases la
              all_goals
                first
                | (change Hid (_ = _ ++ [Value.int .u8 49] ++ _) at HW
                   go_wp2_with (first
                     | (go_at_call 161; refine (spec_l05Bit_yes _).mono ?_; rintro e w' ⟨rfl, rfl⟩)
                     | (go_at_call 161; refine (spec_l05Bit_no _).mono ?_; rintro e w' ⟨rfl, rfl⟩)
                     | (at_builtin; refine wpList_append_own _ rfl _ _ 43 rfl w.heap.size 5 i0 (.int .u8 0) 1 1 Tryz.underlying43 hti hz0 hz1 hz2 rfl (by decide) _ _ _ rfl (HJI.out.alloc _) ⟨wr.heap.size, 0, none⟩ 1 1 [.int .u8 49] rfl rfl (cell_one_new _ _ _) (fun x hx => by simp at hx; subst hx; rfl) (by unfold maxLen; omega) (by omega) (balloc HJB.out _).size ?_; intro v4 w4 ho4 hg4 _; have HO4 := Hid.in_ ho4; have HB4 := Hid.in_ (bgrown (balloc HJB.out _) (HJI.out.alloc _) (Nat.le_refl _) hg4); clear ho4 hg4)
                     | (at_builtin; refine wpList_append_own _ rfl _ _ 43 rfl w.heap.size 5 i0 (.int .u8 0) 1 1 Tryz.underlying43 hti hz0 hz1 hz2 rfl (by decide) _ _ _ rfl (HO4.out.alloc _) ⟨w4.heap.size, 0, none⟩ 1 1 [.int .u8 49] rfl rfl (cell_one_new _ _ _) (fun x hx => by simp at hx; subst hx; rfl) (by unfold maxLen; omega) (by omega) (balloc HB4.out _).size ?_; intro v6 w6 ho6 hg6 _; have HO6 := Hid.in_ ho6; have HB6 := Hid.in_ (bgrown (balloc HB4.out _) (HO4.out.alloc _) (Nat.le_refl _) hg6); clear ho6 hg6))
                   have hj2 := HJ.out
                   go_roundg (gk - 1)
                   case measure => omega
                   case rel => exact ⟨6, by omega, by go_num, by rw [HLA.out], by rw [HW.out]; exact HO6.out, HB6.out⟩)
                | (change Hid (_ = _ ++ [Value.int .u8 48] ++ _) at HW
                   go_wp2_with (first
                     | (go_at_call 161; refine (spec_l05Bit_yes _).mono ?_; rintro e w' ⟨rfl, rfl⟩)
                     | (go_at_call 161; refine (spec_l05Bit_no _).mono ?_; rintro e w' ⟨rfl, rfl⟩)
                     | (at_builtin; refine wpList_append_own _ rfl _ _ 43 rfl w.heap.size 5 i0 (.int .u8 0) 1 1 Tryz.underlying43 hti hz0 hz1 hz2 rfl (by decide) _ _ _ rfl (HJI.out.alloc _) ⟨wr.heap.size, 0, none⟩ 1 1 [.int .u8 48] rfl rfl (cell_one_new _ _ _) (fun x hx => by simp at hx; subst hx; rfl) (by unfold maxLen; omega) (by omega) (balloc HJB.out _).size ?_; intro v4 w4 ho4 hg4 _; have HO4 := Hid.in_ ho4; have HB4 := Hid.in_ (bgrown (balloc HJB.out _) (HJI.out.alloc _) (Nat.le_refl _) hg4); clear ho4 hg4)
                     | (at_builtin; refine wpList_append_own _ rfl _ _ 43 rfl w.heap.size 5 i0 (.int .u8 0) 1 1 Tryz.underlying43 hti hz0 hz1 hz2 rfl (by decide) _ _ _ rfl (HO4.out.alloc _) ⟨w4.heap.size, 0, none⟩ 1 1 [.int .u8 49] rfl rfl (cell_one_new _ _ _) (fun x hx => by simp at hx; subst hx; rfl) (by unfold maxLen; omega) (by omega) (balloc HB4.out _).size ?_; intro v6 w6 ho6 hg6 _; have HO6 := Hid.in_ ho6; have HB6 := Hid.in_ (bgrown (balloc HB4.out _) (HO4.out.alloc _) (Nat.le_refl _) hg6); clear ho6 hg6))
                   have hj2 := HJ.out
                   go_roundg (gk - 1)
                   case measure => omega
                   case rel => exact ⟨6, by omega, by go_num, by rw [HLA.out], by rw [HW.out]; exact HO6.out, HB6.out⟩)
          · have e0 := low_u8 (c.toNat / 2) (by omega)
            rcases Nat.mod_two_eq_zero_or_one (c.toNat / 2) with hq | hq
            · have e1 : bits BinOp.and .u8 ((c.toNat : Int) / 2) 1 = 0 := e0.trans (by rw [hq]; rfl)
              have HA := Hid.in_ (show bitAt c 6 = false by unfold bitAt; rw [show c.toNat / 2 ^ (7 - 6) = c.toNat / 2 by rfl, hq]; rfl)
              have HW := Hid.in_ (show bitCells (encL mfm last (bitsN s k ++ bitsTo c 7)) = bitCells (encL mfm last P) ++ [.int .u8 ((chr (clk mfm la false)).toNat : Int)] ++ [.int .u8 48] by rw [show (7 : Nat) = 6 + 1 from rfl, HP.out, HE.out, HA.out, bitCells_app, List.append_assoc]; rfl)
              have HLA := Hid.in_ (show lastOf last (bitsN s k ++ bitsTo c 7) = false by rw [show (7 : Nat) = 6 + 1 from rfl, HP.out, HLS.out, HA.out])
              clear e0 hq HA HE HLS HP
              cases mfm <;> cases la
              all_goals
                first
                | (change Hid (_ = _ ++ [Value.int .u8 49] ++ _) at HW
                   go_wp2_with (first
                     | (go_at_call 161; refine (spec_l05Bit_yes _).mono ?_; rintro e w' ⟨rfl, rfl⟩)
                     | (go_at_call 161; refine (spec_l05Bit_no _).mono ?_; rintro e w' ⟨rfl, rfl⟩)
                     | (at_builtin; refine wpList_append_own _ rfl _ _ 43 rfl w.heap.size 5 i0 (.int .u8 0) 1 1 Tryz.underlying43 hti hz0 hz1 hz2 rfl (by decide) _ _ _ rfl (HJI.out.alloc _) ⟨wr.heap.size, 0, none⟩ 1 1 [.int .u8 49] rfl rfl (cell_one_new _ _ _) (fun x hx => by simp at hx; subst hx; rfl) (by unfold maxLen; omega) (by omega) (balloc HJB.out _).size ?_; intro v4 w4 ho4 hg4 _; have HO4 := Hid.in_ ho4; have HB4 := Hid.in_ (bgrown (balloc HJB.out _) (HJI.out.alloc _) (Nat.le_refl _) hg4); clear ho4 hg4)
                     | (at_builtin; refine wpList_append_own _ rfl _ _ 43 rfl w.heap.size 5 i0 (.int .u8 0) 1 1 Tryz.underlying43 hti hz0 hz1 hz2 rfl (by decide) _ _ _ rfl (HO4.out.alloc _) ⟨w4.heap.size, 0, none⟩ 1 1 [.int .u8 48] rfl rfl (cell_one_new _ _ _) (fun x hx => by simp at hx; subst hx; rfl) (by unfold maxLen; omega) (by omega) (balloc HB4.out _).size ?_; intro v6 w6 ho6 hg6 _; have HO6 := Hid.in_ ho6; have HB6 := Hid.in_ (bgrown (balloc HB4.out _) (HO4.out.alloc _) (Nat.le_refl _) hg6); clear ho6 hg6))
                   have hj2 := HJ.out
                   go_roundg (gk - 1)
                   case measure => omega
                   case rel => exact ⟨7, by omega, by go_num, by rw [HLA.out], by rw [HW.out]; exact HO6.out, HB6.out⟩)
                | (change Hid (_ = _ ++ [Value.int .u8 48] ++ _) at HW
                   go_wp2_with (first
                     | (go_at_call 161; refine (spec_l05Bit_yes _).mono ?_; rintro e w' ⟨rfl, rfl⟩)
                     | (go_at_call 161; refine (spec_l05Bit_no _).mono ?_; rintro e w' ⟨rfl, rfl⟩)
                     | (at_builtin; refine wpList_append_own _ rfl _ _ 43 rfl w.heap.size 5 i0 (.int .u8 0) 1 1 Tryz.underlying43 hti hz0 hz1 hz2 rfl (by decide) _ _ _ rfl (HJI.out.alloc _) ⟨wr.heap.size, 0, none⟩ 1 1 [.int .u8 48] rfl rfl (cell_one_new _ _ _) (fun x hx => by simp at hx; subst hx; rfl) (by unfold maxLen; omega) (by omega) (balloc HJB.out _).size ?_; intro v4 w4 ho4 hg4 _; have HO4 := Hid.in_ ho4; have HB4 := Hid.in_ (bgrown (balloc HJB.out _) (HJI.out.alloc _) (Nat.le_refl _) hg4); clear ho4 hg4)
                     | (at_builtin; refine wpList_append_own _ rfl _ _ 43 rfl w.heap.size 5 i0 (.int .u8 0) 1 1 Tryz.underlying43 hti hz0 hz1 hz2 rfl (by decide) _ _ _ rfl (HO4.out.alloc _) ⟨w4.heap.size, 0, none⟩ 1 1 [.int .u8 48] rfl rfl (cell_one_new _ _ _) (fun x hx => by simp at hx; subst hx; rfl) (by unfold maxLen; omega) (by omega) (balloc HB4.out _).size ?_; intro v6 w6 ho6 hg6 _; have HO6 := Hid.in_ ho6; have HB6 := Hid.in_ (bgrown (balloc HB4.out _) (HO4.out.alloc _) (Nat.le_refl _) hg6); clear ho6 hg6))
                   have hj2 := HJ.out
                   go_roundg (gk - 1)
                   case measure => omega
                   case rel => exact ⟨7, by omega, by go_num, by rw [HLA.out], by rw [HW.out]; exact HO6.out, HB6.out⟩)
            · have e1 : bits BinOp.and .u8 ((c.toNat : Int) / 2) 1 = 1 := e0.trans (by rw [hq]; rfl)
              have HA := Hid.in_ (show bitAt c 6 = true by unfold bitAt; rw [show c.toNat / 2 ^ (7 - 6) = c.toNat / 2 by rfl, hq]; rfl)
              have HW := Hid.in_ (show bitCells (encL mfm last (bitsN s k ++ bitsTo c 7)) = bitCells (encL mfm last P) ++ [.int .u8 ((chr (clk mfm la true)).toNat : Int)] ++ [.int .u8 49] by rw [show (7 : Nat) = 6 + 1 from rfl, HP.out, HE.out, HA.out, bitCells_app, List.append_assoc]; rfl)
              have HLA := Hid.in_ (show lastOf last (bitsN s k ++ bitsTo c 7) = true by rw [show (7 : Nat) = 6 + 1 from rfl, HP.out, HLS.out, HA.out])
              clear e0 hq HA HE HLS HP
              cases mfm <;> cases la
              all_goals
                first
                | (change Hid (_ = _ ++ [Value.int .u8 49] ++ _) at HW
                   go_wp2_with (first
                     | (go_at_call 161; refine (spec_l05Bit_yes _).mono ?_; rintro e w' ⟨rfl, rfl⟩)
                     | (go_at_call 161; refine (spec_l05Bit_no _).mono ?_; rintro e w' ⟨rfl, rfl⟩)
                     | (at_builtin; refine wpList_append_own _ rfl _ _ 43 rfl w.heap.size 5 i0 (.int .u8 0) 1 1 Tryz.underlying43 hti hz0 hz1 hz2 rfl (by decide) _ _ _ rfl (HJI.out.alloc _) ⟨wr.heap.size, 0, none⟩ 1 1 [.int .u8 49] rfl rfl (cell_one_new _ _ _) (fun x hx => by simp at hx; subst hx; rfl) (by unfold maxLen; omega) (by omega) (balloc HJB.out _).size ?_; intro v4 w4 ho4 hg4 _; have HO4 := Hid.in_ ho4; have HB4 := Hid.in_ (bgrown (balloc HJB.out _) (HJI.out.alloc _) (Nat.le_refl _) hg4); clear ho4 hg4)
                     | (at_builtin; refine wpList_append_own _ rfl _ _ 43 rfl w.heap.size 5 i0 (.int .u8 0) 1 1 Tryz.underlying43 hti hz0 hz1 hz2 rfl (by decide) _ _ _ rfl (HO4.out.alloc _) ⟨w4.heap.size, 0, none⟩ 1 1 [.int .u8 49] rfl rfl (cell_one_new _ _ _) (fun x hx => by simp at hx; subst hx; rfl) (by unfold maxLen; omega) (by omega) (balloc HB4.out _).size ?_; intro v6 w6 ho6 hg6 _; have HO6 := Hid.in_ ho6; have HB6 := Hid.in_ (bgrown (balloc HB4.out _) (HO4.out.alloc _) (Nat.le_refl _) hg6); clear ho6 hg6))
                   have hj2 := HJ.out
                   go_roundg (gk - 1)
                   case measure => omega
                   case rel => exact ⟨7, by omega, by go_num, by rw [HLA.out], by rw [HW.out]; exact HO6.out, HB6.out⟩)
                | (change Hid (_ = _ ++ [Value.int .u8 48] ++ _) at HW
                   go_wp2_with (first
                     | (go_at_call 161; refine (spec_l05Bit_yes _).mono ?_; rintro e w' ⟨rfl, rfl⟩)
                     | (go_at_call 161; refine (spec_l05Bit_no _).mono ?_; rintro e w' ⟨rfl, rfl⟩)
                     | (at_builtin; refine wpList_append_own _ rfl _ _ 43 rfl w.heap.size 5 i0 (.int .u8 0) 1 1 Tryz.underlying43 hti hz0 hz1 hz2 rfl (by decide) _ _ _ rfl (HJI.out.alloc _) ⟨wr.heap.size, 0, none⟩ 1 1 [.int .u8 48] rfl rfl (cell_one_new _ _ _) (fun x hx => by simp at hx; subst hx; rfl) (by unfold maxLen; omega) (by omega) (balloc HJB.out _).size ?_; intro v4 w4 ho4 hg4 _; have HO4 := Hid.in_ ho4; have HB4 := Hid.in_ (bgrown (balloc HJB.out _) (HJI.out.alloc _) (Nat.le_refl _) hg4); clear ho4 hg4)
                     | (at_builtin; refine wpList_append_own _ rfl _ _ 43 rfl w.heap.size 5 i0 (.int .u8 0) 1 1 Tryz.underlying43 hti hz0 hz1 hz2 rfl (by decide) _ _ _ rfl (HO4.out.alloc _) ⟨w4.heap.size, 0, none⟩ 1 1 [.int .u8 49] rfl rfl (cell_one_new _ _ _) (fun x hx => by simp at hx; subst hx; rfl) (by unfold maxLen; omega) (by omega) (balloc HB4.out _).size ?_; intro v6 w6 ho6 hg6 _; have HO6 := Hid.in_ ho6; have HB6 := Hid.in_ (bgrown (balloc HB4.out _) (HO4.out.alloc _) (Nat.le_refl _) hg6); clear ho6 hg6))
                   have hj2 := HJ.out
                   go_roundg (gk - 1)
                   case measure => omega
                   case rel => exact ⟨7, by omega, by go_num, by rw [HLA.out], by rw [HW.out]; exact HO6.out, HB6.out⟩)
          · have e0 := low_u8 (c.toNat) (by omega)
            rcases Nat.mod_two_eq_zero_or_one (c.toNat) with hq | hq
            · have e1 : bits BinOp.and .u8 (c.toNat : Int) 1 = 0 := e0.trans (by rw [hq]; rfl)
              have HA := Hid.in_ (show bitAt c 7 = false by unfold bitAt; rw [show c.toNat / 2 ^ (7 - 7) = c.toNat by simp, hq]; rfl)
              have HW := Hid.in_ (show bitCells (encL mfm last (bitsN s k ++ bitsTo c 8)) = bitCells (encL mfm last P) ++ [.int .u8 ((chr (clk mfm la false)).toNat : Int)] ++ [.int .u8 48] by rw [show (8 : Nat) = 7 + 1 from rfl, HP.out, HE.out, HA.out, bitCells_app, List.append_assoc]; rfl)
              have HLA := Hid.in_ (show lastOf last (bitsN s k ++ bitsTo c 8) = false by rw [show (8 : Nat) = 7 + 1 from rfl, HP.out, HLS.out, HA.out])
              clear e0 hq HA HE HLS HP
              cases mfm <;> cases la
              all_goals
                first
                | (change Hid (_ = _ ++ [Value.int .u8 49] ++ _) at HW
                   go_wp2_with (first
                     | (go_at_call 161; refine (spec_l05Bit_yes _).mono ?_; rintro e w' ⟨rfl, rfl⟩)
                     | (go_at_call 161; refine (spec_l05Bit_no _).mono ?_; rintro e w' ⟨rfl, rfl⟩)
                     | (at_builtin; refine wpList_append_own _ rfl _ _ 43 rfl w.heap.size 5 i0 (.int .u8 0) 1 1 Tryz.underlying43 hti hz0 hz1 hz2 rfl (by decide) _ _ _ rfl (HJI.out.alloc _) ⟨wr.heap.size, 0, none⟩ 1 1 [.int .u8 49] rfl rfl (cell_one_new _ _ _) (fun x hx => by simp at hx; subst hx; rfl) (by unfold maxLen; omega) (by omega) (balloc HJB.out _).size ?_; intro v4 w4 ho4 hg4 _; have HO4 := Hid.in_ ho4; have HB4 := Hid.in_ (bgrown (balloc HJB.out _) (HJI.out.alloc _) (Nat.le_refl _) hg4); clear ho4 hg4)
                     | (at_builtin; refine wpList_append_own _ rfl _ _ 43 rfl w.heap.size 5 i0 (.int .u8 0) 1 1 Tryz.underlying43 hti hz0 hz1 hz2 rfl (by decide) _ _ _ rfl (HO4.out.alloc _) ⟨w4.heap.size, 0, none⟩ 1 1 [.int .u8 48] rfl rfl (cell_one_new _ _ _) (fun x hx => by simp at hx; subst hx; rfl) (by unfold maxLen; omega) (by omega) (balloc HB4.out _).size ?_; intro v6 w6 ho6 hg6 _; have HO6 := Hid.in_ ho6; have HB6 := Hid.in_ (bgrown (balloc HB4.out _) (HO4.out.alloc _) (Nat.le_refl _) hg6); clear ho6 hg6))
                   have hj2 := HJ.out
                   go_roundg (gk - 1)
                   case measure => omega
                   case rel => exact ⟨8, by omega, by go_num, by rw [HLA.out], by rw [HW.out]; exact HO6.out, HB6.out⟩)
                | (change Hid (_ = _ ++ [Value.int .u8 48] ++ _) at HW
                   go_wp2_with (first
                     | (go_at_call 161; refine (spec_l05Bit_yes _).mono ?_; rintro e w' ⟨rfl, rfl⟩)
                     | (go_at_call 161; refine (spec_l05Bit_no _).mono ?_; rintro e w' ⟨rfl, rfl⟩)
                     | (at_builtin; refine wpList_append_own _ rfl _ _ 43 rfl w.heap.size 5 i0 (.int .u8 0) 1 1 Tryz.underlying43 hti hz0 hz1 hz2 rfl (by decide) _ _ _ rfl (HJI.out.alloc _) ⟨wr.heap.size, 0, none⟩ 1 1 [.int .u8 48] rfl rfl (cell_one_new _ _ _) (fun x hx => by simp at hx; subst hx; rfl) (by unfold maxLen; omega) (by omega) (balloc HJB.out _).size ?_; intro v4 w4 ho4 hg4 _; have HO4 := Hid.in_ ho4; have HB4 := Hid.in_ (bgrown (balloc HJB.out _) (HJI.out.alloc _) (Nat.le_refl _) hg4); clear ho4 hg4)
                     | (at_builtin; refine wpList_append_own _ rfl _ _ 43 rfl w.heap.size 5 i0 (.int .u8 0) 1 1 Tryz.underlying43 hti hz0 hz1 hz2 rfl (by decide) _ _ _ rfl (HO4.out.alloc _) ⟨w4.heap.size, 0, none⟩ 1 1 [.int .u8 48] rfl rfl (cell_one_new _ _ _) (fun x hx => by simp at hx; subst hx; rfl) (by unfold maxLen; omega) (by omega) (balloc HB4.out _).size ?_; intro v6 w6 ho6 hg6 _; have HO6 := Hid.in_ ho6; have HB6 := Hid.in_ (bgrown (balloc HB4.out _) (HO4.out.alloc _) (Nat.le_refl _) hg6); clear ho6 hg6))
                   have hj2 := HJ.out
                   go_roundg (gk - 1)
                   case measure => omega
                   case rel => exact ⟨8, by omega, by go_num, by rw [HLA.out], by rw [HW.out]; exact HO6.out, HB6.out⟩)
            · have e1 : bits BinOp.and .u8 (c.toNat : Int) 1 = 1 := e0.trans (by rw [hq]; rfl)
              have HA := Hid.in_ (show bitAt c 7 = true by unfold bitAt; rw [show c.toNat / 2 ^ (7 - 7) = c.toNat by simp, hq]; rfl)
              have HW := Hid.in_ (show bitCells (encL mfm last (bitsN s k ++ bitsTo c 8)) = bitCells (encL mfm last P) ++ [.int .u8 ((chr (clk mfm la true)).toNat : Int)] ++ [.int .u8 49] by rw [show (8 : Nat) = 7 + 1 from rfl, HP.out, HE.out, HA.out, bitCells_app, List.append_assoc]; rfl)
              have HLA := Hid.in_ (show lastOf last (bitsN s k ++ bitsTo c 8) = true by rw [show (8 : Nat) = 7 + 1 from rfl, HP.out, HLS.out, HA.out])
              clear e0 hq HA HE HLS HP
              cases mfm <;> cases la
              all_goals
                first
                | (change Hid (_ = _ ++ [Value.int .u8 49] ++ _) at HW
                   go_wp2_with (first
                     | (go_at_call 161; refine (spec_l05Bit_yes _).mono ?_; rintro e w' ⟨rfl, rfl⟩)
                     | (go_at_call 161; refine (spec_l05Bit_no _).mono ?_; rintro e w' ⟨rfl, rfl⟩)
                     | (at_builtin; refine wpList_append_own _ rfl _ _ 43 rfl w.heap.size 5 i0 (.int .u8 0) 1 1 Tryz.underlying43 hti hz0 hz1 hz2 rfl (by decide) _ _ _ rfl (HJI.out.alloc _) ⟨wr.heap.size, 0, none⟩ 1 1 [.int .u8 49] rfl rfl (cell_one_new _ _ _) (fun x hx => by simp at hx; subst hx; rfl) (by unfold maxLen; omega) (by omega) (balloc HJB.out _).size ?_; intro v4 w4 ho4 hg4 _; have HO4 := Hid.in_ ho4; have HB4 := Hid.in_ (bgrown (balloc HJB.out _) (HJI.out.alloc _) (Nat.le_refl _) hg4); clear ho4 hg4)
                     | (at_builtin; refine wpList_append_own _ rfl _ _ 43 rfl w.heap.size 5 i0 (.int .u8 0) 1 1 Tryz.underlying43 hti hz0 hz1 hz2 rfl (by decide) _ _ _ rfl (HO4.out.alloc _) ⟨w4.heap.size, 0, none⟩ 1 1 [.int .u8 49] rfl rfl (cell_one_new _ _ _) (fun x hx => by simp at hx; subst hx; rfl) (by unfold maxLen; omega) (by omega) (balloc HB4.out _).size ?_; intro v6 w6 ho6 hg6 _; have HO6 := Hid.in_ ho6; have HB6 := Hid.in_ (bgrown (balloc HB4.out _) (HO4.out.alloc _) (Nat.le_refl _) hg6); clear ho6 hg6))
                   have hj2 := HJ.out
                   go_roundg (gk - 1)
                   case measure => omega
                   case rel => exact ⟨8, by omega, by go_num, by rw [HLA.out], by rw [HW.out]; exact HO6.out, HB6.out⟩)
                | (change Hid (_ = _ ++ [Value.int .u8 48] ++ _) at HW
                   go_wp2_with (first
                     | (go_at_call 161; refine (spec_l05Bit_yes _).mono ?_; rintro e w' ⟨rfl, rfl⟩)
                     | (go_at_call 161; refine (spec_l05Bit_no _).mono ?_; rintro e w' ⟨rfl, rfl⟩)
                     | (at_builtin; refine wpList_append_own _ rfl _ _ 43 rfl w.heap.size 5 i0 (.int .u8 0) 1 1 Tryz.underlying43 hti hz0 hz1 hz2 rfl (by decide) _ _ _ rfl (HJI.out.alloc _) ⟨wr.heap.size, 0, none⟩ 1 1 [.int .u8 48] rfl rfl (cell_one_new _ _ _) (fun x hx => by simp at hx; subst hx; rfl) (by unfold maxLen; omega) (by omega) (balloc HJB.out _).size ?_; intro v4 w4 ho4 hg4 _; have HO4 := Hid.in_ ho4; have HB4 := Hid.in_ (bgrown (balloc HJB.out _) (HJI.out.alloc _) (Nat.le_refl _) hg4); clear ho4 hg4)
                     | (at_builtin; refine wpList_append_own _ rfl _ _ 43 rfl w.heap.size 5 i0 (.int .u8 0) 1 1 Tryz.underlying43 hti hz0 hz1 hz2 rfl (by decide) _ _ _ rfl (HO4.out.alloc _) ⟨w4.heap.size, 0, none⟩ 1 1 [.int .u8 49] rfl rfl (cell_one_new _ _ _) (fun x hx => by simp at hx; subst hx; rfl) (by unfold maxLen; omega) (by omega) (balloc HB4.out _).size ?_; intro v6 w6 ho6 hg6 _; have HO6 := Hid.in_ ho6; have HB6 := Hid.in_ (bgrown (balloc HB4.out _) (HO4.out.alloc _) (Nat.le_refl _) hg6); clear ho6 hg6))
                   have hj2 := HJ.out
                   go_roundg (gk - 1)
                   case measure => omega
                   case rel => exact ⟨8, by omega, by go_num, by rw [HLA.out], by rw [HW.out]; exact HO6.out, HB6.out⟩)
        · have hj2 := HJ.out
          obtain rfl : j = 8 := by omega
          have hO : Hid (_ ∧ _) := ⟨HJI.out, HJB.out⟩
          have HLA : Hid (lastOf last (bitsN s k ++ bitsTo c 8) = lastOf last (bitsN s (k + 1))) := by rw [HN.out]; exact rfl
          rw [← HN.out] at hO
          have hk := HK.out
          go_wp2
          go_roundg (gO - 1)
          case measure => omega
          case rel => exact ⟨k + 1, by omega, by go_num, by rw [HLA.out], hO.out.1, hO.out.2⟩
    · have hk := HK.out
      obtain rfl : k = s.size := by omega
      have hcv := conv_own Tryz.underlying43 Tryz.underlying5 Tryz.underlying9 HI.out
      go_wp2
      go_ret
      exact ⟨ret_strX (HR.out.trans HR2.out).symm, HB.out⟩
end Go.Proofs.YtlelgpknkgjaeaaGreatDoor
