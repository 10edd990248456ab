/- The checksum: 'l01Crc'. -/
import Derived.Test.YtlelgpknkgjaeaaGreatDoorCrc
namespace Go.Proofs.YtlelgpknkgjaeaaGreatDoor
open Go.ChangeShapes Go.WideShapes Go.ChangeAt Go.RowKit
set_option linter.unusedSimpArgs false
set_option linter.unusedVariables false
set_option maxRecDepth 4000

set_option maxHeartbeats 4000000 in
theorem spec_l01Crc (s : ByteArray) (v : Nat) (w : World) (hv : v < 65536) (hs : s.size ≤ 4194304) :
    Calls Tryz.prog 183 #[.string s, .int .i64 v] w fun e w' => e = .returned (.int .i64 (crcN s v s.size : Nat)) ∧ w = w' := by
  have HV := Hid.in_ hv
  go_enter Tryz.func183, Tryz.ntmps183
  go_wp2_with fail
  go_loopg [5, 6] s.size (fun m a i wr => ∃ k : Nat, k + m = s.size ∧ i = .int .i64 k ∧ a = .int .i64 (crcN s v k : Nat) ∧ w = wr)
  case atStart => exact ⟨0, by omega, rfl, rfl, rfl⟩
  case round =>
    obtain ⟨k, hkm, rfl, rfl, rfl⟩ := hrel
    have HK := Hid.in_ hkm
    clear hkm
    by_cases hlt : k < s.size
    · obtain ⟨c, hc⟩ : ∃ c : UInt8, s[k] = c := ⟨_, rfl⟩
      have HN := Hid.in_ (crcN_next (v := v) hlt hc)
      have HL := Hid.in_ (crcN_lt (v := v) HV.out s k)
      generalize crcN s v k = V at *
      go_wp2
      obtain ⟨gO, rfl⟩ : ∃ g, g = gk := ⟨_, rfl⟩
      go_loopg [5, 7] 8 (fun m a i wr => ∃ j : Nat, j + m = 8 ∧ i = .int .i64 (7 - (j : Int)) ∧ a = .int .i64 (crcTo V c j : Nat) ∧ w = wr)
      case atStart => exact ⟨0, by omega, by go_num, rfl, rfl⟩
      case round =>
        obtain ⟨j, hjm, rfl, rfl, rfl⟩ := hrel
        have HJ := Hid.in_ hjm
        clear hjm
        by_cases hj : j < 8
        · have hX := crcTo_lt HL.out c j
          have HB := Hid.in_ (show crcTo V c (j + 1) = crcBit (crcTo V c j) (crcQ c j) from rfl)
          generalize crcTo V c j = X at *
          have hcl := c.toNat_lt
          obtain rfl | rfl | rfl | rfl | rfl | rfl | rfl | rfl := bitFacts c j hj
          · go_wp2_with fail
            all_goals
              have hj2 := HJ.out
              go_roundg (gk - 1)
              case measure => omega
              case rel => exact ⟨1, by omega, by go_num, by first | exact congrArg (Value.int IntKind.i64) (crc_s1 (d := bits .and .i64 ((c.toNat : Int) / 128) 1) hX HB.out (and1_i64 (c.toNat / 128) (by omega)) (by assumption)) | exact congrArg (Value.int IntKind.i64) (crc_s0 (d := bits .and .i64 ((c.toNat : Int) / 128) 1) hX HB.out (and1_i64 (c.toNat / 128) (by omega)) (by assumption)), rfl⟩
          · go_wp2_with fail
            all_goals
              have hj2 := HJ.out
              go_roundg (gk - 1)
              case measure => omega
              case rel => exact ⟨2, by omega, by go_num, by first | exact congrArg (Value.int IntKind.i64) (crc_s1 (d := bits .and .i64 ((c.toNat : Int) / 64) 1) hX HB.out (and1_i64 (c.toNat / 64) (by omega)) (by assumption)) | exact congrArg (Value.int IntKind.i64) (crc_s0 (d := bits .and .i64 ((c.toNat : Int) / 64) 1) hX HB.out (and1_i64 (c.toNat / 64) (by omega)) (by assumption)), rfl⟩
          · go_wp2_with fail
            all_goals
              have hj2 := HJ.out
              go_roundg (gk - 1)
              case measure => omega
              case rel => exact ⟨3, by omega, by go_num, by first | exact congrArg (Value.int IntKind.i64) (crc_s1 (d := bits .and .i64 ((c.toNat : Int) / 32) 1) hX HB.out (and1_i64 (c.toNat / 32) (by omega)) (by assumption)) | exact congrArg (Value.int IntKind.i64) (crc_s0 (d := bits .and .i64 ((c.toNat : Int) / 32) 1) hX HB.out (and1_i64 (c.toNat / 32) (by omega)) (by assumption)), rfl⟩
          · go_wp2_with fail
            all_goals
              have hj2 := HJ.out
              go_roundg (gk - 1)
              case measure => omega
              case rel => exact ⟨4, by omega, by go_num, by first | exact congrArg (Value.int IntKind.i64) (crc_s1 (d := bits .and .i64 ((c.toNat : Int) / 16) 1) hX HB.out (and1_i64 (c.toNat / 16) (by omega)) (by assumption)) | exact congrArg (Value.int IntKind.i64) (crc_s0 (d := bits .and .i64 ((c.toNat : Int) / 16) 1) hX HB.out (and1_i64 (c.toNat / 16) (by omega)) (by assumption)), rfl⟩
          · go_wp2_with fail
            all_goals
              have hj2 := HJ.out
              go_roundg (gk - 1)
              case measure => omega
              case rel => exact ⟨5, by omega, by go_num, by first | exact congrArg (Value.int IntKind.i64) (crc_s1 (d := bits .and .i64 ((c.toNat : Int) / 8) 1) hX HB.out (and1_i64 (c.toNat / 8) (by omega)) (by assumption)) | exact congrArg (Value.int IntKind.i64) (crc_s0 (d := bits .and .i64 ((c.toNat : Int) / 8) 1) hX HB.out (and1_i64 (c.toNat / 8) (by omega)) (by assumption)), rfl⟩
          · go_wp2_with fail
            all_goals
              have hj2 := HJ.out
              go_roundg (gk - 1)
              case measure => omega
              case rel => exact ⟨6, by omega, by go_num, by first | exact congrArg (Value.int IntKind.i64) (crc_s1 (d := bits .and .i64 ((c.toNat : Int) / 4) 1) hX HB.out (and1_i64 (c.toNat / 4) (by omega)) (by assumption)) | exact congrArg (Value.int IntKind.i64) (crc_s0 (d := bits .and .i64 ((c.toNat : Int) / 4) 1) hX HB.out (and1_i64 (c.toNat / 4) (by omega)) (by assumption)), rfl⟩
          · go_wp2_with fail
            all_goals
              have hj2 := HJ.out
              go_roundg (gk - 1)
              case measure => omega
              case rel => exact ⟨7, by omega, by go_num, by first | exact congrArg (Value.int IntKind.i64) (crc_s1 (d := bits .and .i64 ((c.toNat : Int) / 2) 1) hX HB.out (and1_i64 (c.toNat / 2) (by omega)) (by assumption)) | exact congrArg (Value.int IntKind.i64) (crc_s0 (d := bits .and .i64 ((c.toNat : Int) / 2) 1) hX HB.out (and1_i64 (c.toNat / 2) (by omega)) (by assumption)), rfl⟩
          · go_wp2_with fail
            all_goals
              have hj2 := HJ.out
              go_roundg (gk - 1)
              case measure => omega
              case rel => exact ⟨8, by omega, by go_num, by first | exact congrArg (Value.int IntKind.i64) (crc_s1 (d := bits .and .i64 (c.toNat : Int) 1) hX HB.out ((and1_i64 c.toNat (by omega)).trans (by unfold crcQ; simp)) (by assumption)) | exact congrArg (Value.int IntKind.i64) (crc_s0 (d := bits .and .i64 (c.toNat : Int) 1) hX HB.out ((and1_i64 c.toNat (by omega)).trans (by unfold crcQ; simp)) (by assumption)), rfl⟩
        · have hj2 := HJ.out
          obtain rfl : j = 8 := by omega
          go_wp2
          have hk := HK.out
          go_roundg (gO - 1)
          case measure => omega
          case rel => exact ⟨k + 1, by omega, by go_num, by rw [HN.out], rfl⟩
    · have hk := HK.out
      obtain rfl : k = s.size := by omega
      go_wp2
      go_ret
      exact ⟨rfl, rfl⟩
end Go.Proofs.YtlelgpknkgjaeaaGreatDoor
