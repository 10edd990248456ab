/- The bits of bytes: 'bitsOf' of the program. -/
import Derived.Test.YtlelgpknkgjaeaaGreatDoorStr
import Derived.Test.YtlelgpknkgjaeaaGreatDoorRow
import Derived.Lib.Builder
import Derived.Deep.LoopGhost
namespace Go.Proofs.YtlelgpknkgjaeaaGreatDoor
open Go.ChangeShapes Go.WideShapes Go.ChangeAt Go.RowKit
set_option linter.unusedSimpArgs false
set_option linter.unusedVariables false
set_option maxRecDepth 4000

theorem Tryz.infoByte8 : (Tryz.prog.info? 5).map (fun i => (i.zero, i.size, i.bytes)) = some (some (.int .u8 0), 1, 1) := by kernel_rfl
theorem low_u8 (n : Nat) (h : n < 256) : bits BinOp.and .u8 (n : Int) 1 = ((n % 2 : Nat) : Int) := by
  have h' : ∀ n : Fin 256, bits BinOp.and .u8 ((n.val : Nat) : Int) 1 = ((n.val % 2 : Nat) : Int) := by decide +kernel
  exact h' ⟨n, h⟩
/-- The bit of 'c' that the round 'j' looks at: the highest first. -/
def bitAt (c : UInt8) (j : Nat) : Bool := c.toNat / 2 ^ (7 - j) % 2 == 1
def chr (b : Bool) : UInt8 := if b = true then 49 else 48
def bitsTo (c : UInt8) (j : Nat) : List Bool := (List.range j).map (bitAt c)
theorem bitsTo_next (c : UInt8) (j : Nat) : bitsTo c (j + 1) = bitsTo c j ++ [bitAt c j] := by
  unfold bitsTo
  rw [List.range_succ, List.map_append]
  rfl
theorem bitsTo_len (c : UInt8) (j : Nat) : (bitsTo c j).length = j := by simp [bitsTo]
def bitsL (l : List UInt8) : List Bool := l.flatMap fun c => bitsTo c 8
def bitsN (s : ByteArray) (k : Nat) : List Bool := bitsL (s.data.toList.take k)
theorem bitsN_next {s : ByteArray} {k : Nat} (h : k < s.size) {c : UInt8} (hc : s[k] = c) : bitsN s (k + 1) = bitsN s k ++ bitsTo c 8 := by
  subst hc
  have hk : k < s.data.toList.length := by simpa using h
  unfold bitsN bitsL
  rw [List.take_succ_eq_append_getElem hk, List.flatMap_append]
  congr 1
theorem bitsL_len : ∀ l : List UInt8, (bitsL l).length = 8 * l.length
  | [] => rfl
  | c :: l => by
    show (bitsTo c 8 ++ bitsL l).length = _
    rw [List.length_append, bitsTo_len, bitsL_len l, List.length_cons]
    omega
theorem bitsN_len {s : ByteArray} {k : Nat} (h : k ≤ s.size) : (bitsN s k).length = 8 * k := by
  unfold bitsN
  rw [bitsL_len, List.length_take]
  have : s.data.toList.length = s.size := by simp
  omega
def bitsS (s : ByteArray) : ByteArray := ⟨((bitsN s s.size).map chr).toArray⟩
def bitCells (l : List Bool) : List Value := Lib.byteCells (l.map chr)
theorem bitCells_app (a b : List Bool) : bitCells (a ++ b) = bitCells a ++ bitCells b := by
  unfold bitCells Lib.byteCells
  rw [List.map_append, List.map_append]
theorem bitCells_len (a : List Bool) : (bitCells a).length = a.length := by simp [bitCells, Lib.byteCells]
/-- One bit as a cell. -/
theorem bit_cell {c : UInt8} {j q : Nat} (h : q = c.toNat / 2 ^ (7 - j) % 2) : [Value.int .u8 (48 + (q : Int))] = bitCells [bitAt c j] := by
  show _ = [Value.int .u8 ((chr (bitAt c j)).toNat : Int)]
  unfold bitAt chr
  rw [← h]
  have : q = 0 ∨ q = 1 := by omega
  rcases this with rfl | rfl <;> rfl
set_option maxHeartbeats 8000000 in
theorem impl_bitsOf (s : ByteArray) (w : World) (hs : s.size ≤ 1048576) :
    Calls Tryz.prog 120 #[.string s] w fun e w' => e = .returned (.string (bitsS s)) ∧ Below w.heap.size w w' := by
  obtain ⟨i0, hti, hz0, hz1, hz2⟩ := info_parts Tryz.infoByte8
  go_enter Tryz.func120, Tryz.ntmps120
  go_wp2_with (at_make; refine wpList_make_own _ rfl _ _ 43 rfl w.heap.size 5 i0 (.int .u8 0) 1 Tryz.underlying43 hti hz0 hz1 .i64 .i64 _ (8 * s.size) rfl rfl (by push_cast; rfl) (by rw [hz2]; omega) (by unfold maxLen; omega) (Nat.le_refl _) ?_; intro w1 hown hgrow)
  have HO1 := Hid.in_ hown
  have HB1 := Hid.in_ (show Below w.heap.size w w1 from (Below.refl w.heap.size w).grown hgrow (Nat.le_refl _) (fun k hk => by cases hk))
  clear hown hgrow
  go_loopg [3, 12] s.size (fun m v i wr => ∃ k : Nat, k + m = s.size ∧ i = .int .i64 k ∧ Hid (wr.ownsRow w.heap.size 5 1 v (8 * k) (bitCells (bitsN s k))) ∧ Hid (Below w.heap.size w wr))
  case atStart => exact ⟨0, by omega, rfl, HO1.out, HB1.out⟩
  case round =>
    obtain ⟨k, hkm, rfl, HI, HB⟩ := hrel
    have HK := Hid.in_ hkm
    clear hkm
    by_cases hlt : k < s.size
    · obtain ⟨c, hc⟩ : ∃ c : UInt8, s[k] = c := ⟨_, rfl⟩
      have HN := Hid.in_ (bitsN_next hlt hc)
      go_wp2
      obtain ⟨gO, rfl⟩ : ∃ g, g = gk := ⟨_, rfl⟩
      go_loopg [3, 5] 8 (fun m v i wr => ∃ j : Nat, j + m = 8 ∧ i = .int .i64 (7 - (j : Int)) ∧ Hid (wr.ownsRow w.heap.size 5 1 v (8 * k + j) (bitCells (bitsN s k ++ bitsTo c j))) ∧ Hid (Below w.heap.size w wr))
      case atStart => exact ⟨0, by omega, by go_num, by rw [show bitsTo c 0 = [] from rfl, List.append_nil]; exact HI.out, HB.out⟩
      case round =>
        obtain ⟨j, hjm, rfl, HJI, HJB⟩ := hrel
        have HJ := Hid.in_ hjm
        clear hjm
        by_cases hj : j < 8
        · have hcl := c.toNat_lt
          obtain rfl | rfl | rfl | rfl | rfl | rfl | rfl | rfl : j = 0 ∨ j = 1 ∨ j = 2 ∨ j = 3 ∨ j = 4 ∨ j = 5 ∨ j = 6 ∨ j = 7 := by omega
          · obtain ⟨q, hq⟩ : ∃ q : Nat, q = c.toNat / 2 ^ (7 - 0) % 2 := ⟨_, rfl⟩
            have hq1 : q ≤ 1 := by omega
            have e1 : bits BinOp.and .u8 ((c.toNat : Int) / 128) 1 = (q : Int) := (low_u8 (c.toNat / 128) (by omega)).trans (by rw [hq])
            have HQ := Hid.in_ (bit_cell (c := c) (j := 0) hq)
            clear hq
            go_wp2_with (at_builtin; refine wpList_append_own _ rfl _ _ 43 rfl w.heap.size 5 i0 (.int .u8 0) 1 1 Tryz.underlying43 hti hz0 hz1 hz2 rfl (by decide) _ _ _ rfl (HJI.out.alloc _) ⟨wr.heap.size, 0, none⟩ 1 1 [.int .u8 (48 + (q : Int))] rfl rfl (cell_one_new _ _ _) (fun x hx => by simp at hx; subst hx; rfl) (by unfold maxLen; omega) (by omega) (balloc HJB.out _).size ?_; intro v4 w4 ho4 hg4 _)
            have HB4 := Hid.in_ (bgrown (balloc HJB.out _) (HJI.out.alloc _) (Nat.le_refl _) hg4)
            rw [HQ.out, ← bitCells_app, List.append_assoc, ← bitsTo_next] at ho4
            have HO4 := Hid.in_ ho4
            clear ho4 hg4
            have hj2 := HJ.out
            go_roundg (gk - 1)
            case measure => omega
            case rel => exact ⟨1, by omega, by go_num, HO4.out, HB4.out⟩
          · obtain ⟨q, hq⟩ : ∃ q : Nat, q = c.toNat / 2 ^ (7 - 1) % 2 := ⟨_, rfl⟩
            have hq1 : q ≤ 1 := by omega
            have e1 : bits BinOp.and .u8 ((c.toNat : Int) / 64) 1 = (q : Int) := (low_u8 (c.toNat / 64) (by omega)).trans (by rw [hq])
            have HQ := Hid.in_ (bit_cell (c := c) (j := 1) hq)
            clear hq
            go_wp2_with (at_builtin; refine wpList_append_own _ rfl _ _ 43 rfl w.heap.size 5 i0 (.int .u8 0) 1 1 Tryz.underlying43 hti hz0 hz1 hz2 rfl (by decide) _ _ _ rfl (HJI.out.alloc _) ⟨wr.heap.size, 0, none⟩ 1 1 [.int .u8 (48 + (q : Int))] rfl rfl (cell_one_new _ _ _) (fun x hx => by simp at hx; subst hx; rfl) (by unfold maxLen; omega) (by omega) (balloc HJB.out _).size ?_; intro v4 w4 ho4 hg4 _)
            have HB4 := Hid.in_ (bgrown (balloc HJB.out _) (HJI.out.alloc _) (Nat.le_refl _) hg4)
            rw [HQ.out, ← bitCells_app, List.append_assoc, ← bitsTo_next] at ho4
            have HO4 := Hid.in_ ho4
            clear ho4 hg4
            have hj2 := HJ.out
            go_roundg (gk - 1)
            case measure => omega
            case rel => exact ⟨2, by omega, by go_num, HO4.out, HB4.out⟩
          · obtain ⟨q, hq⟩ : ∃ q : Nat, q = c.toNat / 2 ^ (7 - 2) % 2 := ⟨_, rfl⟩
            have hq1 : q ≤ 1 := by omega
            have e1 : bits BinOp.and .u8 ((c.toNat : Int) / 32) 1 = (q : Int) := (low_u8 (c.toNat / 32) (by omega)).trans (by rw [hq])
            have HQ := Hid.in_ (bit_cell (c := c) (j := 2) hq)
            clear hq
            go_wp2_with (at_builtin; refine wpList_append_own _ rfl _ _ 43 rfl w.heap.size 5 i0 (.int .u8 0) 1 1 Tryz.underlying43 hti hz0 hz1 hz2 rfl (by decide) _ _ _ rfl (HJI.out.alloc _) ⟨wr.heap.size, 0, none⟩ 1 1 [.int .u8 (48 + (q : Int))] rfl rfl (cell_one_new _ _ _) (fun x hx => by simp at hx; subst hx; rfl) (by unfold maxLen; omega) (by omega) (balloc HJB.out _).size ?_; intro v4 w4 ho4 hg4 _)
            have HB4 := Hid.in_ (bgrown (balloc HJB.out _) (HJI.out.alloc _) (Nat.le_refl _) hg4)
            rw [HQ.out, ← bitCells_app, List.append_assoc, ← bitsTo_next] at ho4
            have HO4 := Hid.in_ ho4
            clear ho4 hg4
            have hj2 := HJ.out
            go_roundg (gk - 1)
            case measure => omega
            case rel => exact ⟨3, by omega, by go_num, HO4.out, HB4.out⟩
          · obtain ⟨q, hq⟩ : ∃ q : Nat, q = c.toNat / 2 ^ (7 - 3) % 2 := ⟨_, rfl⟩
            have hq1 : q ≤ 1 := by omega
            have e1 : bits BinOp.and .u8 ((c.toNat : Int) / 16) 1 = (q : Int) := (low_u8 (c.toNat / 16) (by omega)).trans (by rw [hq])
            have HQ := Hid.in_ (bit_cell (c := c) (j := 3) hq)
            clear hq
            go_wp2_with (at_builtin; refine wpList_append_own _ rfl _ _ 43 rfl w.heap.size 5 i0 (.int .u8 0) 1 1 Tryz.underlying43 hti hz0 hz1 hz2 rfl (by decide) _ _ _ rfl (HJI.out.alloc _) ⟨wr.heap.size, 0, none⟩ 1 1 [.int .u8 (48 + (q : Int))] rfl rfl (cell_one_new _ _ _) (fun x hx => by simp at hx; subst hx; rfl) (by unfold maxLen; omega) (by omega) (balloc HJB.out _).size ?_; intro v4 w4 ho4 hg4 _)
            have HB4 := Hid.in_ (bgrown (balloc HJB.out _) (HJI.out.alloc _) (Nat.le_refl _) hg4)
            rw [HQ.out, ← bitCells_app, List.append_assoc, ← bitsTo_next] at ho4
            have HO4 := Hid.in_ ho4
            clear ho4 hg4
            have hj2 := HJ.out
            go_roundg (gk - 1)
            case measure => omega
            case rel => exact ⟨4, by omega, by go_num, HO4.out, HB4.out⟩
          · obtain ⟨q, hq⟩ : ∃ q : Nat, q = c.toNat / 2 ^ (7 - 4) % 2 := ⟨_, rfl⟩
            have hq1 : q ≤ 1 := by omega
            have e1 : bits BinOp.and .u8 ((c.toNat : Int) / 8) 1 = (q : Int) := (low_u8 (c.toNat / 8) (by omega)).trans (by rw [hq])
            have HQ := Hid.in_ (bit_cell (c := c) (j := 4) hq)
            clear hq
            go_wp2_with (at_builtin; refine wpList_append_own _ rfl _ _ 43 rfl w.heap.size 5 i0 (.int .u8 0) 1 1 Tryz.underlying43 hti hz0 hz1 hz2 rfl (by decide) _ _ _ rfl (HJI.out.alloc _) ⟨wr.heap.size, 0, none⟩ 1 1 [.int .u8 (48 + (q : Int))] rfl rfl (cell_one_new _ _ _) (fun x hx => by simp at hx; subst hx; rfl) (by unfold maxLen; omega) (by omega) (balloc HJB.out _).size ?_; intro v4 w4 ho4 hg4 _)
            have HB4 := Hid.in_ (bgrown (balloc HJB.out _) (HJI.out.alloc _) (Nat.le_refl _) hg4)
            rw [HQ.out, ← bitCells_app, List.append_assoc, ← bitsTo_next] at ho4
            have HO4 := Hid.in_ ho4
            clear ho4 hg4
            have hj2 := HJ.out
            go_roundg (gk - 1)
            case measure => omega
            case rel => exact ⟨5, by omega, by go_num, HO4.out, HB4.out⟩
          · obtain ⟨q, hq⟩ : ∃ q : Nat, q = c.toNat / 2 ^ (7 - 5) % 2 := ⟨_, rfl⟩
            have hq1 : q ≤ 1 := by omega
            have e1 : bits BinOp.and .u8 ((c.toNat : Int) / 4) 1 = (q : Int) := (low_u8 (c.toNat / 4) (by omega)).trans (by rw [hq])
            have HQ := Hid.in_ (bit_cell (c := c) (j := 5) hq)
            clear hq
            go_wp2_with (at_builtin; refine wpList_append_own _ rfl _ _ 43 rfl w.heap.size 5 i0 (.int .u8 0) 1 1 Tryz.underlying43 hti hz0 hz1 hz2 rfl (by decide) _ _ _ rfl (HJI.out.alloc _) ⟨wr.heap.size, 0, none⟩ 1 1 [.int .u8 (48 + (q : Int))] rfl rfl (cell_one_new _ _ _) (fun x hx => by simp at hx; subst hx; rfl) (by unfold maxLen; omega) (by omega) (balloc HJB.out _).size ?_; intro v4 w4 ho4 hg4 _)
            have HB4 := Hid.in_ (bgrown (balloc HJB.out _) (HJI.out.alloc _) (Nat.le_refl _) hg4)
            rw [HQ.out, ← bitCells_app, List.append_assoc, ← bitsTo_next] at ho4
            have HO4 := Hid.in_ ho4
            clear ho4 hg4
            have hj2 := HJ.out
            go_roundg (gk - 1)
            case measure => omega
            case rel => exact ⟨6, by omega, by go_num, HO4.out, HB4.out⟩
          · obtain ⟨q, hq⟩ : ∃ q : Nat, q = c.toNat / 2 ^ (7 - 6) % 2 := ⟨_, rfl⟩
            have hq1 : q ≤ 1 := by omega
            have e1 : bits BinOp.and .u8 ((c.toNat : Int) / 2) 1 = (q : Int) := (low_u8 (c.toNat / 2) (by omega)).trans (by rw [hq])
            have HQ := Hid.in_ (bit_cell (c := c) (j := 6) hq)
            clear hq
            go_wp2_with (at_builtin; refine wpList_append_own _ rfl _ _ 43 rfl w.heap.size 5 i0 (.int .u8 0) 1 1 Tryz.underlying43 hti hz0 hz1 hz2 rfl (by decide) _ _ _ rfl (HJI.out.alloc _) ⟨wr.heap.size, 0, none⟩ 1 1 [.int .u8 (48 + (q : Int))] rfl rfl (cell_one_new _ _ _) (fun x hx => by simp at hx; subst hx; rfl) (by unfold maxLen; omega) (by omega) (balloc HJB.out _).size ?_; intro v4 w4 ho4 hg4 _)
            have HB4 := Hid.in_ (bgrown (balloc HJB.out _) (HJI.out.alloc _) (Nat.le_refl _) hg4)
            rw [HQ.out, ← bitCells_app, List.append_assoc, ← bitsTo_next] at ho4
            have HO4 := Hid.in_ ho4
            clear ho4 hg4
            have hj2 := HJ.out
            go_roundg (gk - 1)
            case measure => omega
            case rel => exact ⟨7, by omega, by go_num, HO4.out, HB4.out⟩
          · obtain ⟨q, hq⟩ : ∃ q : Nat, q = c.toNat / 2 ^ (7 - 7) % 2 := ⟨_, rfl⟩
            have hq1 : q ≤ 1 := by omega
            have e1 : bits BinOp.and .u8 (c.toNat : Int) 1 = (q : Int) := (low_u8 (c.toNat) (by omega)).trans (by rw [hq]; simp)
            have HQ := Hid.in_ (bit_cell (c := c) (j := 7) hq)
            clear hq
            go_wp2_with (at_builtin; refine wpList_append_own _ rfl _ _ 43 rfl w.heap.size 5 i0 (.int .u8 0) 1 1 Tryz.underlying43 hti hz0 hz1 hz2 rfl (by decide) _ _ _ rfl (HJI.out.alloc _) ⟨wr.heap.size, 0, none⟩ 1 1 [.int .u8 (48 + (q : Int))] rfl rfl (cell_one_new _ _ _) (fun x hx => by simp at hx; subst hx; rfl) (by unfold maxLen; omega) (by omega) (balloc HJB.out _).size ?_; intro v4 w4 ho4 hg4 _)
            have HB4 := Hid.in_ (bgrown (balloc HJB.out _) (HJI.out.alloc _) (Nat.le_refl _) hg4)
            rw [HQ.out, ← bitCells_app, List.append_assoc, ← bitsTo_next] at ho4
            have HO4 := Hid.in_ ho4
            clear ho4 hg4
            have hj2 := HJ.out
            go_roundg (gk - 1)
            case measure => omega
            case rel => exact ⟨8, by omega, by go_num, HO4.out, HB4.out⟩
        · have hj2 := HJ.out
          obtain rfl : j = 8 := by omega
          have hO : Hid (_ ∧ _) := ⟨HJI.out, HJB.out⟩
          rw [← HN.out] at hO
          have hk := HK.out
          go_wp2
          go_roundg (gO - 1)
          case measure => omega
          case rel => exact ⟨k + 1, by omega, by go_num, hO.out.1, hO.out.2⟩
    · have hk := HK.out
      obtain rfl : k = s.size := by omega
      have hcv := conv_own Tryz.underlying43 Tryz.underlying5 Tryz.underlying9 HI.out
      go_wp2
      go_ret
      exact ⟨rfl, HB.out⟩
end Go.Proofs.YtlelgpknkgjaeaaGreatDoor
