/- Bytes of bits: 'bytesOf' of the program, 'BytesOf' of the reference. -/
import Derived.Test.YtlelgpknkgjaeaaGreatDoorDist
import Derived.Test.YtlelgpknkgjaeaaGreatDoorStr
import Derived.Test.YtlelgpknkgjaeaaGreatDoorRow
import Derived.Lib.Builder
import Derived.StillTailTactics
import Derived.Deep.LoopGhost
namespace Go.Proofs.YtlelgpknkgjaeaaGreatDoor
open Go.ChangeShapes Go.WideShapes Go.ChangeAt Go.RowKit
set_option linter.unusedSimpArgs false
set_option linter.unusedVariables false
set_option maxRecDepth 4000

theorem Tryz.infoU8b : (Tryz.prog.info? 5).map (fun i => (i.zero, i.size, i.bytes)) = some (some (.int .u8 0), 1, 1) := by kernel_rfl
def bitU (c : UInt8) : Nat := if c = 49 then 1 else 0
theorem bitU_le (c : UInt8) : bitU c ≤ 1 := by unfold bitU; split <;> omega
/-- The number that the first 'j' bits of the byte 'm' make. -/
def accB (B : ByteArray) (m : Nat) : Nat → Nat
  | 0 => 0
  | j + 1 => 2 * accB B m j + bitU (byteAt B (8 * m + j))
theorem accB_lt (B : ByteArray) (m : Nat) : ∀ j, accB B m j < 2 ^ j
  | 0 => Nat.one_pos
  | j + 1 => by
    have h1 := accB_lt B m j
    have h2 := bitU_le (byteAt B (8 * m + j))
    show 2 * accB B m j + bitU (byteAt B (8 * m + j)) < 2 ^ (j + 1)
    rw [Nat.pow_succ]
    omega
theorem accB_low {B : ByteArray} {m j : Nat} (h : j < 8) : accB B m j < 128 := by
  have h1 := accB_lt B m j
  have h2 : 2 ^ j ≤ 2 ^ 7 := Nat.pow_le_pow_right (by decide) (by omega)
  omega
def partB (B : ByteArray) (N i : Nat) : List UInt8 := (List.range N).map fun m => UInt8.ofNat (accB B m (min 8 (i - 8 * m)))
def bytesTo (B : ByteArray) (k : Nat) : List UInt8 := (List.range k).map fun m => UInt8.ofNat (accB B m 8)
def bytesS (B : ByteArray) : ByteArray := ⟨(bytesTo B (B.size / 8)).toArray⟩
theorem partB_len (B : ByteArray) (N i : Nat) : (partB B N i).length = N := by simp [partB]
theorem bytesTo_len (B : ByteArray) (k : Nat) : (bytesTo B k).length = k := by simp [bytesTo]
theorem bytesTo_next (B : ByteArray) (k : Nat) : bytesTo B (k + 1) = bytesTo B k ++ [UInt8.ofNat (accB B k 8)] := by
  unfold bytesTo
  rw [List.range_succ, List.map_append]
  rfl
theorem partB_none (B : ByteArray) (N : Nat) : partB B N 0 = List.replicate N 0 := by
  apply List.ext_getElem
  · rw [partB_len, List.length_replicate]
  · intro j h1 h2
    simp only [partB, List.getElem_map, List.getElem_range, List.getElem_replicate, Nat.zero_sub]
    rfl
theorem partB_all (B : ByteArray) (N : Nat) : partB B N (8 * N) = bytesTo B N := by
  apply List.ext_getElem
  · rw [partB_len, bytesTo_len]
  · intro j h1 h2
    rw [partB_len] at h1
    simp only [partB, bytesTo, List.getElem_map, List.getElem_range]
    rw [show min 8 (8 * N - 8 * j) = 8 by omega]
theorem partB_get {B : ByteArray} {N m j : Nat} (hm : m < N) (hj : j < 8) : (partB B N (8 * m + j))[m]? = some (UInt8.ofNat (accB B m j)) := by
  unfold partB
  rw [List.getElem?_map, List.getElem?_range hm]
  show some (UInt8.ofNat (accB B m (min 8 (8 * m + j - 8 * m)))) = _
  rw [show min 8 (8 * m + j - 8 * m) = j by omega]
theorem partB_set {B : ByteArray} {N m j : Nat} (hm : m < N) (hj : j < 8) : (partB B N (8 * m + j)).set m (UInt8.ofNat (accB B m (j + 1))) = partB B N (8 * m + j + 1) := by
  apply List.ext_getElem
  · rw [List.length_set, partB_len, partB_len]
  · intro q h1 h2
    rw [partB_len] at h2
    by_cases hq : m = q
    · subst hq
      rw [List.getElem_set_self]
      simp only [partB, List.getElem_map, List.getElem_range]
      rw [show min 8 (8 * m + j + 1 - 8 * m) = j + 1 by omega]
    · rw [List.getElem_set_ne hq]
      simp only [partB, List.getElem_map, List.getElem_range]
      rw [show min 8 (8 * m + j - 8 * q) = min 8 (8 * m + j + 1 - 8 * q) by omega]
theorem byteCells_put (m : List UInt8) (k : Nat) (c : UInt8) : (Lib.byteCells m).set k (.int .u8 (c.toNat : Int)) = Lib.byteCells (m.set k c) := by unfold Lib.byteCells; rw [List.map_set]
theorem byteCells_at {l : List UInt8} {k : Nat} {c : UInt8} (h : l[k]? = some c) : (Lib.byteCells l)[k]? = some (.int .u8 (c.toNat : Int)) := by unfold Lib.byteCells; rw [List.getElem?_map, h]; rfl
theorem cell_of_set {B : ByteArray} {N m j q : Nat} (hm : m < N) (hj : j < 8) (h : accB B m (j + 1) = q) : (Lib.byteCells (partB B N (8 * m + j))).set m (.int .u8 (q : Int)) = Lib.byteCells (partB B N (8 * m + j + 1)) := by
  rw [← partB_set hm hj, ← byteCells_put]
  congr 1
  have hl : accB B m (j + 1) < 256 := by
    have h1 := accB_lt B m (j + 1)
    have h2 : 2 ^ (j + 1) ≤ 2 ^ 8 := Nat.pow_le_pow_right (by decide) (by omega)
    omega
  rw [← h, UInt8.toNat_ofNat', show accB B m (j + 1) % 2 ^ 8 = accB B m (j + 1) by omega]
theorem allBits_at {B : ByteArray} (h : allBits B = true) {k : Nat} (hk : k < B.size) : B[k] = 48 ∨ B[k] = 49 := by
  cases hb : isBit B[k]
  · rw [allBits_no hk hb] at h
    cases h
  · unfold isBit at hb
    simpa using hb
theorem accB_at {B : ByteArray} {m j : Nat} (h : 8 * m + j < B.size) {c : UInt8} (hc : B[8 * m + j] = c) : accB B m (j + 1) = 2 * accB B m j + bitU c := by
  show 2 * accB B m j + bitU (byteAt B (8 * m + j)) = _
  rw [byteAt_eq h, hc]
theorem bytes_put {w w' : World} {B : ByteArray} {N k m j q : Nat} {e : TypeId} (hk : k = 8 * m + j) (hm : m < N) (hj : j < 8)
    (ho : w'.ownsRow w.heap.size e 1 (.slice (some ⟨w.heap.size, 0, none⟩) N N) N (Lib.byteCells (partB B N k))) (hb : Below w.heap.size w w') (h : accB B m (j + 1) = q) :
    (w'.setCell ⟨w.heap.size, m, none⟩ (.int .u8 (q : Int))).ownsRow w.heap.size e 1 (.slice (some ⟨w.heap.size, 0, none⟩) N N) N (Lib.byteCells (partB B N (k + 1))) ∧ Below w.heap.size w (w'.setCell ⟨w.heap.size, m, none⟩ (.int .u8 (q : Int))) := by
  subst hk
  exact ⟨by rw [← cell_of_set hm hj h]; exact (ho.stored m _).1, hb.setCell (p := ⟨w.heap.size, m, none⟩) (Nat.le_refl _) _⟩
theorem or_low0 (x : Nat) (h : x < 128) : bits BinOp.or .u8 ((2 * x : Nat) : Int) 0 = ((2 * x : Nat) : Int) := by
  have h' : ∀ x : Fin 128, bits BinOp.or .u8 ((2 * x.val : Nat) : Int) 0 = ((2 * x.val : Nat) : Int) := by decide +kernel
  exact h' ⟨x, h⟩
theorem or_low1 (x : Nat) (h : x < 128) : bits BinOp.or .u8 ((2 * x : Nat) : Int) 1 = ((2 * x + 1 : Nat) : Int) := by
  have h' : ∀ x : Fin 128, bits BinOp.or .u8 ((2 * x.val : Nat) : Int) 1 = ((2 * x.val + 1 : Nat) : Int) := by decide +kernel
  exact h' ⟨x, h⟩
theorem ret2_sbB {a b : ByteArray} {x y : Bool} (h : a = b) (k : x = y) : Ending.returned (.tuple #[.string a, .bool x]) = .returned (.tuple #[.string b, .bool y]) := by rw [h, k]
theorem ret_strB {a b : ByteArray} (h : a = b) : Ending.returned (.string a) = .returned (.string b) := by rw [h]
set_option maxHeartbeats 4000000 in
theorem impl_bytesOf (B : ByteArray) (w : World) (N : Nat) (h8 : B.size = 8 * N) (hs : B.size ≤ 1048576) (hb : allBits B = true) :
    Calls Tryz.prog 184 #[.string B] w fun e w' => e = .returned (.string (bytesS B)) ∧ Below w.heap.size w w' := by
  obtain ⟨i0, hti, hz0, hz1, hz2⟩ := info_parts Tryz.infoU8b
  have HR := Hid.in_ (show bytesS B = ⟨(bytesTo B N).toArray⟩ by unfold bytesS; rw [show B.size / 8 = N by omega])
  have HA := Hid.in_ hb
  have H8 := Hid.in_ h8
  have hmk : (B.size : Int) / 8 = (N : Int) := by omega
  clear hb h8
  go_enter Tryz.func184, Tryz.ntmps184
  go_wp2_with (at_make; refine wpList_make_full _ rfl _ _ _ rfl w.heap.size 5 i0 _ 1 Tryz.underlying43 hti hz0 hz1 _ _ _ _ N rfl rfl rfl rfl (by rw [hz2]; omega) (by unfold maxLen; omega) (Nat.le_refl _) ?_; intro w1 hown hgrow)
  have HO : Hid (w1.ownsRow w.heap.size 5 1 (.slice (some ⟨w.heap.size, 0, none⟩) N N) N (Lib.byteCells (partB B N 0)) ∧ Below w.heap.size w w1) := by
    refine ⟨?_, (Below.refl _ _).grown hgrow (Nat.le_refl _) (by simp)⟩
    have : (madeCells (Value.cells (.int .u8 0)) (N * 1)).toList = Lib.byteCells (partB B N 0) := by
      rw [Nat.mul_one, show Value.cells (.int .u8 0) = #[.int .u8 0] from rfl, toList_madeCells_one, partB_none]
      unfold Lib.byteCells
      rw [List.map_replicate]
      rfl
    rw [← this]
    exact hown
  clear hown hgrow
  go_loopg [11] B.size (fun m i wr => ∃ k : Nat, k + m = B.size ∧ i = .int .i64 k ∧ Hid (wr.ownsRow w.heap.size 5 1 (.slice (some ⟨w.heap.size, 0, none⟩) N N) N (Lib.byteCells (partB B N k)) ∧ Below w.heap.size w wr))
  case atStart => exact ⟨0, by omega, rfl, HO⟩
  case round =>
    clear HO
    obtain ⟨k, hkm, rfl, HO⟩ := hrel
    have HK := Hid.in_ hkm
    clear hkm
    by_cases hlt : k < B.size
    · obtain ⟨m, j, hkmj, hj⟩ : ∃ m j, k = 8 * m + j ∧ j < 8 := ⟨k / 8, k % 8, by omega, by omega⟩
      have hm : m < N := by have := H8.out; omega
      obtain ⟨x, hx⟩ : ∃ x, accB B m j = x := ⟨_, rfl⟩
      have hx8 : x < 128 := by rw [← hx]; exact accB_low hj
      have f1 := HO.out.1.cellAt m (by omega)
      rw [hkmj, byteCells_at (partB_get hm hj), hx, UInt8.toNat_ofNat', show x % 2 ^ 8 = x by omega] at f1
      have f2 := HO.out.1.frozenAt m
      have q1 : ((k : Int).tdiv 8) = (m : Int) := by rw [Int.tdiv_eq_ediv_of_nonneg (by omega)]; omega
      have q3 : IntKind.i64.wrap (m : Int) = (m : Int) := IntWalk.i64_in _ (by omega)
      have q4 : (m : Int) < (N : Int) := by omega
      have q5 : 0 < N := by omega
      have q6 : IntKind.u8.wrap ((x : Int) * 2) = ((2 * x : Nat) : Int) := (IntWalk.u8_in _ (by omega)).trans (by omega)
      obtain hc | hc := allBits_at HA.out hlt
      · have HS := Hid.in_ (bytes_put (e := 5) (m := m) (q := 2 * x) hkmj hm hj HO.out.1 HO.out.2 (by rw [accB_at (hkmj ▸ hlt) (c := 48) (by simp only [← hkmj]; exact hc), hx]; rfl))
        have q7 : bits BinOp.or .u8 (2 * (x : Int)) 0 = 2 * (x : Int) := by have := or_low0 x hx8; push_cast at this; exact this
        have q8 : IntKind.u8.wrap 0 = 0 := by decide
        rw [show ((2 * x : Nat) : Int) = 2 * (x : Int) by omega] at HS
        clear HO hkmj hx hm
        go_wp2_with fail
        go_still_tail 15, (by kernel_rfl)
        go_wp2
        have hk := HK.out
        go_roundg (gk - 1)
        case measure => omega
        case rel => exact ⟨k + 1, by omega, by go_num, ⟨own_drewN HS.out.1 1, HS.out.2.drew⟩⟩
      · have HS := Hid.in_ (bytes_put (e := 5) (m := m) (q := 2 * x + 1) hkmj hm hj HO.out.1 HO.out.2 (by rw [accB_at (hkmj ▸ hlt) (c := 49) (by simp only [← hkmj]; exact hc), hx]; rfl))
        have q7 : bits BinOp.or .u8 (2 * (x : Int)) 1 = 2 * (x : Int) + 1 := by have := or_low1 x hx8; push_cast at this; exact this
        have q8 : IntKind.u8.wrap 1 = 1 := by decide
        rw [show ((2 * x + 1 : Nat) : Int) = 2 * (x : Int) + 1 by omega] at HS
        clear HO hkmj hx hm
        go_wp2_with fail
        go_still_tail 15, (by kernel_rfl)
        go_wp2
        have hk := HK.out
        go_roundg (gk - 1)
        case measure => omega
        case rel => exact ⟨k + 1, by omega, by go_num, ⟨own_drewN HS.out.1 1, HS.out.2.drew⟩⟩
    · have hk := HK.out
      obtain rfl : k = B.size := by omega
      have hO := HO.out.1
      rw [H8.out, partB_all] at hO
      have hcv := conv_own Tryz.underlying43 Tryz.underlying5 Tryz.underlying9 hO
      go_wp2
      go_ret
      exact ⟨ret_strB HR.out.symm, HO.out.2⟩
set_option maxHeartbeats 4000000 in
theorem spec_BytesOf (B : ByteArray) (w : World) (N : Nat) (h8 : B.size = 8 * N) (hs : B.size ≤ 32768) (hb : allBits B = true) :
    Calls Tryz.prog 181 #[.string B] w fun e w' => e = .returned (.tuple #[.string (bytesS B), .bool true]) ∧ Below w.heap.size w w' := by
  obtain ⟨i0, hti, hz0, hz1, hz2⟩ := info_parts Tryz.infoU8b
  have HR := Hid.in_ (show bytesS B = ⟨(bytesTo B N).toArray⟩ by unfold bytesS; rw [show B.size / 8 = N by omega])
  have HA := Hid.in_ hb
  have H8 := Hid.in_ h8
  have a48 : bits BinOp.and .u8 48 1 = 0 := by decide
  have a49 : bits BinOp.and .u8 49 1 = 1 := by decide
  have hrem : (B.size : Int) % 8 = 0 := by omega
  have hrem2 : (B.size : Int).tmod 8 = 0 := by rw [Int.tmod_eq_emod_of_nonneg (by omega)]; omega
  clear hb h8
  go_enter Tryz.func181, Tryz.ntmps181
  go_wp2_with fail
  go_loopg [4, 5] N (fun m v i wr => ∃ k : Nat, k + m = N ∧ i = .int .i64 (8 * (k : Int)) ∧ Hid (wr.ownsRow w.heap.size 5 1 v k (Lib.byteCells (bytesTo B k))) ∧ Hid (Below w.heap.size w wr))
  case atStart => exact ⟨0, by omega, rfl, World.ownsRow_lit w #[] 0 (Nat.le_refl _) (by decide) (by decide), balloc (Below.refl _ _) _⟩
  case round =>
    obtain ⟨k, hkm, rfl, HI, HB⟩ := hrel
    have HK := Hid.in_ hkm
    clear hkm
    by_cases hlt : k < N
    · have h8k : 8 * k < B.size := by have := H8.out; omega
      go_wp2_with fail
      obtain ⟨gO, rfl⟩ : ∃ g, g = gk := ⟨_, rfl⟩
      go_loopg [6, 7] 8 (fun m v i w2 => ∃ j : Nat, j + m = 8 ∧ i = .int .i64 j ∧ v = .int .u8 (accB B k j : Int) ∧ wr = w2)
      case atStart => exact ⟨0, by omega, rfl, rfl, rfl⟩
      case round =>
        obtain ⟨j, hjm, rfl, rfl, rfl⟩ := hrel
        have HJ := Hid.in_ hjm
        clear hjm
        by_cases hj : j < 8
        · obtain ⟨q, hq⟩ : ∃ q, q = 8 * k + j := ⟨_, rfl⟩
          have hqs : q < B.size := by have := H8.out; omega
          have hqi : 8 * (k : Int) + (j : Int) = (q : Int) := by omega
          obtain ⟨x, hx⟩ : ∃ x, accB B k j = x := ⟨_, rfl⟩
          have hx8 : x < 128 := by rw [← hx]; exact accB_low hj
          have q6 : IntKind.u8.wrap ((x : Int) * 2) = 2 * (x : Int) := (IntWalk.u8_in _ (by omega)).trans (by omega)
          obtain hc | hc := allBits_at HA.out hqs
          · have HN := Hid.in_ (show accB B k (j + 1) = 2 * x by rw [accB_at (hq ▸ hqs) (c := 48) (by simp only [← hq]; exact hc), hx]; rfl)
            have q7 : bits BinOp.or .u8 (2 * (x : Int)) 0 = 2 * (x : Int) := by have := or_low0 x hx8; push_cast at this; exact this
            rw [hx]
            clear hq hx
            go_wp2
            have hj2 := HJ.out
            go_roundg (gk - 1)
            case measure => omega
            case rel => exact ⟨j + 1, by omega, by go_num, by rw [HN.out]; go_num, rfl⟩
          · have HN := Hid.in_ (show accB B k (j + 1) = 2 * x + 1 by rw [accB_at (hq ▸ hqs) (c := 49) (by simp only [← hq]; exact hc), hx]; rfl)
            have q7 : bits BinOp.or .u8 (2 * (x : Int)) 1 = 2 * (x : Int) + 1 := by have := or_low1 x hx8; push_cast at this; exact this
            rw [hx]
            clear hq hx
            go_wp2
            have hj2 := HJ.out
            go_roundg (gk - 1)
            case measure => omega
            case rel => exact ⟨j + 1, by omega, by go_num, by rw [HN.out]; go_num, rfl⟩
        · have hj2 := HJ.out
          obtain rfl : j = 8 := by omega
          have hl := accB_lt B k 8
          have HW := Hid.in_ (show Lib.byteCells (bytesTo B k) ++ [.int .u8 (accB B k 8 : Int)] = Lib.byteCells (bytesTo B (k + 1)) by
            rw [bytesTo_next]
            unfold Lib.byteCells
            rw [List.map_append]
            congr 1
            show _ = [Value.int .u8 ((UInt8.ofNat (accB B k 8)).toNat : Int)]
            rw [UInt8.toNat_ofNat', show accB B k 8 % 2 ^ 8 = accB B k 8 by omega])
          generalize accB B k 8 = x at *
          go_wp2_with (at_builtin; refine wpList_append_own _ rfl _ _ 43 rfl w.heap.size 5 i0 (.int .u8 0) 1 1 Tryz.underlying43 hti hz0 hz1 hz2 rfl (by decide) _ _ _ rfl (HI.out.alloc _) ⟨wr.heap.size, 0, none⟩ 1 1 [.int .u8 (x : Int)] rfl rfl (cell_one_new _ _ _) (fun x hx => by simp at hx; subst hx; rfl) (by unfold maxLen; omega) (by omega) (balloc HB.out _).size ?_; intro v6 w6 ho6 hg6 _)
          have HB6 := Hid.in_ (bgrown (balloc HB.out _) (HI.out.alloc _) (Nat.le_refl _) hg6)
          rw [HW.out] at ho6
          have HO6 := Hid.in_ ho6
          clear ho6 hg6
          have hk := HK.out
          go_roundg (gO - 1)
          case measure => omega
          case rel => exact ⟨k + 1, by omega, by go_num, HO6, HB6⟩
    · have hk := HK.out
      obtain rfl : k = N := by omega
      have hge : ¬ (8 * (k : Int) < (B.size : Int)) := by have := H8.out; omega
      have hc := conv_own Tryz.underlying43 Tryz.underlying5 Tryz.underlying9 HI.out
      go_wp2
      go_ret2
      exact ⟨ret2_sbB HR.out.symm rfl, HB.out⟩
end Go.Proofs.YtlelgpknkgjaeaaGreatDoor
