/- The checksum of fields: 'Crc16', 'PutWord' of the program and of the reference. -/
import Derived.Test.YtlelgpknkgjaeaaGreatDoorMem
import Derived.Laws.BitsLemmas
import Derived.Deep.LoopGhost
import Derived.Deep.QuietTactic
namespace Go.Proofs.YtlelgpknkgjaeaaGreatDoor
open Go.ChangeShapes Go.WideShapes Go.ChangeAt Go.RowKit
set_option linter.unusedSimpArgs false
set_option linter.unusedVariables false
set_option maxRecDepth 4000

theorem wrapI64 {n : Nat} (h : n < 9223372036854775808) : IntKind.i64.wrap (n : Int) = n := by
  rw [IntKind.wrap_i64]
  omega
theorem and_i64 (a b : Nat) (ha : a < 9223372036854775808) (hb : b < 9223372036854775808) : bits .and .i64 (a : Int) (b : Int) = ((a &&& b : Nat) : Int) := by
  have hx : a &&& b < 2 ^ 63 := Nat.and_lt_two_pow _ (by omega)
  have h1 : (BitVec.ofInt 64 (a : Int)).toNat = a := by
    rw [BitVec.ofInt_natCast, BitVec.toNat_ofNat]; exact Nat.mod_eq_of_lt (by omega)
  have h2 : (BitVec.ofInt 64 (b : Int)).toNat = b := by
    rw [BitVec.ofInt_natCast, BitVec.toNat_ofNat]; exact Nat.mod_eq_of_lt (by omega)
  show IntKind.i64.wrap ((BitVec.ofInt 64 (a : Int) &&& BitVec.ofInt 64 (b : Int)).toNat : Int) = _
  rw [BitVec.toNat_and, h1, h2]
  exact wrapI64 (by omega)
theorem xor_i64 (a b : Nat) (ha : a < 9223372036854775808) (hb : b < 9223372036854775808) : bits .xor .i64 (a : Int) (b : Int) = ((a ^^^ b : Nat) : Int) := by
  have hx : a ^^^ b < 2 ^ 63 := Nat.xor_lt_two_pow (by omega) (by omega)
  have h1 : (BitVec.ofInt 64 (a : Int)).toNat = a := by
    rw [BitVec.ofInt_natCast, BitVec.toNat_ofNat]; exact Nat.mod_eq_of_lt (by omega)
  have h2 : (BitVec.ofInt 64 (b : Int)).toNat = b := by
    rw [BitVec.ofInt_natCast, BitVec.toNat_ofNat]; exact Nat.mod_eq_of_lt (by omega)
  show IntKind.i64.wrap ((BitVec.ofInt 64 (a : Int) ^^^ BitVec.ofInt 64 (b : Int)).toNat : Int) = _
  rw [BitVec.toNat_xor, h1, h2]
  exact wrapI64 (by omega)
theorem and1_i64 (a : Nat) (ha : a < 9223372036854775808) : bits .and .i64 (a : Int) 1 = ((a % 2 : Nat) : Int) := by
  have := and_i64 a 1 ha (by omega)
  rw [Nat.and_one_is_mod] at this
  exact this
theorem and65535_i64 (a : Nat) (ha : a < 9223372036854775808) : bits .and .i64 (a : Int) 65535 = ((a % 65536 : Nat) : Int) := by
  have := and_i64 a 65535 ha (by omega)
  rw [show (65535 : Nat) = 2 ^ 16 - 1 by decide, Nat.and_two_pow_sub_one_eq_mod] at this
  exact this
theorem and1_u8 (n : Nat) (h : n < 256) : bits BinOp.and .u8 (n : Int) 1 = ((n % 2 : Nat) : Int) := by
  have h' : ∀ n : Fin 256, bits BinOp.and .u8 ((n.val : Nat) : Int) 1 = ((n.val % 2 : Nat) : Int) := by decide +kernel
  exact h' ⟨n, h⟩
def crcX (v : Nat) : Nat := v * 2 % 65536
def crcBit (v q : Nat) : Nat := if v / 32768 = q then crcX v else crcX v ^^^ 4129
theorem crcX_lt (v : Nat) : crcX v < 65536 := by unfold crcX; omega
theorem crcXor_lt (v : Nat) : crcX v ^^^ 4129 < 65536 := Nat.xor_lt_two_pow (n := 16) (crcX_lt v) (by omega)
theorem crcBit_lt (v q : Nat) : crcBit v q < 65536 := by
  unfold crcBit
  split
  · exact crcX_lt v
  · exact crcXor_lt v
/-- The bit of 'c' that the round 'j' looks at. -/
def crcQ (c : UInt8) (j : Nat) : Nat := c.toNat / 2 ^ (7 - j) % 2
def crcTo (v : Nat) (c : UInt8) : Nat → Nat
  | 0 => v
  | j + 1 => crcBit (crcTo v c j) (crcQ c j)
theorem crcTo_lt {v : Nat} (h : v < 65536) (c : UInt8) : ∀ j, crcTo v c j < 65536
  | 0 => h
  | j + 1 => crcBit_lt _ _
def crcL (l : List UInt8) (v : Nat) : Nat := l.foldl (fun v c => crcTo v c 8) v
theorem crcL_snoc (l : List UInt8) (c : UInt8) (v : Nat) : crcL (l ++ [c]) v = crcTo (crcL l v) c 8 := by
  unfold crcL
  rw [List.foldl_append]
  rfl
theorem crcL_lt {v : Nat} (h : v < 65536) (l : List UInt8) : crcL l v < 65536 := by
  unfold crcL
  induction l generalizing v with
  | nil => exact h
  | cons c l ih => exact ih (crcTo_lt h c 8)
def crcN (s : ByteArray) (v k : Nat) : Nat := crcL (s.data.toList.take k) v
theorem crcN_next {s : ByteArray} {v k : Nat} (h : k < s.size) {c : UInt8} (hc : s[k] = c) : crcN s v (k + 1) = crcTo (crcN s v k) c 8 := by
  subst hc
  have hk : k < s.data.toList.length := by simpa using h
  unfold crcN
  rw [List.take_succ_eq_append_getElem hk, crcL_snoc]
  rfl
theorem crcN_lt {v : Nat} (h : v < 65536) (s : ByteArray) (k : Nat) : crcN s v k < 65536 := crcL_lt h _
theorem and1_w8 (n : Nat) (h : n < 256) : wrap64 (bits BinOp.and .u8 (n : Int) 1) = ((n % 2 : Nat) : Int) := by
  rw [and1_u8 n h]
  unfold wrap64
  omega
theorem crc_x {X : Nat} (hX : X < 65536) : bits .and .i64 ((X : Int) * 2) 65535 = ((crcX X : Nat) : Int) := and65535_i64 (X * 2) (by omega)
theorem crc_hi {X : Nat} (hX : X < 65536) : bits .and .i64 ((X : Int) / 32768) 1 = ((X / 32768 : Nat) : Int) := by
  have := and1_i64 (X / 32768) (by omega)
  rw [Nat.mod_eq_of_lt (by omega)] at this
  exact this
theorem crc_i1 {X Y q : Nat} {d : Int} (hX : X < 65536) (hY : Y = crcBit X q) (hd : d = (q : Int)) (h : ((X : Int) / 32768 != d) = true) : bits .xor .i64 (bits .and .i64 ((X : Int) * 2) 65535) 4129 = (Y : Int) := by
  have h : ¬ X / 32768 = q := fun e => by
    rw [hd, ← e] at h
    have : ((X : Int) / 32768) = ((X / 32768 : Nat) : Int) := rfl
    rw [this] at h
    simp at h
  rw [crc_x hX, hY, crcBit, if_neg h]
  exact xor_i64 (crcX X) 4129 (by have := crcX_lt X; omega) (by omega)
theorem crc_i0 {X Y q : Nat} {d : Int} (hX : X < 65536) (hY : Y = crcBit X q) (hd : d = (q : Int)) (h : ((X : Int) / 32768 != d) = false) : bits .and .i64 ((X : Int) * 2) 65535 = (Y : Int) := by
  have h : X / 32768 = q := by
    rw [hd] at h
    have : ((X : Int) / 32768) = ((X / 32768 : Nat) : Int) := rfl
    rw [this] at h
    simp at h
    omega
  rw [crc_x hX, hY, crcBit, if_pos h]
theorem crc_s1 {X Y q : Nat} {d : Int} (hX : X < 65536) (hY : Y = crcBit X q) (hd : d = (q : Int)) (h : (bits .and .i64 ((X : Int) / 32768) 1 != d) = true) : bits .xor .i64 (bits .and .i64 ((X : Int) * 2) 65535) 4129 = (Y : Int) := by
  rw [crc_hi hX] at h
  exact crc_i1 hX hY hd h
theorem crc_s0 {X Y q : Nat} {d : Int} (hX : X < 65536) (hY : Y = crcBit X q) (hd : d = (q : Int)) (h : (bits .and .i64 ((X : Int) / 32768) 1 != d) = false) : bits .and .i64 ((X : Int) * 2) 65535 = (Y : Int) := by
  rw [crc_hi hX] at h
  exact crc_i0 hX hY hd h
theorem bitFacts (c : UInt8) (j : Nat) (h : j < 8) : j = 0 ∨ j = 1 ∨ j = 2 ∨ j = 3 ∨ j = 4 ∨ j = 5 ∨ j = 6 ∨ j = 7 := by omega
end Go.Proofs.YtlelgpknkgjaeaaGreatDoor
