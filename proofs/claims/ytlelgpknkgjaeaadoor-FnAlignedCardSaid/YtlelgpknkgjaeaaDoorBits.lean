/- The bits of bytes: 'bitsOf' of the program. -/
import Derived.Test.YtlelgpknkgjaeaaDoorStr
import Derived.Test.YtlelgpknkgjaeaaDoorRow
import Derived.Lib.Builder
import Derived.Deep.LoopGhost
namespace Go.Proofs.YtlelgpknkgjaeaaDoor
open Go.ChangeShapes Go.WideShapes Go.ChangeAt Go.RowKit
set_option linter.unusedSimpArgs false
set_option linter.unusedVariables false
set_option maxRecDepth 4000

theorem Tryd.infoByte8 : (Tryd.prog.info? 5).map (fun i => (i.zero, i.size, i.bytes)) = some (some (.int .u8 0), 1, 1) := by kernel_rfl
theorem low_u8 (n : Nat) (h : n < 256) : bits BinOp.and .u8 (n : Int) 1 = ((n % 2 : Nat) : Int) := by
  have h' : ∀ n : Fin 256, bits BinOp.and .u8 ((n.val : Nat) : Int) 1 = ((n.val % 2 : Nat) : Int) := by decide +kernel
  exact h' ⟨n, h⟩
/-- The bit of 'c' that the round 'j' looks at: the highest first. -/
def bitAt (c : UInt8) (j : Nat) : Bool := c.toNat / 2 ^ (7 - j) % 2 == 1
def chr (b : Bool) : UInt8 := if b = true then 49 else 48
def bitsTo (c : UInt8) (j : Nat) : List Bool := (List.range j).map (bitAt c)
theorem bitsTo_next (c : UInt8) (j : Nat) : bitsTo c (j + 1) = bitsTo c j ++ [bitAt c j] := by
  unfold bitsTo
  rw [List.range_succ, List.map_append]
  rfl
theorem bitsTo_len (c : UInt8) (j : Nat) : (bitsTo c j).length = j := by simp [bitsTo]
def bitsL (l : List UInt8) : List Bool := l.flatMap fun c => bitsTo c 8
def bitsN (s : ByteArray) (k : Nat) : List Bool := bitsL (s.data.toList.take k)
theorem bitsN_next {s : ByteArray} {k : Nat} (h : k < s.size) {c : UInt8} (hc : s[k] = c) : bitsN s (k + 1) = bitsN s k ++ bitsTo c 8 := by
  subst hc
  have hk : k < s.data.toList.length := by simpa using h
  unfold bitsN bitsL
  rw [List.take_succ_eq_append_getElem hk, List.flatMap_append]
  congr 1
theorem bitsL_len : ∀ l : List UInt8, (bitsL l).length = 8 * l.length
  | [] => rfl
  | c :: l => by
    show (bitsTo c 8 ++ bitsL l).length = _
    rw [List.length_append, bitsTo_len, bitsL_len l, List.length_cons]
    omega
theorem bitsN_len {s : ByteArray} {k : Nat} (h : k ≤ s.size) : (bitsN s k).length = 8 * k := by
  unfold bitsN
  rw [bitsL_len, List.length_take]
  have : s.data.toList.length = s.size := by simp
  omega
def bitsS (s : ByteArray) : ByteArray := ⟨((bitsN s s.size).map chr).toArray⟩
def bitCells (l : List Bool) : List Value := Lib.byteCells (l.map chr)
theorem bitCells_app (a b : List Bool) : bitCells (a ++ b) = bitCells a ++ bitCells b := by
  unfold bitCells Lib.byteCells
  rw [List.map_append, List.map_append]
theorem bitCells_len (a : List Bool) : (bitCells a).length = a.length := by simp [bitCells, Lib.byteCells]
/-- One bit as a cell. -/
theorem bit_cell {c : UInt8} {j q : Nat} (h : q = c.toNat / 2 ^ (7 - j) % 2) : [Value.int .u8 (48 + (q : Int))] = bitCells [bitAt c j] := by
  show _ = [Value.int .u8 ((chr (bitAt c j)).toNat : Int)]
  unfold bitAt chr
  rw [← h]
  have : q = 0 ∨ q = 1 := by omega
  rcases this with rfl | rfl <;> rfl
end Go.Proofs.YtlelgpknkgjaeaaDoor
