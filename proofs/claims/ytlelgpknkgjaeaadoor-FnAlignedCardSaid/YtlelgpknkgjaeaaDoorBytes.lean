/- Bytes of bits: 'bytesOf' of the program, 'BytesOf' of the reference. -/
import Derived.Test.YtlelgpknkgjaeaaDoorDist
import Derived.Test.YtlelgpknkgjaeaaDoorStr
import Derived.Test.YtlelgpknkgjaeaaDoorRow
import Derived.Lib.Builder
import Derived.StillTailTactics
import Derived.Deep.LoopGhost
namespace Go.Proofs.YtlelgpknkgjaeaaDoor
open Go.ChangeShapes Go.WideShapes Go.ChangeAt Go.RowKit
set_option linter.unusedSimpArgs false
set_option linter.unusedVariables false
set_option maxRecDepth 4000

theorem Tryd.infoU8b : (Tryd.prog.info? 5).map (fun i => (i.zero, i.size, i.bytes)) = some (some (.int .u8 0), 1, 1) := by kernel_rfl
def bitU (c : UInt8) : Nat := if c = 49 then 1 else 0
theorem bitU_le (c : UInt8) : bitU c ≤ 1 := by unfold bitU; split <;> omega
/-- The number that the first 'j' bits of the byte 'm' make. -/
def accB (B : ByteArray) (m : Nat) : Nat → Nat
  | 0 => 0
  | j + 1 => 2 * accB B m j + bitU (byteAt B (8 * m + j))
theorem accB_lt (B : ByteArray) (m : Nat) : ∀ j, accB B m j < 2 ^ j
  | 0 => Nat.one_pos
  | j + 1 => by
    have h1 := accB_lt B m j
    have h2 := bitU_le (byteAt B (8 * m + j))
    show 2 * accB B m j + bitU (byteAt B (8 * m + j)) < 2 ^ (j + 1)
    rw [Nat.pow_succ]
    omega
theorem accB_low {B : ByteArray} {m j : Nat} (h : j < 8) : accB B m j < 128 := by
  have h1 := accB_lt B m j
  have h2 : 2 ^ j ≤ 2 ^ 7 := Nat.pow_le_pow_right (by decide) (by omega)
  omega
def partB (B : ByteArray) (N i : Nat) : List UInt8 := (List.range N).map fun m => UInt8.ofNat (accB B m (min 8 (i - 8 * m)))
def bytesTo (B : ByteArray) (k : Nat) : List UInt8 := (List.range k).map fun m => UInt8.ofNat (accB B m 8)
def bytesS (B : ByteArray) : ByteArray := ⟨(bytesTo B (B.size / 8)).toArray⟩
theorem partB_len (B : ByteArray) (N i : Nat) : (partB B N i).length = N := by simp [partB]
theorem bytesTo_len (B : ByteArray) (k : Nat) : (bytesTo B k).length = k := by simp [bytesTo]
theorem bytesTo_next (B : ByteArray) (k : Nat) : bytesTo B (k + 1) = bytesTo B k ++ [UInt8.ofNat (accB B k 8)] := by
  unfold bytesTo
  rw [List.range_succ, List.map_append]
  rfl
theorem partB_none (B : ByteArray) (N : Nat) : partB B N 0 = List.replicate N 0 := by
  apply List.ext_getElem
  · rw [partB_len, List.length_replicate]
  · intro j h1 h2
    simp only [partB, List.getElem_map, List.getElem_range, List.getElem_replicate, Nat.zero_sub]
    rfl
theorem partB_all (B : ByteArray) (N : Nat) : partB B N (8 * N) = bytesTo B N := by
  apply List.ext_getElem
  · rw [partB_len, bytesTo_len]
  · intro j h1 h2
    rw [partB_len] at h1
    simp only [partB, bytesTo, List.getElem_map, List.getElem_range]
    rw [show min 8 (8 * N - 8 * j) = 8 by omega]
theorem partB_get {B : ByteArray} {N m j : Nat} (hm : m < N) (hj : j < 8) : (partB B N (8 * m + j))[m]? = some (UInt8.ofNat (accB B m j)) := by
  unfold partB
  rw [List.getElem?_map, List.getElem?_range hm]
  show some (UInt8.ofNat (accB B m (min 8 (8 * m + j - 8 * m)))) = _
  rw [show min 8 (8 * m + j - 8 * m) = j by omega]
theorem partB_set {B : ByteArray} {N m j : Nat} (hm : m < N) (hj : j < 8) : (partB B N (8 * m + j)).set m (UInt8.ofNat (accB B m (j + 1))) = partB B N (8 * m + j + 1) := by
  apply List.ext_getElem
  · rw [List.length_set, partB_len, partB_len]
  · intro q h1 h2
    rw [partB_len] at h2
    by_cases hq : m = q
    · subst hq
      rw [List.getElem_set_self]
      simp only [partB, List.getElem_map, List.getElem_range]
      rw [show min 8 (8 * m + j + 1 - 8 * m) = j + 1 by omega]
    · rw [List.getElem_set_ne hq]
      simp only [partB, List.getElem_map, List.getElem_range]
      rw [show min 8 (8 * m + j - 8 * q) = min 8 (8 * m + j + 1 - 8 * q) by omega]
theorem byteCells_put (m : List UInt8) (k : Nat) (c : UInt8) : (Lib.byteCells m).set k (.int .u8 (c.toNat : Int)) = Lib.byteCells (m.set k c) := by unfold Lib.byteCells; rw [List.map_set]
theorem byteCells_at {l : List UInt8} {k : Nat} {c : UInt8} (h : l[k]? = some c) : (Lib.byteCells l)[k]? = some (.int .u8 (c.toNat : Int)) := by unfold Lib.byteCells; rw [List.getElem?_map, h]; rfl
theorem cell_of_set {B : ByteArray} {N m j q : Nat} (hm : m < N) (hj : j < 8) (h : accB B m (j + 1) = q) : (Lib.byteCells (partB B N (8 * m + j))).set m (.int .u8 (q : Int)) = Lib.byteCells (partB B N (8 * m + j + 1)) := by
  rw [← partB_set hm hj, ← byteCells_put]
  congr 1
  have hl : accB B m (j + 1) < 256 := by
    have h1 := accB_lt B m (j + 1)
    have h2 : 2 ^ (j + 1) ≤ 2 ^ 8 := Nat.pow_le_pow_right (by decide) (by omega)
    omega
  rw [← h, UInt8.toNat_ofNat', show accB B m (j + 1) % 2 ^ 8 = accB B m (j + 1) by omega]
theorem allBits_at {B : ByteArray} (h : allBits B = true) {k : Nat} (hk : k < B.size) : B[k] = 48 ∨ B[k] = 49 := by
  cases hb : isBit B[k]
  · rw [allBits_no hk hb] at h
    cases h
  · unfold isBit at hb
    simpa using hb
theorem accB_at {B : ByteArray} {m j : Nat} (h : 8 * m + j < B.size) {c : UInt8} (hc : B[8 * m + j] = c) : accB B m (j + 1) = 2 * accB B m j + bitU c := by
  show 2 * accB B m j + bitU (byteAt B (8 * m + j)) = _
  rw [byteAt_eq h, hc]
theorem bytes_put {w w' : World} {B : ByteArray} {N k m j q : Nat} {e : TypeId} (hk : k = 8 * m + j) (hm : m < N) (hj : j < 8)
    (ho : w'.ownsRow w.heap.size e 1 (.slice (some ⟨w.heap.size, 0, none⟩) N N) N (Lib.byteCells (partB B N k))) (hb : Below w.heap.size w w') (h : accB B m (j + 1) = q) :
    (w'.setCell ⟨w.heap.size, m, none⟩ (.int .u8 (q : Int))).ownsRow w.heap.size e 1 (.slice (some ⟨w.heap.size, 0, none⟩) N N) N (Lib.byteCells (partB B N (k + 1))) ∧ Below w.heap.size w (w'.setCell ⟨w.heap.size, m, none⟩ (.int .u8 (q : Int))) := by
  subst hk
  exact ⟨by rw [← cell_of_set hm hj h]; exact (ho.stored m _).1, hb.setCell (p := ⟨w.heap.size, m, none⟩) (Nat.le_refl _) _⟩
theorem or_low0 (x : Nat) (h : x < 128) : bits BinOp.or .u8 ((2 * x : Nat) : Int) 0 = ((2 * x : Nat) : Int) := by
  have h' : ∀ x : Fin 128, bits BinOp.or .u8 ((2 * x.val : Nat) : Int) 0 = ((2 * x.val : Nat) : Int) := by decide +kernel
  exact h' ⟨x, h⟩
theorem or_low1 (x : Nat) (h : x < 128) : bits BinOp.or .u8 ((2 * x : Nat) : Int) 1 = ((2 * x + 1 : Nat) : Int) := by
  have h' : ∀ x : Fin 128, bits BinOp.or .u8 ((2 * x.val : Nat) : Int) 1 = ((2 * x.val + 1 : Nat) : Int) := by decide +kernel
  exact h' ⟨x, h⟩
theorem ret2_sbB {a b : ByteArray} {x y : Bool} (h : a = b) (k : x = y) : Ending.returned (.tuple #[.string a, .bool x]) = .returned (.tuple #[.string b, .bool y]) := by rw [h, k]
theorem ret_strB {a b : ByteArray} (h : a = b) : Ending.returned (.string a) = .returned (.string b) := by rw [h]
end Go.Proofs.YtlelgpknkgjaeaaDoor
