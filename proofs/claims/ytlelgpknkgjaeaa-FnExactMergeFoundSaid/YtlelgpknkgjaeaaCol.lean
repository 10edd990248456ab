/- The bytes of several strings at one place. -/
import Derived.Test.YtlelgpknkgjaeaaByte
import Derived.Test.YtlelgpknkgjaeaaStrs
import Derived.Lib.Builder
import Derived.Lib.UnsafeStr
namespace Go.Proofs.Ytlelgpknkgjaeaa
open Go.ChangeShapes Go.WideShapes Go.ChangeAt Go.RowKit
set_option linter.unusedSimpArgs false
set_option linter.unusedVariables false

def revLen (l : List ByteArray) : Nat := (l.headD ⟨#[]⟩).size
theorem head_get {l : List ByteArray} (h : 0 < l.length) : ∃ s0, l[0]? = some s0 ∧ s0.size = revLen l := by
  cases l with
  | nil => simp at h
  | cons x l => exact ⟨x, rfl, rfl⟩
/-- The byte at place 'k' of the string 'j'. -/
def colAt (l : List ByteArray) (k j : Nat) : UInt8 := byteAt (l.getD j ⟨#[]⟩) k
theorem colAt_eq {l : List ByteArray} {j k : Nat} {s : ByteArray} (h : l[j]? = some s) : colAt l k j = byteAt s k := by
  unfold colAt
  rw [List.getD_eq_getElem?_getD, h]
  rfl
theorem byteCells_set (m : List UInt8) (k : Nat) (c : UInt8) : (Lib.byteCells m).set k (.int .u8 (c.toNat : Int)) = Lib.byteCells (m.set k c) := by unfold Lib.byteCells; rw [List.map_set]
theorem byte_cases' (c d : UInt8) : (c = d) ∨ (((c.toNat : Int) != (d.toNat : Int)) = true ∧ c ≠ d) := by
  by_cases h : c = d
  · exact .inl h
  · exact .inr ⟨bne_iff_ne.2 fun e => h (UInt8.toNat_inj.1 (by omega)), h⟩
theorem colAt_val {l : List ByteArray} {i k : Nat} {s : ByteArray} (hs : l[i]? = some s) (hk : k < s.size) {c : UInt8} (hc : s[k] = c) : colAt l k i = c := by
  rw [colAt_eq hs, byteAt_eq hk, hc]
end Go.Proofs.Ytlelgpknkgjaeaa
