/- The bytes of the bits of bytes are the bytes. -/
import Derived.Test.YtdnkjbgfaniafaaDoorMfm
import Derived.Test.YtdnkjbgfaniafaaDoorBytes
namespace Go.Proofs.YtdnkjbgfaniafaaDoor
open Go.ChangeShapes Go.WideShapes Go.ChangeAt Go.RowKit
set_option linter.unusedSimpArgs false
set_option linter.unusedVariables false

theorem bitsL_get : ∀ (l : List UInt8) (m j : Nat) (hm : m < l.length), j < 8 → (bitsL l)[8 * m + j]? = some (bitAt l[m] j)
  | [], m, j, hm, hj => by simp at hm
  | c :: r, 0, j, hm, hj => by
    have e : bitsL (c :: r) = bitsTo c 8 ++ bitsL r := List.flatMap_cons
    rw [e, Nat.mul_zero, Nat.zero_add, List.getElem?_append_left (by rw [bitsTo_len]; exact hj)]
    unfold bitsTo
    rw [List.getElem?_map, List.getElem?_range hj]
    rfl
  | c :: r, m + 1, j, hm, hj => by
    have e : bitsL (c :: r) = bitsTo c 8 ++ bitsL r := List.flatMap_cons
    rw [e, List.getElem?_append_right (by rw [bitsTo_len]; omega), bitsTo_len, show 8 * (m + 1) + j - 8 = 8 * m + j by omega, bitsL_get r m j (by simpa using hm) hj]
    rfl
theorem bits_byte {s : ByteArray} {m j : Nat} (hm : m < s.data.toList.length) (hj : j < 8) : byteAt (bitsS s) (8 * m + j) = chr (bitAt s.data.toList[m] j) := by
  unfold byteAt bitsS bitsN
  rw [List.toList_toArray, List.getD_eq_getElem?_getD, List.getElem?_map, List.take_of_length_le (by simp), bitsL_get _ m j hm hj]
  rfl
theorem acc_step (c j : Nat) (hj : j < 8) : 2 * (c / 2 ^ (8 - j)) + c / 2 ^ (7 - j) % 2 = c / 2 ^ (8 - (j + 1)) := by
  rw [show 8 - (j + 1) = 7 - j by omega, show 8 - j = (7 - j) + 1 by omega, Nat.pow_succ, ← Nat.div_div_eq_div_mul]
  omega
theorem acc_bits {s : ByteArray} {m : Nat} (hm : m < s.data.toList.length) : ∀ j, j ≤ 8 → accB (bitsS s) m j = s.data.toList[m].toNat / 2 ^ (8 - j) := by
  intro j
  induction j with
  | zero =>
    intro _
    have := s.data.toList[m].toNat_lt
    show 0 = _
    rw [Nat.div_eq_of_lt (by simpa using this)]
  | succ j ih =>
    intro hj
    show 2 * accB (bitsS s) m j + bitU (byteAt (bitsS s) (8 * m + j)) = _
    rw [ih (by omega), bits_byte hm (by omega), ← acc_step _ j (by omega)]
    congr 1
    unfold bitAt
    have h2 := Nat.mod_two_eq_zero_or_one (s.data.toList[m].toNat / 2 ^ (7 - j))
    rcases h2 with h | h <;> rw [h] <;> rfl
theorem bytes_bits (s : ByteArray) : bytesS (bitsS s) = s := by
  have hsz := bitsS_size s
  apply ByteArray.ext
  apply Array.toList_inj.1
  show (bytesTo (bitsS s) ((bitsS s).size / 8)).toArray.toList = _
  rw [List.toList_toArray, hsz, show 8 * s.size / 8 = s.size by omega]
  apply List.ext_getElem
  · rw [bytesTo_len]; simp
  · intro m h1 h2
    have e : (bytesTo (bitsS s) s.size)[m]? = some (UInt8.ofNat (accB (bitsS s) m 8)) := by
      unfold bytesTo
      rw [List.getElem?_map, List.getElem?_range (by rw [bytesTo_len] at h1; exact h1)]
      rfl
    rw [List.getElem?_eq_getElem h1] at e
    injection e with e
    rw [e, acc_bits h2 8 (Nat.le_refl _)]
    simp
end Go.Proofs.YtdnkjbgfaniafaaDoor
