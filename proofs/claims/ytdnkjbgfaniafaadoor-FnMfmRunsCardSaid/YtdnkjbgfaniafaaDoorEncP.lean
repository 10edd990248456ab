/- What the cells of FM and of MFM are (plain law): the bytes come back, no clock is wrong, and in MFM the changes are two to four cells apart. -/
import Derived.Test.YtdnkjbgfaniafaaDoorClock
import Derived.Test.YtdnkjbgfaniafaaDoorBack
import Derived.Test.YtdnkjbgfaniafaaDoorDat
import Derived.Test.YtdnkjbgfaniafaaDoorMfm
namespace Go.Proofs.YtdnkjbgfaniafaaDoor
open Go.ChangeShapes Go.WideShapes Go.ChangeAt Go.RowKit
set_option linter.unusedSimpArgs false
set_option linter.unusedVariables false

def prevOf (last : Bool) (L : List Bool) : Nat → Bool
  | 0 => last
  | k + 1 => L.getD k false
theorem encL_data (m : Bool) : ∀ (L : List Bool) (last : Bool) (k : Nat), (encL m last L)[2 * k + 1]? = L[k]?
  | [], last, k => by simp [encL]
  | b :: L, last, 0 => rfl
  | b :: L, last, k + 1 => by
    show (clk m last b :: b :: encL m b L)[2 * k + 1 + 1 + 1]? = _
    rw [List.getElem?_cons_succ, List.getElem?_cons_succ, encL_data m L b k, List.getElem?_cons_succ]
theorem encL_clk (m : Bool) : ∀ (L : List Bool) (last : Bool) (k : Nat) (b : Bool), L[k]? = some b → (encL m last L)[2 * k]? = some (clk m (prevOf last L k) b)
  | [], last, k, b, h => by simp at h
  | c :: L, last, 0, b, h => by
    rw [List.getElem?_cons_zero] at h
    injection h with h
    subst h
    rfl
  | c :: L, last, k + 1, b, h => by
    rw [List.getElem?_cons_succ] at h
    show (clk m last c :: c :: encL m c L)[2 * k + 1 + 1]? = _
    rw [List.getElem?_cons_succ, List.getElem?_cons_succ, encL_clk m L c k b h]
    cases k <;> rfl
def prevC (C : ByteArray) (la : Bool) : Nat → Bool
  | 0 => la
  | k + 1 => byteAt C (2 * k + 1) == 49
theorem chr_is (b : Bool) : (chr b == 49) = b := by cases b <;> rfl
theorem chr_clk (m p b : Bool) : (chr (clk m p b) == 49) = clkOne m p (chr b) := by cases m <;> cases p <;> cases b <;> rfl
/-- What the cells of bytes are, cell by cell. -/
structure EncOf (m la : Bool) (C s : ByteArray) : Prop where
  size : C.size = 16 * s.size
  bits : allBits C = true
  clk : ∀ k, k < 8 * s.size → (byteAt C (2 * k) == 49) = clkOne m (prevC C la k) (byteAt C (2 * k + 1))
  back : bytesS (dataS C) = s
theorem encS_size' (m la : Bool) (s : ByteArray) : (encS m la s).size = 16 * s.size := by
  show (((encL m la (bitsN s s.size)).map chr).toArray).size = _
  rw [List.size_toArray, List.length_map, encL_len, bitsN_len (Nat.le_refl _)]
  omega
theorem encS_at (m la : Bool) (s : ByteArray) (i : Nat) {b : Bool} (h : (encL m la (bitsN s s.size))[i]? = some b) : byteAt (encS m la s) i = chr b := by
  unfold encS
  rw [byteAt_mk, List.getD_eq_getElem?_getD, List.getElem?_map, h]
  rfl
theorem enc_of (m la : Bool) (s : ByteArray) : EncOf m la (encS m la s) s := by
  have hl : (bitsN s s.size).length = 8 * s.size := bitsN_len (Nat.le_refl _)
  have hd : ∀ k, k < 8 * s.size → byteAt (encS m la s) (2 * k + 1) = chr ((bitsN s s.size).getD k false) := fun k hk => by
    refine encS_at m la s _ ?_
    rw [encL_data, List.getD_eq_getElem?_getD, List.getElem?_eq_getElem (show k < (bitsN s s.size).length by omega)]
    rfl
  refine ⟨encS_size' m la s, ?_, ?_, ?_⟩
  · unfold encS
    rw [allBits_mk, List.all_eq_true]
    intro x hx
    obtain ⟨b, _, rfl⟩ := List.mem_map.1 hx
    cases b <;> rfl
  · intro k hk
    have hp : prevC (encS m la s) la k = prevOf la (bitsN s s.size) k := by
      cases k with
      | zero => rfl
      | succ k =>
        show (byteAt (encS m la s) (2 * k + 1) == 49) = _
        rw [hd k (by omega), chr_is]
        rfl
    have hg : (bitsN s s.size)[k]? = some ((bitsN s s.size).getD k false) := by
      rw [List.getD_eq_getElem?_getD, List.getElem?_eq_getElem (show k < (bitsN s s.size).length by omega)]
      rfl
    rw [encS_at m la s (2 * k) (encL_clk m _ la k _ hg), hd k hk, hp, chr_clk]
  · have : dataS (encS m la s) = bitsS s := by
      apply ByteArray.ext
      apply Array.toList_inj.1
      show (dataTo (encS m la s) ((encS m la s).size / 2)).toArray.toList = ((bitsN s s.size).map chr).toArray.toList
      rw [List.toList_toArray, List.toList_toArray, encS_size', show 16 * s.size / 2 = 8 * s.size by omega]
      apply List.ext_getElem?
      intro k
      rcases Nat.lt_or_ge k (8 * s.size) with h | h
      · rw [List.getElem?_map, List.getElem?_eq_getElem (show k < (bitsN s s.size).length by omega)]
        unfold dataTo
        rw [List.getElem?_map, List.getElem?_range h]
        show some (byteAt (encS m la s) (2 * k + 1)) = _
        rw [hd k h, List.getD_eq_getElem?_getD, List.getElem?_eq_getElem (show k < (bitsN s s.size).length by omega)]
        rfl
      · rw [List.getElem?_eq_none (by rw [dataTo_len]; exact h), List.getElem?_eq_none (by rw [List.length_map]; omega)]
    rw [this, bytes_bits]
theorem EncOf.noFault {m la : Bool} {C s : ByteArray} (E : EncOf m la C s) : ∀ k, k ≤ 8 * s.size → clkTo C la m k = ([], prevC C la k)
  | 0, _ => rfl
  | k + 1, h => by
    have ih := E.noFault k (by omega)
    have h1 := E.clk k (by omega)
    show ((clkTo C la m k).1 ++ (if ((byteAt C (2 * k) == 49) != clkOne m (clkTo C la m k).2 (byteAt C (2 * k + 1))) = true then [((2 * k : Nat) : Int)] else []), byteAt C (2 * k + 1) == 49) = _
    rw [ih]
    show ([] ++ (if ((byteAt C (2 * k) == 49) != clkOne m (prevC C la k) (byteAt C (2 * k + 1))) = true then [((2 * k : Nat) : Int)] else []), byteAt C (2 * k + 1) == 49) = _
    rw [h1, if_neg (by rw [bne_self_eq_false]; decide)]
    rfl
theorem EncOf.cells {m la : Bool} {C s : ByteArray} (E : EncOf m la C s) (h : 16 * s.size ≤ 8000) : cellStr C = true := by
  unfold cellStr
  rw [E.bits, decide_eq_true (by rw [E.size]; exact h)]
  rfl
theorem EncOf.bit {m la : Bool} {C s : ByteArray} (E : EncOf m la C s) {i : Nat} (h : i < C.size) : byteAt C i = 48 ∨ byteAt C i = 49 := by
  rw [byteAt_eq h]
  exact allBits_at E.bits h
/-- A clock that is set stands between bits that are not. -/
theorem EncOf.set_next {la : Bool} {C s : ByteArray} (E : EncOf true la C s) {k : Nat} (hk : k < 8 * s.size) (h : byteAt C (2 * k) = 49) : byteAt C (2 * k + 1) = 48 ∧ prevC C la k = false := by
  have h1 := E.clk k hk
  rw [h] at h1
  unfold clkOne at h1
  cases hp : prevC C la k
  · rw [hp] at h1
    exact ⟨by simpa using h1.symm, rfl⟩
  · rw [hp] at h1
    simp at h1
/-- A clock between two bits that are not set is set. -/
theorem EncOf.set_of {la : Bool} {C s : ByteArray} (E : EncOf true la C s) {k : Nat} (hk : k + 1 < 8 * s.size) (h0 : byteAt C (2 * k + 1) = 48) (h1 : byteAt C (2 * k + 3) = 48) : byteAt C (2 * k + 2) = 49 := by
  have h2 := E.clk (k + 1) hk
  have hp : prevC C la (k + 1) = false := by
    show (byteAt C (2 * k + 1) == 49) = false
    rw [h0]; rfl
  rw [hp, show 2 * (k + 1) + 1 = 2 * k + 3 by omega, h1, show 2 * (k + 1) = 2 * k + 2 by omega] at h2
  simpa [clkOne] using h2
end Go.Proofs.YtdnkjbgfaniafaaDoor
