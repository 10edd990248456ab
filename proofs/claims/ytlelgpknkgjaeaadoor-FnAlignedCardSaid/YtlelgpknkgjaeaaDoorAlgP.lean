/- A revolution that begins at another cell is turned back by its best shift: plain law for 'FnAligned'. -/
import Derived.Test.YtlelgpknkgjaeaaDoorAlign
namespace Go.Proofs.YtlelgpknkgjaeaaDoor
open Go.ChangeShapes Go.WideShapes Go.ChangeAt Go.RowKit
set_option linter.unusedSimpArgs false
set_option linter.unusedVariables false

theorem shTo_is (a b : ByteArray) (n : Nat) : ∀ k, (shTo a b n k).2 = shD a b n (shTo a b n k).1
  | 0 => rfl
  | k + 1 => by
    by_cases h : shD a b n (shOf (k + 1)) < (shTo a b n k).2
    · rw [shTo_less h]
    · rw [shTo_more h]
      exact shTo_is a b n k
theorem shTo_min (a b : ByteArray) (n : Nat) : ∀ k j, j ≤ k → (shTo a b n k).2 ≤ shD a b n (shOf j)
  | 0, j, h => by
    obtain rfl : j = 0 := by omega
    exact Nat.le_refl _
  | k + 1, j, h => by
    by_cases hl : shD a b n (shOf (k + 1)) < (shTo a b n k).2
    · rw [shTo_less hl]
      rcases Nat.lt_or_ge j (k + 1) with h1 | h1
      · have := shTo_min a b n k j (by omega)
        show shD a b n (shOf (k + 1)) ≤ _
        omega
      · obtain rfl : j = k + 1 := by omega
        exact Nat.le_refl _
    · rw [shTo_more hl]
      rcases Nat.lt_or_ge j (k + 1) with h1 | h1
      · exact shTo_min a b n k j (by omega)
      · obtain rfl : j = k + 1 := by omega
        omega
theorem dist_zero {a b : ByteArray} : ∀ {k : Nat}, distTo a b k = 0 → ∀ j, j < k → byteAt a j = byteAt b j
  | 0, _, j, hj => by omega
  | k + 1, h, j, hj => by
    unfold distTo at h
    by_cases he : byteAt a k = byteAt b k
    · rw [if_pos he] at h
      rcases Nat.lt_or_ge j k with h1 | h1
      · exact dist_zero (by omega) j h1
      · obtain rfl : j = k := by omega
        exact he
    · rw [if_neg he] at h
      omega
theorem dist_same {a b : ByteArray} : ∀ {k : Nat}, (∀ j, j < k → byteAt a j = byteAt b j) → distTo a b k = 0
  | 0, _ => rfl
  | k + 1, h => by
    unfold distTo
    rw [dist_same fun j hj => h j (by omega), if_pos (h k (by omega))]
theorem bytes_same {a b : ByteArray} {n : Nat} (ha : a.size = n) (hb : b.size = n) (h : ∀ j, j < n → byteAt a j = byteAt b j) : a = b := by
  apply ba_ext
  apply List.ext_getElem?
  intro i
  by_cases hi : i < n
  · have := h i hi
    unfold byteAt at this
    rw [List.getD_eq_getElem?_getD, List.getD_eq_getElem?_getD] at this
    rw [List.getElem?_eq_getElem (by simpa using (by omega : i < a.size)), List.getElem?_eq_getElem (by simpa using (by omega : i < b.size))] at this ⊢
    exact congrArg some this
  · rw [List.getElem?_eq_none (by rw [len_data]; omega), List.getElem?_eq_none (by rw [len_data]; omega)]
/-- A turned revolution: its best shift makes it equal. -/
theorem turned_back {s x : ByteArray} {n p : Nat} (hs : s.size = n) (hn : 1 ≤ n) (hx : x = sliceS s p n) {j : Nat} (hj : j ≤ 12) (hp : ((p : Int) + shOf j) % (n : Int) = 0) :
    (shTo s x n 12).2 = 0 ∧ sliceS x (rotAt (shTo s x n 12).1 n) n = s := by
  have hxs : x.size = n := by rw [hx, sliceS_size]
  have h0 : shD s x n (shOf j) = 0 := by
    unfold shD
    refine dist_same fun i hi => ?_
    rw [byteAt_slice hi, hxs, hx]
    have hr := rotAt_eq (sh := shOf j) (n := n) (by omega)
    rw [byteAt_slice (Nat.mod_lt _ (by omega)), hs, Nat.add_mod_mod]
    congr 1
    have h1 : ((p : Int) + (rotAt (shOf j) n : Nat)) % (n : Int) = 0 := by
      rw [← hr.1]
      have : ((p : Int) + shOf j % (n : Int)) % (n : Int) = ((p : Int) + shOf j) % (n : Int) := by simp
      rw [this]
      exact hp
    have h2 : (p + rotAt (shOf j) n) % n = 0 := by
      have : (((p + rotAt (shOf j) n) % n : Nat) : Int) = 0 := by
        rw [Int.natCast_emod, Int.natCast_add]
        exact h1
      omega
    rw [← Nat.add_assoc, ← Nat.mod_add_mod, h2, Nat.zero_add, Nat.mod_eq_of_lt hi]
  have h1 := shTo_min s x n 12 j hj
  have h2 : (shTo s x n 12).2 = 0 := by omega
  have h3 := shTo_is s x n 12
  rw [h2] at h3
  refine ⟨h2, (bytes_same hs (sliceS_size _ _ _) (dist_zero h3.symm)).symm⟩
theorem shOf_any (d : Nat) (h : d < 13) : ∃ j, j ≤ 12 ∧ shOf j = 6 - (d : Int) := by
  rcases Nat.lt_or_ge d 6 with h1 | h1
  · refine ⟨2 * (5 - d) + 1, by omega, ?_⟩
    rw [shOf_odd]
    omega
  · refine ⟨2 * (d - 6), by omega, ?_⟩
    rw [shOf_even]
    omega
end Go.Proofs.YtlelgpknkgjaeaaDoor
