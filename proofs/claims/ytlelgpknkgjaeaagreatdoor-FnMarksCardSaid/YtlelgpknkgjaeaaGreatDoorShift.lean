/- 'BestShift' of the program and of the reference: by how many cells a revolution is best turned. -/
import Derived.Test.YtlelgpknkgjaeaaGreatDoorSlice
import Derived.Test.YtlelgpknkgjaeaaGreatDoorRevs
namespace Go.Proofs.YtlelgpknkgjaeaaGreatDoor
open Go.ChangeShapes Go.WideShapes Go.ChangeAt Go.RowKit
set_option linter.unusedSimpArgs false
set_option linter.unusedVariables false
set_option maxRecDepth 4000

/-- The place at which a string of 'n' cells that is turned by 'sh' begins. -/
def rotAt (sh : Int) (n : Nat) : Nat := (sh % (n : Int)).toNat
theorem rotAt_eq {sh : Int} {n : Nat} (h : 0 < n) : sh % (n : Int) = (rotAt sh n : Nat) ∧ rotAt sh n < n := by
  have h1 := Int.emod_nonneg sh (show (n : Int) ≠ 0 by omega)
  have h2 := Int.emod_lt_of_pos sh (show (0 : Int) < n by omega)
  unfold rotAt
  omega
def shD (a b : ByteArray) (n : Nat) (sh : Int) : Nat := distTo a (sliceS b (rotAt sh n) n) n
def shOf (k : Nat) : Int := if k % 2 = 0 then -((k / 2 : Nat) : Int) else (((k + 1) / 2 : Nat) : Int)
def shTo (a b : ByteArray) (n : Nat) : Nat → Int × Nat
  | 0 => (0, shD a b n 0)
  | k + 1 => if shD a b n (shOf (k + 1)) < (shTo a b n k).2 then (shOf (k + 1), shD a b n (shOf (k + 1))) else shTo a b n k
theorem shOf_even (j : Nat) : shOf (2 * j) = -(j : Int) := by
  unfold shOf
  rw [if_pos (by omega), show 2 * j / 2 = j by omega]
theorem shOf_odd (j : Nat) : shOf (2 * j + 1) = (j : Int) + 1 := by
  unfold shOf
  rw [if_neg (by omega), show (2 * j + 1 + 1) / 2 = j + 1 by omega]
  omega
theorem shTo_less {a b : ByteArray} {n k : Nat} (h : shD a b n (shOf (k + 1)) < (shTo a b n k).2) : shTo a b n (k + 1) = (shOf (k + 1), shD a b n (shOf (k + 1))) := by
  show (if shD a b n (shOf (k + 1)) < (shTo a b n k).2 then _ else _) = _
  rw [if_pos h]
theorem shTo_more {a b : ByteArray} {n k : Nat} (h : ¬ shD a b n (shOf (k + 1)) < (shTo a b n k).2) : shTo a b n (k + 1) = shTo a b n k := by
  show (if shD a b n (shOf (k + 1)) < (shTo a b n k).2 then _ else _) = _
  rw [if_neg h]
theorem shD_le (a b : ByteArray) (n : Nat) (sh : Int) : shD a b n sh ≤ n := distTo_le _ _ _
theorem shTo_le (a b : ByteArray) (n : Nat) : ∀ k, (shTo a b n k).2 ≤ n ∧ -(k : Int) ≤ (shTo a b n k).1 ∧ (shTo a b n k).1 ≤ k
  | 0 => ⟨shD_le _ _ _ _, by show -(0 : Int) ≤ 0; omega, by show (0 : Int) ≤ 0; omega⟩
  | k + 1 => by
    have ih := shTo_le a b n k
    have h := shD_le a b n (shOf (k + 1))
    have hs : -((k + 1 : Nat) : Int) ≤ shOf (k + 1) ∧ shOf (k + 1) ≤ ((k + 1 : Nat) : Int) := by
      unfold shOf
      split <;> omega
    unfold shTo
    split
    · exact ⟨h, hs.1, hs.2⟩
    · exact ⟨ih.1, by omega, by omega⟩
theorem byteAt_slice {b : ByteArray} {r n k : Nat} (h : k < n) : byteAt (sliceS b r n) k = byteAt b ((r + k) % b.size) := by
  unfold byteAt
  rw [List.getD_eq_getElem?_getD]
  show ((sliceL b.data.toList r n).toArray.toList[k]?).getD 0 = _
  rw [List.toList_toArray, sliceL_at h, len_data]
  rfl
theorem dist_step {a b : ByteArray} {k : Nat} {c d : UInt8} (hc : byteAt a k = c) (hd : byteAt b k = d) :
    (((c.toNat : Int) != (d.toNat : Int)) = false ∧ Hid (distTo a b (k + 1) = distTo a b k)) ∨ (((c.toNat : Int) != (d.toNat : Int)) = true ∧ Hid (distTo a b (k + 1) = distTo a b k + 1)) := by
  unfold Hid
  show _ ∧ distTo a b k + (if byteAt a k = byteAt b k then 0 else 1) = _ ∨ _ ∧ distTo a b k + (if byteAt a k = byteAt b k then 0 else 1) = _
  rw [hc, hd]
  by_cases h : c = d
  · left
    subst h
    exact ⟨by simp, by simp⟩
  · right
    refine ⟨bne_iff_ne.2 fun e => h (UInt8.toNat_inj.1 (by omega)), by rw [if_neg h]⟩
theorem twice_cut {b : ByteArray} {r : Nat} (h : r < b.size) : (b ++ b).extract r (r + b.size) = sliceS b r b.size := by
  apply ba_ext
  rw [extract_list, ByteArray.data_append, Array.toList_append, Nat.add_sub_cancel_left]
  show ((b.data.toList ++ b.data.toList).drop r).take b.size = sliceL b.data.toList r b.size
  have hl := len_data b
  by_cases h0 : r = 0
  · subst h0
    rw [List.drop_zero, ← sliceL_one (by omega), List.drop_zero, List.take_append_of_le_length (by omega)]
  · rw [← sliceL_two (by omega) (by omega) (by omega), List.drop_append_of_le_length (by omega), List.take_append, List.take_of_length_le (by rw [List.length_drop]; omega), List.length_drop]
    congr 2
    omega
theorem drewN_add (w : World) (a b : Nat) : (w.drewN a).drewN b = w.drewN (a + b) := by simp [World.drewN, Nat.add_assoc]
/-- The state of the program's loop: nothing yet, or the best of the shifts up to here. -/
def shSt (a b : ByteArray) (n : Nat) : Nat → Int × Int
  | 0 => (0, -1)
  | k + 1 => ((shTo a b n k).1, ((shTo a b n k).2 : Nat))
theorem shSt_le (a b : ByteArray) (n k : Nat) : -1 ≤ (shSt a b n k).2 ∧ (shSt a b n k).2 ≤ n ∧ -(k : Int) ≤ (shSt a b n k).1 ∧ (shSt a b n k).1 ≤ k := by
  cases k with
  | zero => exact ⟨by show (-1 : Int) ≤ -1; omega, by show (-1 : Int) ≤ n; omega, by show -(0 : Int) ≤ 0; omega, by show (0 : Int) ≤ 0; omega⟩
  | succ k =>
    have := shTo_le a b n k
    show -1 ≤ (((shTo a b n k).2 : Nat) : Int) ∧ (((shTo a b n k).2 : Nat) : Int) ≤ n ∧ -((k + 1 : Nat) : Int) ≤ (shTo a b n k).1 ∧ (shTo a b n k).1 ≤ ((k + 1 : Nat) : Int)
    omega
theorem shSt_take {a b : ByteArray} {n k : Nat} (h : (shSt a b n k).2 < 0 ∨ (shD a b n (shOf k) : Int) < (shSt a b n k).2) : shSt a b n (k + 1) = (shOf k, ((shD a b n (shOf k) : Nat) : Int)) := by
  cases k with
  | zero => rfl
  | succ k =>
    have h' : shD a b n (shOf (k + 1)) < (shTo a b n k).2 := by
      have h2 : (((shTo a b n k).2 : Nat) : Int) < 0 ∨ (shD a b n (shOf (k + 1)) : Int) < (((shTo a b n k).2 : Nat) : Int) := h
      omega
    show ((shTo a b n (k + 1)).1, (((shTo a b n (k + 1)).2 : Nat) : Int)) = _
    rw [shTo_less h']
theorem shSt_keep {a b : ByteArray} {n k : Nat} (h : ¬ ((shSt a b n k).2 < 0 ∨ (shD a b n (shOf k) : Int) < (shSt a b n k).2)) : shSt a b n (k + 1) = shSt a b n k := by
  cases k with
  | zero => exact absurd (Or.inl (show (-1 : Int) < 0 by omega)) h
  | succ k =>
    have h' : ¬ shD a b n (shOf (k + 1)) < (shTo a b n k).2 := by
      have h2 : ¬ ((((shTo a b n k).2 : Nat) : Int) < 0 ∨ (shD a b n (shOf (k + 1)) : Int) < (((shTo a b n k).2 : Nat) : Int)) := h
      omega
    show ((shTo a b n (k + 1)).1, (((shTo a b n (k + 1)).2 : Nat) : Int)) = _
    rw [shTo_more h']
    rfl
def bsEnd (a b : ByteArray) (k : Int) : Ending :=
  if revsOk [a, b] = true then
    if inB k 0 40 = true then .returned (.tuple #[.int .i64 (shTo a b a.size (2 * k.toNat)).1, .int .i64 ((shTo a b a.size (2 * k.toNat)).2 : Nat), .int .i64 0])
    else .returned (.tuple #[.int .i64 0, .int .i64 0, .int .i64 2])
  else .returned (.tuple #[.int .i64 0, .int .i64 0, .int .i64 1])
theorem bs_cases (a b : ByteArray) (k : Int) :
    (revsOk [a, b] = false ∧ Hid (bsEnd a b k = .returned (.tuple #[.int .i64 0, .int .i64 0, .int .i64 1]))) ∨
    (revsOk [a, b] = true ∧ inB k 0 40 = false ∧ Hid (bsEnd a b k = .returned (.tuple #[.int .i64 0, .int .i64 0, .int .i64 2]))) ∨
    (revsOk [a, b] = true ∧ inB k 0 40 = true ∧ ∃ m N : Nat, k = m ∧ m ≤ 40 ∧ a.size = N ∧ b.size = N ∧ 1 ≤ N ∧ N ≤ 8000 ∧ Hid (bsEnd a b k = .returned (.tuple #[.int .i64 (shTo a b N (2 * m)).1, .int .i64 ((shTo a b N (2 * m)).2 : Nat), .int .i64 0]))) := by
  unfold Hid bsEnd
  cases h1 : revsOk [a, b]
  · exact .inl ⟨rfl, rfl⟩
  cases h2 : inB k 0 40
  · exact .inr (.inl ⟨rfl, rfl, rfl⟩)
  · obtain ⟨r1, r2, r3, r4, r5⟩ := revs_at h1
    obtain ⟨k1, k2⟩ := inB_t h2
    obtain ⟨m, rfl⟩ := Int.eq_ofNat_of_zero_le k1
    have hb := (r5 b (by simp)).1
    have hl : revLen [a, b] = a.size := rfl
    rw [hl] at hb r3 r4
    exact .inr (.inr ⟨rfl, rfl, m, a.size, rfl, by omega, rfl, hb, r3, r4, rfl⟩)
theorem two_row (a b : ByteArray) (w : World) : (w.alloc (.cells #[.string a, .string b] 9)).ownsRow w.heap.size 9 1 (.slice (some ⟨w.heap.size, 0, none⟩) 2 2) 2 (Strs [a, b]) :=
  World.ownsRow_lit w #[.string a, .string b] 2 (Nat.le_refl _) (by decide) rfl
end Go.Proofs.YtlelgpknkgjaeaaGreatDoor
