/- 'NearestGcr' of the program and of the reference: the values whose code differs least from a group. -/
import Derived.Test.YtklaakhdpfgffaaDoorDist
import Derived.Test.YtklaakhdpfgffaaDoorFaults
namespace Go.Proofs.YtklaakhdpfgffaaDoor
open Go.ChangeShapes Go.WideShapes Go.ChangeAt Go.RowKit
set_option linter.unusedSimpArgs false
set_option linter.unusedVariables false
set_option maxRecDepth 4000

theorem distTo_comm (a b : ByteArray) : ∀ k, distTo a b k = distTo b a k
  | 0 => rfl
  | k + 1 => by
    show distTo a b k + (if byteAt a k = byteAt b k then 0 else 1) = distTo b a k + (if byteAt b k = byteAt a k then 0 else 1)
    rw [distTo_comm a b k]
    by_cases h : byteAt a k = byteAt b k
    · rw [if_pos h, if_pos h.symm]
    · rw [if_neg h, if_neg fun e => h e.symm]
theorem gcrS_size {k : Nat} (h : k < 16) : (gcrS k).size = 5 := by
  obtain rfl | rfl | rfl | rfl | rfl | rfl | rfl | rfl | rfl | rfl | rfl | rfl | rfl | rfl | rfl | rfl : k = 0 ∨ k = 1 ∨ k = 2 ∨ k = 3 ∨ k = 4 ∨ k = 5 ∨ k = 6 ∨ k = 7 ∨ k = 8 ∨ k = 9 ∨ k = 10 ∨ k = 11 ∨ k = 12 ∨ k = 13 ∨ k = 14 ∨ k = 15 := by omega
  all_goals rfl
def nD (g : ByteArray) (k : Nat) : Nat := distTo g (gcrS k) 5
/-- The least difference among the first 'k' values, and those that have it. -/
def nearTo (g : ByteArray) : Nat → Nat × List Int
  | 0 => (6, [])
  | k + 1 => if nD g k < (nearTo g k).1 then (nD g k, [(k : Int)]) else if nD g k = (nearTo g k).1 then ((nearTo g k).1, (nearTo g k).2 ++ [(k : Int)]) else nearTo g k
theorem near_le (g : ByteArray) : ∀ k, (nearTo g k).1 ≤ 6 ∧ (nearTo g k).2.length ≤ k
  | 0 => ⟨Nat.le_refl _, Nat.le_refl _⟩
  | k + 1 => by
    have h := near_le g k
    unfold nearTo
    split
    · have : nD g k ≤ 5 := distTo_le _ _ _
      exact ⟨by show nD g k ≤ 6; omega, by show 1 ≤ k + 1; omega⟩
    · split
      · exact ⟨h.1, by simp; exact h.2⟩
      · exact ⟨h.1, by omega⟩
theorem near_less {g : ByteArray} {k : Nat} (h : nD g k < (nearTo g k).1) : nearTo g (k + 1) = (nD g k, [(k : Int)]) := by
  show (if nD g k < (nearTo g k).1 then (nD g k, [(k : Int)]) else if nD g k = (nearTo g k).1 then ((nearTo g k).1, (nearTo g k).2 ++ [(k : Int)]) else nearTo g k) = _
  rw [if_pos h]
theorem near_same {g : ByteArray} {k : Nat} (h : nD g k = (nearTo g k).1) : nearTo g (k + 1) = (nD g k, (nearTo g k).2 ++ [(k : Int)]) := by
  show (if nD g k < (nearTo g k).1 then (nD g k, [(k : Int)]) else if nD g k = (nearTo g k).1 then ((nearTo g k).1, (nearTo g k).2 ++ [(k : Int)]) else nearTo g k) = _
  rw [if_neg (by omega), if_pos h, h]
theorem near_more {g : ByteArray} {k : Nat} (h : (nearTo g k).1 < nD g k) : nearTo g (k + 1) = nearTo g k := by
  show (if nD g k < (nearTo g k).1 then (nD g k, [(k : Int)]) else if nD g k = (nearTo g k).1 then ((nearTo g k).1, (nearTo g k).2 ++ [(k : Int)]) else nearTo g k) = _
  rw [if_neg (by omega), if_neg (by omega)]
def nearest (g : ByteArray) : List Int := if isGrp g = true then (nearTo g 16).2 else []
theorem nearest_len (g : ByteArray) : (nearest g).length ≤ 16 := by
  unfold nearest
  split
  · exact (near_le g 16).2
  · exact Nat.zero_le _
theorem alloc_sz2 (w : World) (o : Obj) : (w.alloc o).heap.size = w.heap.size + 1 := by unfold World.alloc; exact Array.size_push _
theorem box_grown {w w' : World} {b : Nat} {cs : List Value} {row : Option Nat} (h : Box w b cs) (hlt : b < w.heap.size) (hne : row ≠ some b) (hg : w.grownBy w' row) : Box w' b cs := fun j u hu => by
  rw [hg.cell_far ⟨b, j, none⟩ hlt (fun e => hne e.symm)]
  exact h j u hu
theorem near_cases (g : ByteArray) : (cellStr g = false ∧ Hid (isGrp g = false)) ∨ (cellStr g = true ∧ ¬ (g.size : Int) = 5 ∧ Hid (isGrp g = false)) ∨ (cellStr g = true ∧ (g.size : Int) = 5 ∧ Hid (isGrp g = true)) := by
  have hg : isGrp g = (cellStr g && decide (g.size = 5)) := by
    unfold isGrp cellStr
    by_cases h : g.size = 5
    · rw [decide_eq_true h, decide_eq_true (by omega : g.size ≤ 8000), Bool.true_and, Bool.and_true, Bool.and_true]
    · rw [decide_eq_false h, Bool.false_and, Bool.and_false]
  unfold Hid
  rw [hg]
  cases cellStr g
  · exact .inl ⟨rfl, rfl⟩
  · by_cases h : g.size = 5
    · exact .inr (.inr ⟨rfl, by omega, by rw [decide_eq_true h]; rfl⟩)
    · exact .inr (.inl ⟨rfl, by omega, by rw [decide_eq_false h]; rfl⟩)
end Go.Proofs.YtklaakhdpfgffaaDoor
