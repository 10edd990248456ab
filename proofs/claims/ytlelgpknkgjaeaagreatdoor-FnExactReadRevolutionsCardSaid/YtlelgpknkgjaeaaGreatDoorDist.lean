/- 'GcrDistance' of the program and of the reference: at how many places two groups differ. -/
import Derived.Test.YtlelgpknkgjaeaaGreatDoorCells
import Derived.Test.YtlelgpknkgjaeaaGreatDoorByte
namespace Go.Proofs.YtlelgpknkgjaeaaGreatDoor
open Go.ChangeShapes Go.WideShapes Go.ChangeAt Go.RowKit
set_option linter.unusedSimpArgs false
set_option linter.unusedVariables false

def distTo (a b : ByteArray) : Nat → Nat
  | 0 => 0
  | k + 1 => distTo a b k + if byteAt a k = byteAt b k then 0 else 1
theorem distTo_le (a b : ByteArray) : ∀ k, distTo a b k ≤ k
  | 0 => Nat.le_refl _
  | k + 1 => by
    have := distTo_le a b k
    unfold distTo
    split <;> omega
def isGrp (s : ByteArray) : Bool := decide (s.size = 5) && allBits s
def gcrDist (a b : ByteArray) : Int := if isGrp a = true ∧ isGrp b = true then (distTo a b 5 : Nat) else -1
theorem distTo_next {a b : ByteArray} {k : Nat} (ha : k < a.size) (hb : k < b.size) {c d : UInt8} (hc : a[k] = c) (hd : b[k] = d) :
    (((c.toNat : Int) != (d.toNat : Int)) = false ∧ Hid (distTo a b (k + 1) = distTo a b k)) ∨ (((c.toNat : Int) != (d.toNat : Int)) = true ∧ Hid (distTo a b (k + 1) = distTo a b k + 1)) := by
  unfold Hid
  show _ ∧ distTo a b k + (if byteAt a k = byteAt b k then 0 else 1) = _ ∨ _ ∧ distTo a b k + (if byteAt a k = byteAt b k then 0 else 1) = _
  rw [byteAt_eq ha, byteAt_eq hb, hc, hd]
  by_cases h : c = d
  · left
    subst h
    exact ⟨by simp, by simp⟩
  · right
    refine ⟨bne_iff_ne.2 fun e => h (UInt8.toNat_inj.1 (by omega)), by rw [if_neg h]⟩
theorem grp_cases (s : ByteArray) : (s.size ≠ 5 ∧ Hid (isGrp s = false)) ∨ (s.size = 5 ∧ allBits s = false ∧ Hid (isGrp s = false)) ∨ (s.size = 5 ∧ allBits s = true ∧ Hid (isGrp s = true)) := by
  unfold Hid isGrp
  by_cases h : s.size = 5 <;> cases allBits s <;> simp [h]
theorem grp_size {s : ByteArray} (h : isGrp s = true) : s.size = 5 := by
  unfold isGrp at h
  simp only [Bool.and_eq_true, decide_eq_true_eq] at h
  exact h.1
theorem dist_no {a b : ByteArray} (h : isGrp a = false ∨ isGrp b = false) : gcrDist a b = -1 := by
  unfold gcrDist
  rw [if_neg]
  rintro ⟨h1, h2⟩
  rcases h with h | h <;> simp_all
theorem dist_yes {a b : ByteArray} (h : isGrp a = true) (k : isGrp b = true) : gcrDist a b = (distTo a b 5 : Nat) := by
  unfold gcrDist
  rw [if_pos ⟨h, k⟩]
theorem dist_cases (a b : ByteArray) :
    (cellStr a = false ∧ Hid (gcrDist a b = -1)) ∨ (cellStr a = true ∧ cellStr b = false ∧ Hid (gcrDist a b = -1)) ∨
    (cellStr a = true ∧ cellStr b = true ∧ ¬ (a.size : Int) = 5 ∧ Hid (gcrDist a b = -1)) ∨ (cellStr a = true ∧ cellStr b = true ∧ (a.size : Int) = 5 ∧ ¬ (b.size : Int) = 5 ∧ Hid (gcrDist a b = -1)) ∨
    (cellStr a = true ∧ cellStr b = true ∧ (a.size : Int) = 5 ∧ (b.size : Int) = 5 ∧ Hid (gcrDist a b = (distTo a b 5 : Nat))) := by
  have hg : ∀ s : ByteArray, isGrp s = (cellStr s && decide (s.size = 5)) := fun s => by
    unfold isGrp cellStr
    by_cases h : s.size = 5
    · rw [decide_eq_true h, decide_eq_true (by omega : s.size ≤ 8000), Bool.true_and, Bool.and_true, Bool.and_true]
    · rw [decide_eq_false h, Bool.false_and, Bool.and_false]
  cases h1 : cellStr a
  · exact .inl ⟨rfl, dist_no (.inl (by rw [hg, h1, Bool.false_and]))⟩
  cases h2 : cellStr b
  · exact .inr (.inl ⟨rfl, rfl, dist_no (.inr (by rw [hg, h2, Bool.false_and]))⟩)
  by_cases h3 : a.size = 5
  · by_cases h4 : b.size = 5
    · exact .inr (.inr (.inr (.inr ⟨rfl, rfl, by omega, by omega, dist_yes (by rw [hg, h1, decide_eq_true h3]; rfl) (by rw [hg, h2, decide_eq_true h4]; rfl)⟩)))
    · exact .inr (.inr (.inr (.inl ⟨rfl, rfl, by omega, by omega, dist_no (.inr (by rw [hg, h2, decide_eq_false h4]; rfl))⟩)))
  · exact .inr (.inr (.inl ⟨rfl, rfl, by omega, dist_no (.inl (by rw [hg, h1, decide_eq_false h3]; rfl))⟩))
end Go.Proofs.YtlelgpknkgjaeaaGreatDoor
