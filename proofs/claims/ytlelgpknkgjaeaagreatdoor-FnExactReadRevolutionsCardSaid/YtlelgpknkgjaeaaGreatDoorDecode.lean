/- 'DecodeGcr' of the program and of the reference. -/
import Derived.Test.YtlelgpknkgjaeaaGreatDoorFaults
import Derived.Test.YtlelgpknkgjaeaaGreatDoorStr
namespace Go.Proofs.YtlelgpknkgjaeaaGreatDoor
open Go.ChangeShapes Go.WideShapes Go.ChangeAt Go.RowKit
set_option linter.unusedSimpArgs false
set_option linter.unusedVariables false
set_option maxRecDepth 4000

theorem Tryz.infoU8 : (Tryz.prog.info? 5).map (fun i => (i.zero, i.size, i.bytes)) = some (some (.int .u8 0), 1, 1) := by kernel_rfl
def gV (s : ByteArray) (j : Nat) : Int := gcrValue (grpAt s j)
theorem gcrValue_in (g : ByteArray) : -1 ≤ gcrValue g ∧ gcrValue g ≤ 15 := by
  unfold gcrValue
  split
  · rename_i i h
    have := List.mem_of_find?_eq_some h
    rw [List.mem_range] at this
    omega
  · omega
def decByte (s : ByteArray) (k : Nat) : UInt8 := UInt8.ofNat (16 * gV s (2 * k) + gV s (2 * k + 1)).toNat
def decTo (s : ByteArray) (k : Nat) : List UInt8 := (List.range k).map (decByte s)
theorem decTo_len (s : ByteArray) (k : Nat) : (decTo s k).length = k := by simp [decTo]
theorem decTo_next (s : ByteArray) (k : Nat) : decTo s (k + 1) = decTo s k ++ [decByte s k] := by
  unfold decTo
  rw [List.range_succ, List.map_append]
  rfl
theorem decByte_val {s : ByteArray} {k : Nat} (h : ¬ gV s (2 * k) < 0) (h' : ¬ gV s (2 * k + 1) < 0) : Lib.byteCells (decTo s k) ++ [.int .u8 (16 * gV s (2 * k) + gV s (2 * k + 1))] = Lib.byteCells (decTo s (k + 1)) := by
  rw [decTo_next]
  unfold Lib.byteCells
  rw [List.map_append]
  congr 1
  have h1 := gcrValue_in (grpAt s (2 * k))
  have h2 := gcrValue_in (grpAt s (2 * k + 1))
  unfold decByte gV at *
  generalize gcrValue (grpAt s (2 * k)) = a at *
  generalize gcrValue (grpAt s (2 * k + 1)) = b at *
  show _ = [Value.int .u8 ((UInt8.ofNat (16 * a + b).toNat).toNat : Int)]
  rw [UInt8.toNat_ofNat']
  congr 2
  omega
def isDec (s : ByteArray) : Bool := cellStr s && decide ((s.size : Int) % 10 = 0)
def decGood (s : ByteArray) : Bool := (List.range (2 * (s.size / 10))).all fun j => decide (0 ≤ gV s j)
def decB (s : ByteArray) : Bool := isDec s && decGood s
def decV (s : ByteArray) : ByteArray := if decB s = true then ⟨(decTo s (s.size / 10)).toArray⟩ else ⟨#[]⟩
theorem decGood_no {s : ByteArray} {j : Nat} (hj : j < 2 * (s.size / 10)) (h : gV s j < 0) : decB s = false ∧ decV s = ⟨#[]⟩ := by
  have : decGood s = false := by
    unfold decGood
    rw [List.all_eq_false]
    exact ⟨j, List.mem_range.2 hj, by simp; omega⟩
  have hb : decB s = false := by unfold decB; rw [this, Bool.and_false]
  exact ⟨hb, if_neg (by rw [hb]; decide)⟩
theorem decGood_yes {s : ByteArray} {N : Nat} (hN : s.size / 10 = N) (hd : isDec s = true) (h : ∀ j, j < 2 * N → 0 ≤ gV s j) : decB s = true ∧ decV s = ⟨(decTo s N).toArray⟩ := by
  have : decGood s = true := by
    unfold decGood
    rw [hN, List.all_eq_true]
    intro j hj
    have := h j (List.mem_range.1 hj)
    simp
    omega
  have hb : decB s = true := by unfold decB; rw [this, hd]; rfl
  exact ⟨hb, by unfold decV; rw [if_pos hb, hN]⟩
theorem dec_cases (s : ByteArray) : (cellStr s = false ∧ Hid (decB s = false ∧ decV s = ⟨#[]⟩)) ∨ (cellStr s = true ∧ ((s.size : Int) % 10 != 0) = true ∧ Hid (decB s = false ∧ decV s = ⟨#[]⟩)) ∨ (cellStr s = true ∧ ((s.size : Int) % 10 != 0) = false ∧ Hid (isDec s = true ∧ ∃ N, s.size = 10 * N ∧ s.size / 10 = N ∧ s.size ≤ 8000)) := by
  have hno : isDec s = false → decB s = false ∧ decV s = ⟨#[]⟩ := fun h => by
    have hb : decB s = false := by unfold decB; rw [h]; rfl
    exact ⟨hb, if_neg (by rw [hb]; decide)⟩
  cases h : cellStr s
  · exact .inl ⟨rfl, hno (by unfold isDec; rw [h]; rfl)⟩
  · by_cases h' : (s.size : Int) % 10 = 0
    · refine .inr (.inr ⟨rfl, by simp [h'], by unfold isDec; rw [h, decide_eq_true h']; rfl, s.size / 10, by omega, rfl, ?_⟩)
      unfold cellStr at h
      simp only [Bool.and_eq_true, decide_eq_true_eq] at h
      exact h.2
    · exact .inr (.inl ⟨rfl, bne_iff_ne.2 h', hno (by unfold isDec; rw [decide_eq_false h', Bool.and_false])⟩)
theorem good_next {s : ByteArray} {k : Nat} (H : ∀ j, j < 2 * k → 0 ≤ gV s j) (h : ¬ gV s (2 * k) < 0) (h' : ¬ gV s (2 * k + 1) < 0) : ∀ j, j < 2 * (k + 1) → 0 ≤ gV s j := fun j hj => by
  rcases Nat.lt_or_ge j (2 * k) with h1 | h1
  · exact H j h1
  · obtain rfl | rfl : j = 2 * k ∨ j = 2 * k + 1 := by omega
    · omega
    · omega
theorem ret2_sb' {a b : ByteArray} {x y : Bool} (h : a = b) (k : x = y) : Ending.returned (.tuple #[.string a, .bool x]) = .returned (.tuple #[.string b, .bool y]) := by rw [h, k]
end Go.Proofs.YtlelgpknkgjaeaaGreatDoor
