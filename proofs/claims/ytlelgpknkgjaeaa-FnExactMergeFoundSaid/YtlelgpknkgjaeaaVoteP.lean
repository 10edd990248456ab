/- The byte that most of some strings have at a place, and the places at which not all are the same: plain side of 'VoteBytes'. -/
import Derived.Test.YtlelgpknkgjaeaaCol
import Derived.Test.YtlelgpknkgjaeaaStr
import Derived.Test.YtlelgpknkgjaeaaPlaces
import Derived.StillTailTactics
namespace Go.Proofs.Ytlelgpknkgjaeaa
open Go.ChangeShapes Go.WideShapes Go.ChangeAt Go.RowKit
set_option linter.unusedSimpArgs false
set_option linter.unusedVariables false

def cntTo (l : List ByteArray) (k : Nat) (c : UInt8) : Nat → Nat
  | 0 => 0
  | i + 1 => cntTo l k c i + if colAt l k i = c then 1 else 0
theorem cntTo_le (l : List ByteArray) (k : Nat) (c : UInt8) : ∀ i, cntTo l k c i ≤ i
  | 0 => Nat.le_refl _
  | i + 1 => by
    have := cntTo_le l k c i
    unfold cntTo
    split <;> omega
theorem cntTo_all {l : List ByteArray} {k : Nat} {c : UInt8} : ∀ {i : Nat}, (∀ j, j < i → colAt l k j = c) → cntTo l k c i = i
  | 0, _ => rfl
  | i + 1, h => by
    unfold cntTo
    rw [cntTo_all fun j hj => h j (by omega), if_pos (h i (by omega))]
theorem cntTo_full {l : List ByteArray} {k : Nat} {c : UInt8} : ∀ {i : Nat}, cntTo l k c i = i → ∀ j, j < i → colAt l k j = c
  | 0, _, j, hj => by omega
  | i + 1, h, j, hj => by
    have h1 := cntTo_le l k c i
    unfold cntTo at h
    by_cases hc : colAt l k i = c
    · rw [if_pos hc] at h
      rcases Nat.lt_or_ge j i with h2 | h2
      · exact cntTo_full (by omega) j h2
      · obtain rfl : j = i := by omega
        exact hc
    · rw [if_neg hc] at h
      omega
theorem cnt_next1 {l : List ByteArray} {k i : Nat} {c : UInt8} (h : colAt l k i = c) : cntTo l k c (i + 1) = cntTo l k c i + 1 := by
  show cntTo l k c i + (if colAt l k i = c then 1 else 0) = _
  rw [if_pos h]
theorem cnt_next0 {l : List ByteArray} {k i : Nat} {c : UInt8} (h : colAt l k i ≠ c) : cntTo l k c (i + 1) = cntTo l k c i := by
  show cntTo l k c i + (if colAt l k i = c then 1 else 0) = _
  rw [if_neg h, Nat.add_zero]
def cntN (l : List ByteArray) (k b : Nat) : Nat := cntTo l k (UInt8.ofNat b) l.length
def bestTo (l : List ByteArray) (k : Nat) : Nat → Nat
  | 0 => 0
  | m + 1 => if cntN l k (bestTo l k m) < cntN l k m then m else bestTo l k m
theorem bestTo_yes {l : List ByteArray} {k m : Nat} (h : cntN l k (bestTo l k m) < cntN l k m) : bestTo l k (m + 1) = m := by
  show (if _ then _ else _) = _
  rw [if_pos h]
theorem bestTo_no {l : List ByteArray} {k m : Nat} (h : ¬ cntN l k (bestTo l k m) < cntN l k m) : bestTo l k (m + 1) = bestTo l k m := by
  show (if _ then _ else _) = _
  rw [if_neg h]
theorem bestTo_le (l : List ByteArray) (k : Nat) : ∀ m, bestTo l k m ≤ m - 1
  | 0 => Nat.le_refl _
  | m + 1 => by
    have := bestTo_le l k m
    unfold bestTo
    split <;> omega
theorem bestTo_max (l : List ByteArray) (k : Nat) : ∀ m b, b < m → cntN l k b ≤ cntN l k (bestTo l k m)
  | m + 1, b, h => by
    have h1 := bestTo_max l k m b
    by_cases hc : cntN l k (bestTo l k m) < cntN l k m
    · rw [bestTo_yes hc]
      rcases Nat.lt_or_ge b m with h2 | h2
      · have := h1 h2; omega
      · obtain rfl : b = m := by omega
        exact Nat.le_refl _
    · rw [bestTo_no hc]
      rcases Nat.lt_or_ge b m with h2 | h2
      · exact h1 h2
      · obtain rfl : b = m := by omega
        omega
def diffAt (l : List ByteArray) (k : Nat) : Bool := (List.range l.length).any fun j => !(colAt l k j == colAt l k 0)
theorem diff_yes {l : List ByteArray} {k j : Nat} (hj : j < l.length) (h : colAt l k j ≠ colAt l k 0) : diffAt l k = true := by
  unfold diffAt
  rw [List.any_eq_true]
  exact ⟨j, List.mem_range.2 hj, by simpa using h⟩
theorem diff_no {l : List ByteArray} {k : Nat} (h : ∀ j, j < l.length → colAt l k j = colAt l k 0) : diffAt l k = false := by
  unfold diffAt
  rw [List.any_eq_false]
  intro j hj
  simpa using h j (List.mem_range.1 hj)
theorem diff_all {l : List ByteArray} {k : Nat} (h : diffAt l k = false) : ∀ j, j < l.length → colAt l k j = colAt l k 0 := by
  unfold diffAt at h
  rw [List.any_eq_false] at h
  intro j hj
  simpa using h j (List.mem_range.2 hj)
theorem best_all (l : List ByteArray) (k : Nat) : (cntN l k (bestTo l k 256) = l.length) ↔ diffAt l k = false := by
  constructor
  · intro h
    have h1 := cntTo_full h
    refine diff_no fun j hj => ?_
    rw [h1 j hj, h1 0 (by omega)]
  · intro h
    have h1 := diff_all h
    have h2 := bestTo_max l k 256 (colAt l k 0).toNat (by have := (colAt l k 0).toNat_lt; omega)
    have h3 : cntN l k (colAt l k 0).toNat = l.length := by
      unfold cntN
      rw [UInt8.ofNat_toNat]
      exact cntTo_all h1
    have h4 := cntTo_le l k (UInt8.ofNat (bestTo l k 256)) l.length
    unfold cntN at h2 h3 ⊢
    omega
def voteB (l : List ByteArray) (k : Nat) : UInt8 := UInt8.ofNat (bestTo l k 256)
def voteTo (l : List ByteArray) (n : Nat) : List UInt8 := (List.range n).map (voteB l)
theorem voteTo_len (l : List ByteArray) (n : Nat) : (voteTo l n).length = n := by simp [voteTo]
theorem voteTo_next (l : List ByteArray) (n : Nat) : voteTo l (n + 1) = voteTo l n ++ [voteB l n] := by
  unfold voteTo
  rw [List.range_succ, List.map_append]
  rfl
theorem voteTo_get (l : List ByteArray) {n k : Nat} (h : k < n) : (voteTo l n)[k]? = some (voteB l k) := by
  unfold voteTo
  rw [List.getElem?_map, List.getElem?_range h]
  rfl
theorem voteB_nat {l : List ByteArray} {k X : Nat} (h : bestTo l k 256 = X) : ((voteB l k).toNat : Int) = (X : Int) := by
  have := bestTo_le l k 256
  unfold voteB
  rw [h, UInt8.toNat_ofNat', Nat.mod_eq_of_lt (by omega)]
/-- Strings, one at least, all of a length. -/
def voteOk (l : List ByteArray) (N : Nat) : Prop := 0 < l.length ∧ ∀ s ∈ l, s.size = N
theorem voteOk.col {l : List ByteArray} {N : Nat} (h : voteOk l N) {s : ByteArray} (hs : s ∈ l) : s.size = N := h.2 s hs
def okVote (l : List ByteArray) : Bool := decide (1 ≤ l.length ∧ l.length ≤ 64) && (decide (revLen l ≤ 512) && l.all fun s => decide (s.size = revLen l))
def voteV (l : List ByteArray) : ByteArray := if okVote l = true then ⟨(voteTo l (revLen l)).toArray⟩ else ⟨#[]⟩
def voteW (l : List ByteArray) : List Int := if okVote l = true then placesTo (diffAt l) (revLen l) else []
theorem vote_yes {l : List ByteArray} {N : Nat} (hN : revLen l = N) (h : okVote l = true) : voteV l = ⟨(voteTo l N).toArray⟩ ∧ voteW l = placesTo (diffAt l) N := by
  subst hN
  exact ⟨if_pos h, if_pos h⟩
theorem vote_no {l : List ByteArray} (h : okVote l = false) : voteV l = ⟨#[]⟩ ∧ voteW l = [] := ⟨if_neg (by rw [h]; decide), if_neg (by rw [h]; decide)⟩
end Go.Proofs.Ytlelgpknkgjaeaa
