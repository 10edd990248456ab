/- MFM cells: the changes are two to four cells apart, and the mark stands nowhere (plain law). -/
import Derived.Test.YtdnkjbgfaniafaaDoorEncP
import Derived.Test.YtdnkjbgfaniafaaDoorRuns
namespace Go.Proofs.YtdnkjbgfaniafaaDoor
open Go.ChangeShapes Go.WideShapes Go.ChangeAt Go.RowKit
set_option linter.unusedSimpArgs false
set_option linter.unusedVariables false

def mfmMk : ByteArray := ⟨#[48, 49, 48, 48, 48, 49, 48, 48, 49, 48, 48, 48, 49, 48, 48, 49]⟩
theorem at_some {C : ByteArray} {p : Nat} {c : UInt8} (h : C.data.toList[p]? = some c) : p < C.size ∧ byteAt C p = c := by
  have h1 := (List.getElem?_eq_some_iff.1 h).1
  refine ⟨by simpa using h1, ?_⟩
  unfold byteAt
  rw [List.getD_eq_getElem?_getD, h]
  rfl
theorem at_not {C : ByteArray} {p : Nat} (hp : p < C.size) (h : C.data.toList[p]? ≠ some 49) : byteAt C p ≠ 49 := fun hb => h (by
  have hl : p < C.data.toList.length := by simpa using hp
  unfold byteAt at hb
  rw [List.getD_eq_getElem?_getD, List.getElem?_eq_getElem hl] at hb
  rw [List.getElem?_eq_getElem hl]
  exact congrArg some hb)
theorem gap24 {la : Bool} {C s : ByteArray} (E : EncOf true la C s) {r : Int} (h : OneGap C r) : 2 ≤ r ∧ r ≤ 4 := by
  obtain ⟨p, n, rfl, h1, h2, h3⟩ := h
  obtain ⟨hp, b1⟩ := at_some h1
  obtain ⟨hq, b2⟩ := at_some h2
  have hz : ∀ j, p < j → j < p + n + 1 → byteAt C j = 48 := fun j j1 j2 => by
    rcases E.bit (i := j) (by omega) with h | h
    · exact h
    · exact absurd h (at_not (by omega) (h3 j j1 j2))
  have hsz := E.size
  have hn1 : n ≠ 0 := by
    rintro rfl
    obtain ⟨k, hk | hk⟩ : ∃ k, p = 2 * k ∨ p = 2 * k + 1 := ⟨p / 2, by omega⟩
    · subst hk
      have := (E.set_next (k := k) (by omega) b1).1
      rw [show 2 * k + 0 + 1 = 2 * k + 1 by omega, this] at b2
      exact absurd b2 (by decide)
    · subst hk
      have := (E.set_next (k := k + 1) (by omega) (by rw [show 2 * (k + 1) = 2 * k + 1 + 0 + 1 by omega]; exact b2)).2
      rw [show prevC C la (k + 1) = (byteAt C (2 * k + 1) == 49) from rfl, b1] at this
      exact absurd this (by decide)
  have hn4 : ¬ 4 ≤ n := fun h4 => by
    obtain ⟨k, hk | hk⟩ : ∃ k, p = 2 * k ∨ p = 2 * k + 1 := ⟨p / 2, by omega⟩
    · subst hk
      have := E.set_of (k := k) (by omega) (hz _ (by omega) (by omega)) (hz _ (by omega) (by omega))
      rw [hz _ (by omega) (by omega)] at this
      exact absurd this (by decide)
    · subst hk
      have := E.set_of (k := k + 1) (by omega) (hz _ (by omega) (by omega)) (hz _ (by omega) (by omega))
      rw [hz _ (by omega) (by omega)] at this
      exact absurd this (by decide)
  omega
theorem byteAt_extract {C : ByteArray} {i n j : Nat} (h : i + n ≤ C.size) (hj : j < n) : byteAt (C.extract i (i + n)) j = byteAt C (i + j) := by
  have h1 : (C.extract i (i + n)).data.toList = (C.data.toList.drop i).take n := by
    rw [ByteArray.data_extract, Array.toList_extract, List.extract_eq_take_drop, show i + n - i = n by omega]
  unfold byteAt
  rw [h1, List.getD_eq_getElem?_getD, List.getD_eq_getElem?_getD, List.getElem?_take_of_lt hj, List.getElem?_drop]
theorem no_mark {la : Bool} {C s : ByteArray} (E : EncOf true la C s) {i : Nat} (h : i + 16 ≤ C.size) : C.extract i (i + 16) ≠ mfmMk := fun he => by
  have hb : ∀ j, j < 16 → byteAt C (i + j) = byteAt mfmMk j := fun j hj => by rw [← byteAt_extract h hj, he]
  have hsz := E.size
  obtain ⟨k, hk | hk⟩ : ∃ k, i = 2 * k ∨ i = 2 * k + 1 := ⟨i / 2, by omega⟩
  · subst hk
    have := E.set_of (k := k + 4) (by omega) (by rw [show 2 * (k + 4) + 1 = 2 * k + 9 by omega, hb 9 (by omega)]; rfl) (by rw [show 2 * (k + 4) + 3 = 2 * k + 11 by omega, hb 11 (by omega)]; rfl)
    rw [show 2 * (k + 4) + 2 = 2 * k + 10 by omega, hb 10 (by omega)] at this
    exact absurd this (by decide)
  · subst hk
    have := E.set_of (k := k + 1) (by omega) (by rw [show 2 * (k + 1) + 1 = 2 * k + 1 + 2 by omega, hb 2 (by omega)]; rfl) (by rw [show 2 * (k + 1) + 3 = 2 * k + 1 + 4 by omega, hb 4 (by omega)]; rfl)
    rw [show 2 * (k + 1) + 2 = 2 * k + 1 + 3 by omega, hb 3 (by omega)] at this
    exact absurd this (by decide)
theorem mark_facts : cellStr mfmMk = true ∧ mfmMk.size = 16 ∧ ∀ la : Bool, (clkTo mfmMk la true 8).1.length = 1 := by decide +kernel
end Go.Proofs.YtdnkjbgfaniafaaDoor
