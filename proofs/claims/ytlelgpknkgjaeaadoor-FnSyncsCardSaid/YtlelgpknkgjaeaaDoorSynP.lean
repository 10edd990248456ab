/- What the syncs of a circular track are, and that slices join: plain laws for 'FnSyncs'. -/
import Derived.Test.YtlelgpknkgjaeaaDoorSync
import Derived.Test.YtlelgpknkgjaeaaDoorShift
namespace Go.Proofs.YtlelgpknkgjaeaaDoor
open Go.ChangeShapes Go.WideShapes Go.ChangeAt Go.RowKit
set_option linter.unusedSimpArgs false
set_option linter.unusedVariables false

theorem cntF_all {p : Nat → Bool} : ∀ (f c j : Nat), c ≤ j → j < cntF p f c → p j = true
  | 0, c, j, h1, h2 => by unfold cntF at h2; omega
  | f + 1, c, j, h1, h2 => by
    unfold cntF at h2
    by_cases hp : p c = true
    · rw [if_pos hp] at h2
      rcases Nat.lt_or_ge c j with h | h
      · exact cntF_all f (c + 1) j h h2
      · obtain rfl : j = c := by omega
        exact hp
    · rw [if_neg hp] at h2
      omega
theorem cntF_end {p : Nat → Bool} : ∀ (f c : Nat), cntF p f c < c + f → p (cntF p f c) = false
  | 0, c, h => by unfold cntF at h; omega
  | f + 1, c, h => by
    by_cases hp : p c = true
    · have e : cntF p (f + 1) c = cntF p f (c + 1) := by
        show (if p c = true then cntF p f (c + 1) else c) = _
        rw [if_pos hp]
      rw [e] at h ⊢
      exact cntF_end f (c + 1) (by omega)
    · have e : cntF p (f + 1) c = c := by
        show (if p c = true then cntF p f (c + 1) else c) = _
        rw [if_neg hp]
      rw [e]
      simpa using hp
/-- A run of ten cells 1 or more, maximal. -/
structure RunOk (s : ByteArray) (i c : Nat) : Prop where
  lt : i < s.size
  ten : 10 ≤ c
  le : c ≤ s.size
  one : ∀ j, j < c → byteAt s ((i + j) % s.size) = 49
  stop : c < s.size → byteAt s ((i + c) % s.size) ≠ 49 ∧ byteAt s ((i + s.size - 1) % s.size) ≠ 49
theorem sync_run {s : ByteArray} {i : Nat} (hi : i < s.size) (h : syncAt s i = true) : RunOk s i (cnt s i) := by
  unfold syncAt at h
  rw [Bool.and_eq_true] at h
  have h10 : 10 ≤ cnt s i := of_decide_eq_true h.2
  have hs := h.1
  unfold startAt at hs
  rw [Bool.and_eq_true, Bool.not_eq_true'] at hs
  refine ⟨hi, h10, cnt_le s i, fun j hj => ?_, fun hc => ⟨?_, ?_⟩⟩
  · have := cntF_all (p := oneAt s i) s.size 0 j (Nat.zero_le _) hj
    unfold oneAt at this
    exact eq_of_beq this
  · have : oneAt s i (cnt s i) = false := cntF_end (p := oneAt s i) s.size 0 (by unfold cnt at hc; omega)
    exact fun e => by
      unfold oneAt at this
      rw [e] at this
      exact absurd this (by decide)
  · exact fun e => by
      rw [e] at hs
      exact absurd hs.2 (by decide)
theorem syncTo_mem {s : ByteArray} : ∀ {k : Nat}, k ≤ s.size → ∀ r ∈ syncTo s k, ∃ i c : Nat, r = ⟨(i : Int), (c : Int)⟩ ∧ RunOk s i c
  | 0, _, r, hr => by cases hr
  | k + 1, hk, r, hr => by
    cases h : syncAt s k
    · rw [syncTo_no h] at hr
      exact syncTo_mem (by omega) r hr
    · rw [syncTo_yes h, List.mem_append, List.mem_singleton] at hr
      rcases hr with hr | rfl
      · exact syncTo_mem (by omega) r hr
      · exact ⟨k, cnt s k, rfl, sync_run (by omega) h⟩
theorem syncV_mem {s : ByteArray} {r : RunR} (hr : r ∈ syncV s) : ∃ i c : Nat, r = ⟨(i : Int), (c : Int)⟩ ∧ RunOk s i c := by
  unfold syncV at hr
  split at hr
  · split at hr
    · rename_i ho
      split at hr
      · rename_i h10
        rw [List.mem_singleton] at hr
        subst hr
        exact ⟨0, s.size, rfl, by omega, h10, Nat.le_refl _, fun j hj => ones_at ho (Nat.mod_lt _ (by omega)), fun h => by omega⟩
      · cases hr
    · exact syncTo_mem (Nat.le_refl _) r hr
  · cases hr
theorem bit_not {s : ByteArray} (h : allBits s = true) {k : Nat} (hk : k < s.size) (hb : byteAt s k ≠ 49) : byteAt s k = 48 := by
  unfold allBits at h
  rw [List.all_eq_true] at h
  have hk' : k < s.data.toList.length := by simpa using hk
  have := h s.data.toList[k] (List.getElem_mem _)
  unfold byteAt at hb ⊢
  rw [List.getD_eq_getElem?_getD, List.getElem?_eq_getElem hk'] at hb ⊢
  unfold isBit at this
  simp at this hb ⊢
  rcases this with h | h
  · exact h
  · exact absurd h hb
theorem sliceL_join {L : List UInt8} {p a b : Nat} : sliceL L p a ++ sliceL L ((p + a) % L.length) b = sliceL L p (a + b) := by
  apply List.ext_getElem?
  intro i
  by_cases hi : i < a + b
  · rw [sliceL_at hi]
    by_cases hj : i < a
    · rw [List.getElem?_append_left (by rw [sliceL_len]; exact hj), sliceL_at hj]
    · rw [List.getElem?_append_right (by rw [sliceL_len]; omega), sliceL_len, sliceL_at (by omega), Nat.mod_add_mod, show p + a + (i - a) = p + i by omega]
  · rw [List.getElem?_eq_none (by rw [List.length_append, sliceL_len, sliceL_len]; omega), List.getElem?_eq_none (by rw [sliceL_len]; omega)]
theorem slice_join {s : ByteArray} {p a b : Nat} (h : a + b = s.size) : sliceS s p a ++ sliceS s ((p + a) % s.size) b = sliceS s p s.size := by
  apply ba_ext
  rw [ByteArray.data_append, Array.toList_append]
  show (sliceL s.data.toList p a).toArray.toList ++ (sliceL s.data.toList ((p + a) % s.size) b).toArray.toList = (sliceL s.data.toList p s.size).toArray.toList
  rw [List.toList_toArray, List.toList_toArray, List.toList_toArray, ← h]
  have hl := len_data s
  rw [← h] at hl
  have := sliceL_join (L := s.data.toList) (p := p) (a := a) (b := b)
  rw [hl] at this
  exact this
theorem rot_nat {k n : Nat} (h : k < n) : rotAt (k : Int) n = k := by
  unfold rotAt
  rw [Int.emod_eq_of_lt (by omega) (by omega)]
  simp
end Go.Proofs.YtlelgpknkgjaeaaDoor
