/- 'AlignRevolutions' of the program and of the reference: each revolution turned by its best shift. -/
import Derived.Test.YtlelgpknkgjaeaaGreatDoorShift
import Derived.Deep.AppendLies
import Derived.BigRegion
import Derived.Deep.RegionLaw
namespace Go.Proofs.YtlelgpknkgjaeaaGreatDoor
open Go.ChangeShapes Go.WideShapes Go.ChangeAt Go.RowKit
set_option linter.unusedSimpArgs false
set_option linter.unusedVariables false
set_option maxRecDepth 20000

theorem ret2_sb4 {a b : ByteArray} {x y : Bool} (h : a = b) (k : x = y) : Ending.returned (.tuple #[.string a, .bool x]) = .returned (.tuple #[.string b, .bool y]) := by rw [h, k]
theorem rot_cut {s : ByteArray} {r : Nat} (h : r < s.size) : s.extract r s.size ++ s.extract 0 r = sliceS s r s.size := by
  by_cases h0 : r = 0
  · subst h0
    rw [← slice_one (s := s) (at_ := 0) (n := s.size) (by omega), Nat.zero_add]
    apply ba_ext
    rw [ByteArray.data_append, Array.toList_append, extract_list, extract_list]
    simp
  · have := slice_two (s := s) (at_ := r) (n := s.size) h (Nat.le_refl _) (by omega)
    rw [Nat.add_sub_cancel] at this
    exact this
theorem quiet_q {P : Program} {f : FuncId} {args : Array Value} {w : World} {n : Nat} {v : Value}
    (h : Calls P f args (w.drewN n) fun e w' => e = .returned v ∧ ∃ m, w' = (w.drewN n).drewN m) : Calls P f args (w.drewN n) fun e w'' => e = .returned v ∧ ∃ m, w'' = w.drewN m :=
  h.mono fun _ _ ⟨he, q, hq⟩ => ⟨he, _, hq.trans (drewN_add _ _ _)⟩
theorem quiet_add_q {P : Program} {f : FuncId} {args : Array Value} {w : World} {a n : Nat} {v : Value}
    (h : Calls P f args (w.drewN (a + n)) fun e w' => e = .returned v ∧ ∃ m, w' = (w.drewN (a + n)).drewN m) :
    Calls P f args (w.drewN (a + n)) fun e w'' => e = .returned v ∧ ∃ m, w'' = w.drewN (a + m) :=
  h.mono fun _ _ ⟨he, q, hq⟩ => ⟨he, n + q, hq.trans ((drewN_add _ _ _).trans (by rw [Nat.add_assoc]))⟩
def alignF (l : List ByteArray) (n m : Nat) (s : ByteArray) : ByteArray := sliceS s (rotAt (shTo (l.headD ⟨#[]⟩) s n (2 * m)).1 n) n
def alignTo (l : List ByteArray) (n m k : Nat) : List ByteArray := (l.take k).map (alignF l n m)
theorem alignTo_len {l : List ByteArray} {n m k : Nat} (h : k ≤ l.length) : (alignTo l n m k).length = k := by
  unfold alignTo
  rw [List.length_map, List.length_take]
  omega
theorem alignTo_next {l : List ByteArray} {n m k : Nat} {s : ByteArray} (h : l[k]? = some s) : alignTo l n m (k + 1) = alignTo l n m k ++ [alignF l n m s] := by
  unfold alignTo
  rw [take_snoc l k s h, List.map_append]
  rfl
def alignOk (l : List ByteArray) (k : Int) : Bool := revsOk l && inB k 0 40
def alignV (l : List ByteArray) (k : Int) : List ByteArray := if alignOk l k = true then l.map (alignF l (revLen l) k.toNat) else []
def alignC (l : List ByteArray) (k : Int) : Int := if revsOk l = true then (if inB k 0 40 = true then 0 else 2) else 1
theorem alignV_len (l : List ByteArray) (k : Int) : (alignV l k).length ≤ l.length := by
  unfold alignV
  split
  · rw [List.length_map]; exact Nat.le_refl _
  · exact Nat.zero_le _
theorem align_cases (l : List ByteArray) (k : Int) :
    (revsOk l = false ∧ Hid (alignV l k = [] ∧ alignC l k = 1)) ∨ (revsOk l = true ∧ inB k 0 40 = false ∧ Hid (alignV l k = [] ∧ alignC l k = 2)) ∨
    (revsOk l = true ∧ inB k 0 40 = true ∧ ∃ m : Nat, k = m ∧ m ≤ 40 ∧ Hid (alignV l k = alignTo l (revLen l) m l.length ∧ alignC l k = 0)) := by
  unfold Hid alignV alignC alignOk
  cases h1 : revsOk l
  · exact .inl ⟨rfl, rfl, rfl⟩
  cases h2 : inB k 0 40
  · exact .inr (.inl ⟨rfl, rfl, rfl, rfl⟩)
  · obtain ⟨k1, k2⟩ := inB_t h2
    obtain ⟨m, rfl⟩ := Int.eq_ofNat_of_zero_le k1
    refine .inr (.inr ⟨rfl, rfl, m, rfl, by omega, ?_, rfl⟩)
    unfold alignTo
    rw [List.take_length]
    rfl
theorem head_at {l : List ByteArray} {s0 : ByteArray} (h : l[0]? = some s0) : l.headD ⟨#[]⟩ = s0 := by
  cases l with
  | nil => simp at h
  | cons x l => simp at h; exact h
theorem valid_in {l : List ByteArray} (h : revsOk l = true) {s : ByteArray} (hs : s ∈ l) : validCells s = true := by
  unfold revsOk at h
  rw [Bool.and_eq_true, List.all_eq_true] at h
  have := h.2 s hs
  unfold revOk at this
  rw [Bool.and_eq_true] at this
  exact this.1
theorem tmod_rot {sh : Int} {N : Nat} (h : 1 ≤ N) : -(N : Int) < sh.tmod (N : Int) ∧ sh.tmod (N : Int) < N ∧ (sh.tmod (N : Int) + N) % (N : Int) = (rotAt sh N : Nat) := by
  have hb1 := Int.lt_tmod_of_pos sh (show 0 < (N : Int) by omega)
  refine ⟨by omega, Int.tmod_lt_of_pos sh (by omega), ?_⟩
  have hE0 : (sh.tmod (N : Int) + N) % (N : Int) = sh % (N : Int) := by
    have h2 : sh = (N : Int) * sh.tdiv N + sh.tmod N := (Int.mul_tdiv_add_tmod sh N).symm
    conv => rhs; rw [h2]
    rw [Int.add_emod_right, Int.mul_add_emod_self_left]
  exact hE0.trans (rotAt_eq (sh := sh) (n := N) (by omega)).1
theorem alignTo_get {l : List ByteArray} {n m k : Nat} {s : ByteArray} (h : l[k]? = some s) : (alignTo l n m l.length)[k]? = some (alignF l n m s) := by
  unfold alignTo
  rw [List.take_length, List.getElem?_map, h]
  rfl
end Go.Proofs.YtlelgpknkgjaeaaGreatDoor
