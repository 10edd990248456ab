/- Strings of cells: 'isBits', 'isCellString', 'ValidCells' of the program, 'l05Cells', 'l02Cells' of the reference. -/
import Derived.Test.YtlelgpknkgjaeaaGreatDoorMem
import Derived.Test.YtlelgpknkgjaeaaGreatDoorShelf
import Derived.Deep.LoopGhost
import Derived.Deep.QuietTactic
namespace Go.Proofs.YtlelgpknkgjaeaaGreatDoor
open Go.ChangeShapes Go.WideShapes Go.ChangeAt Go.RowKit
set_option linter.unusedSimpArgs false
set_option linter.unusedVariables false

def isBit (b : UInt8) : Bool := b == 48 || b == 49
def allBits (s : ByteArray) : Bool := s.data.toList.all isBit
def cellStr (s : ByteArray) : Bool := allBits s && decide (s.size ≤ 8000)
theorem dw_nil {p : UInt8 → Bool} : ∀ l : List UInt8, l.all p = true → l.dropWhile p = []
  | [], _ => rfl
  | x :: l, h => by
    rw [List.all_cons, Bool.and_eq_true] at h
    rw [List.dropWhile_cons, if_pos h.1]
    exact dw_nil l h.2
theorem dw_mem {p : UInt8 → Bool} {x : UInt8} (hx : p x = false) : ∀ l : List UInt8, x ∈ l → x ∈ l.dropWhile p
  | [], h => h
  | y :: l, h => by
    rw [List.dropWhile_cons]
    split
    · rcases List.mem_cons.1 h with rfl | h
      · rename_i h1
        rw [hx] at h1
        cases h1
      · exact dw_mem hx l h
    · exact h
theorem trim_bits (l : List UInt8) : (Lib.trimS l [48, 49]).isEmpty = l.all isBit := by
  have hc : ∀ b : UInt8, List.contains [48, 49] b = isBit b := fun b => by
    unfold isBit
    cases h1 : (b == 48) <;> cases h2 : (b == 49) <;> simp_all
  have hfun : (fun b : UInt8 => List.contains [48, 49] b) = isBit := funext hc
  unfold Lib.trimS Lib.trimLeftS Lib.trimRightS
  rw [show (fun x => List.contains [48, 49] x) = isBit from hfun]
  cases h : l.all isBit
  · rw [List.all_eq_false] at h
    obtain ⟨x, hx, hb⟩ := h
    have hb : isBit x = false := by simpa using hb
    have h3 : x ∈ ((l.reverse.dropWhile isBit).reverse).dropWhile isBit := dw_mem hb _ (by simpa using dw_mem hb l.reverse (by simpa using hx))
    cases hd : ((l.reverse.dropWhile isBit).reverse).dropWhile isBit with
    | nil => rw [hd] at h3; cases h3
    | cons _ _ => rfl
  · rw [dw_nil l.reverse (by rw [List.all_eq_true] at h ⊢; exact fun x hx => h x (by simpa using hx))]
    rfl
theorem impl_isBits (s : ByteArray) (w : World) (hs : s.size ≤ 9223372036854775807) :
    Calls Tryz.prog 100 #[.string s] w fun e w' => e = .returned (.bool (allBits s)) ∧ Below w.heap.size w w' := by
  have hcon := Any.strings_Trim_laid Tryz.lays160 (by kernel_rfl) s ⟨#[48, 49]⟩ w hs (by decide) (ascii_of_all (by decide))
  change Calls Tryz.prog 129 _ _ (fun e w' => e = .returned (.string ⟨(Lib.trimS s.data.toList [48, 49]).toArray⟩) ∧ Below w.heap.size w w') at hcon
  have HE := Hid.in_ (trim_bits s.data.toList)
  obtain ⟨r, hr⟩ : ∃ r : ByteArray, r = ⟨(Lib.trimS s.data.toList [48, 49]).toArray⟩ := ⟨_, rfl⟩
  have HR : Hid (r.toList.isEmpty = allBits s) := by
    rw [hr, Lib.toList_data]
    exact HE.out
  rw [← hr] at hcon
  clear hr HE
  go_enter Tryz.func100, Tryz.ntmps100
  cases hv : allBits s
  · have hq := HR.out.trans hv
    have HV := Hid.in_ hv
    clear hv
    go_wp2_with (go_at_call 129; refine hcon.mono ?_; rintro e w' ⟨rfl, hB⟩)
    go_ret
    exact ⟨rfl, hB⟩
  · have hq := HR.out.trans hv
    have HV := Hid.in_ hv
    clear hv
    go_wp2_with (go_at_call 129; refine hcon.mono ?_; rintro e w' ⟨rfl, hB⟩)
    go_ret
    exact ⟨rfl, hB⟩
theorem impl_isCellString (s : ByteArray) (w : World) (hs : s.size ≤ 9223372036854775807) :
    Calls Tryz.prog 66 #[.string s] w fun e w' => e = .returned (.bool (cellStr s)) ∧ Below w.heap.size w w' := by
  have HC := Hid.in_ (impl_isBits s w hs)
  by_cases h : s.size ≤ 8000
  · have HV := Hid.in_ (show cellStr s = allBits s by unfold cellStr; rw [decide_eq_true h, Bool.and_true])
    go_enter Tryz.func66, Tryz.ntmps66
    go_wp2_with (go_at_call 100; refine HC.out.mono ?_; rintro e w' ⟨rfl, hB⟩)
    go_ret
    exact ⟨ret_bool HV.out.symm, hB⟩
  · have HV := Hid.in_ (show cellStr s = false by unfold cellStr; rw [decide_eq_false h, Bool.and_false])
    go_enter Tryz.func66, Tryz.ntmps66
    go_wp2_with (go_at_call 100; refine HC.out.mono ?_; rintro e w' ⟨rfl, hB⟩)
    go_ret
    exact ⟨ret_bool HV.out.symm, Below.refl _ _⟩
theorem allTo_next {s : ByteArray} {k : Nat} (H : ∀ j (h : j < s.size), j < k → isBit s[j] = true) (hk : k < s.size) (hb : isBit s[k] = true) : ∀ j (h : j < s.size), j < k + 1 → isBit s[j] = true := fun j h hj => by
  rcases Nat.lt_or_ge j k with h1 | h1
  · exact H j h h1
  · obtain rfl : j = k := by omega
    exact hb
theorem allBits_yes {s : ByteArray} (H : ∀ j (h : j < s.size), isBit s[j] = true) : allBits s = true := by
  unfold allBits
  rw [List.all_eq_true]
  intro x hx
  obtain ⟨j, hj, rfl⟩ := List.getElem_of_mem hx
  have hj' : j < s.size := by simpa using hj
  rw [Array.getElem_toList]
  exact H j hj'
theorem allBits_no {s : ByteArray} {k : Nat} (hk : k < s.size) (hb : isBit s[k] = false) : allBits s = false := by
  unfold allBits
  rw [List.all_eq_false]
  exact ⟨s[k], by rw [show s[k] = s.data.toList[k]'(by simpa using hk) by simp; rfl]; exact List.getElem_mem _, by rw [hb]; decide⟩
theorem bit_cases (c : UInt8) : (c = 48 ∧ isBit c = true) ∨ (c = 49 ∧ isBit c = true) ∨ (((c.toNat : Int) != 48) = true ∧ ((c.toNat : Int) != 49) = true ∧ isBit c = false) := by
  by_cases h1 : c = 48
  · exact .inl ⟨h1, by rw [h1]; rfl⟩
  by_cases h2 : c = 49
  · exact .inr (.inl ⟨h2, by rw [h2]; rfl⟩)
  refine .inr (.inr ⟨bne_iff_ne.2 fun h => h1 ?_, bne_iff_ne.2 fun h => h2 ?_, by simp [isBit, h1, h2]⟩)
  · apply UInt8.toNat_inj.1; simpa using (by omega : c.toNat = 48)
  · apply UInt8.toNat_inj.1; simpa using (by omega : c.toNat = 49)
end Go.Proofs.YtlelgpknkgjaeaaGreatDoor
