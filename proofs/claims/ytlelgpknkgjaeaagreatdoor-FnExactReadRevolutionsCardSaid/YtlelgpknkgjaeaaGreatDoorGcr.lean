/- The group code's table: 'GcrCode', 'GcrValue' of the program and of the reference. -/
import Derived.Test.YtlelgpknkgjaeaaGreatDoorInt
import Derived.Test.YtlelgpknkgjaeaaGreatDoorMem
import Derived.Deep.LoopGhost
namespace Go.Proofs.YtlelgpknkgjaeaaGreatDoor
open Go.ChangeShapes Go.WideShapes Go.ChangeAt Go.RowKit
set_option linter.unusedSimpArgs false
set_option linter.unusedVariables false

def gcrTab : List (List UInt8) := [[48, 49, 48, 49, 48], [48, 49, 48, 49, 49], [49, 48, 48, 49, 48], [49, 48, 48, 49, 49], [48, 49, 49, 49, 48], [48, 49, 49, 49, 49], [49, 48, 49, 49, 48], [49, 48, 49, 49, 49],
  [48, 49, 48, 48, 49], [49, 49, 48, 48, 49], [49, 49, 48, 49, 48], [49, 49, 48, 49, 49], [48, 49, 49, 48, 49], [49, 49, 49, 48, 49], [49, 49, 49, 49, 48], [49, 48, 49, 48, 49]]
def gcrS (k : Nat) : ByteArray := ⟨(gcrTab.getD k []).toArray⟩
def gcrVals : List Value := gcrTab.map fun z => Value.string ⟨z.toArray⟩
theorem gcrVals_get {k : Nat} (h : k < 16) : gcrVals[k]? = some (.string (gcrS k)) := by
  unfold gcrVals gcrS
  rw [List.getElem?_map]
  have : k < gcrTab.length := h
  rw [List.getElem?_eq_getElem this, List.getD_eq_getElem?_getD, List.getElem?_eq_getElem this]
  rfl
def Tab (w : World) : Prop := ∃ t', w.heap[0]? = some (.cells gcrVals.toArray t' (0, 0))
theorem Tab.step {w w' : World} (k : Below w.heap.size w w') (h : Tab w) : Tab w' := by
  obtain ⟨t', ht⟩ := h
  exact ⟨t', by rw [k.block _ (Array.getElem?_eq_some_iff.1 ht).1]; exact ht⟩
theorem Tab.cell {w : World} (h : Tab w) {k : Nat} (hk : k < 16) : w.cell? ⟨0, k, none⟩ = some (.string (gcrS k)) := by
  obtain ⟨t', ht⟩ := h
  rw [cell_of_row w 0 k gcrVals.toArray t' (0, 0) ht, ← gcrVals_get hk]
  simp
def gcrCode (n : Int) : ByteArray := if inB n 0 15 = true then gcrS n.toNat else ⟨#[]⟩
theorem gcrCode_yes {n : Int} (h : inB n 0 15 = true) : gcrCode n = gcrS n.toNat := if_pos h
theorem gcrCode_no {n : Int} (h : inB n 0 15 = false) : gcrCode n = ⟨#[]⟩ := if_neg (by rw [h]; decide)
theorem ret_str {a b : ByteArray} (h : a = b) : Ending.returned (.string a) = .returned (.string b) := by rw [h]

theorem spec_l06Codes (w : World) :
    Calls Tryz.prog 166 #[] w fun e w' => ∃ v, e = .returned v ∧ w'.ownsRow w.heap.size 9 1 v 16 gcrVals ∧ Below w.heap.size w w' := by
  go_enter Tryz.func166, Tryz.ntmps166
  go_wp2
  go_ret
  exact ⟨_, rfl, World.ownsRow_lit w gcrVals.toArray 16 (Nat.le_refl _) (by decide) (by decide), balloc (Below.refl _ _) _⟩
theorem spec_GcrCode (n : Int) (w : World) :
    Calls Tryz.prog 128 #[.int .i64 n] w fun e w' => e = .returned (.string (gcrCode n)) ∧ Below w.heap.size w w' := by
  cases h1 : inB n 0 15
  · have HV := Hid.in_ (gcrCode_no h1)
    go_enter Tryz.func128, Tryz.ntmps128
    go_wp2_with (go_at_call 60; refine (bool_is (spec_l00In _ _ _ _) (by assumption)).mono ?_; rintro e w' ⟨rfl, rfl⟩)
    go_ret
    exact ⟨ret_str HV.out.symm, Below.refl _ _⟩
  · have HV := Hid.in_ (gcrCode_yes h1)
    obtain ⟨b1, b2⟩ := inB_t h1
    obtain ⟨k, rfl⟩ := Int.eq_ofNat_of_zero_le b1
    have hk : k < 16 := by omega
    go_enter Tryz.func128, Tryz.ntmps128
    go_wp2_with (go_at_call 60; refine (bool_is (spec_l00In _ _ _ _) (by assumption)).mono ?_; rintro e w' ⟨rfl, rfl⟩)
    refine (spec_l06Codes _).mono ?_
    rintro e w' ⟨v, rfl, ho, hb⟩
    obtain ⟨A, c, rfl, _, _, hA⟩ := own_shape ho
    obtain ⟨g, rfl, _, _, hx, _⟩ := hA (by omega)
    have c0 := hx k _ (gcrVals_get hk)
    clear hA hx
    go_wp2
    go_ret
    exact ⟨ret_str (by rw [HV.out]; rfl), hb⟩

def gcrMiss (g : ByteArray) (i : Nat) : Bool := !((gcrS i).toList == g.toList)
def gcrValue (g : ByteArray) : Int := match (List.range 16).find? (fun i => !gcrMiss g i) with | some i => (i : Int) | none => -1
theorem gcrValue_at {g : ByteArray} {k : Nat} (h : ∀ j, j < k → gcrMiss g j = true) (hp : gcrMiss g k = false) (hk : k < 16) : gcrValue g = k := by
  unfold gcrValue
  have : (List.range 16).find? (fun i => !gcrMiss g i) = some k := by
    rw [List.find?_range_eq_some]
    exact ⟨by rw [hp]; rfl, List.mem_range.2 hk, fun j hj => by rw [h j hj]; rfl⟩
  rw [this]
theorem gcrValue_none {g : ByteArray} (h : ∀ j, j < 16 → gcrMiss g j = true) : gcrValue g = -1 := by
  unfold gcrValue
  have : (List.range 16).find? (fun i => !gcrMiss g i) = none := by
    rw [List.find?_eq_none]
    intro x hx
    rw [h x (List.mem_range.1 hx)]
    decide
  rw [this]
theorem gcrMiss_cases (g : ByteArray) (i : Nat) : (((gcrS i).toList == g.toList) = true ∧ Hid (gcrMiss g i = false)) ∨ (((gcrS i).toList == g.toList) = false ∧ Hid (gcrMiss g i = true)) := by
  unfold Hid gcrMiss
  cases (gcrS i).toList == g.toList <;> simp
theorem all_succ {p : Nat → Prop} {k : Nat} (h : ∀ j, j < k → p j) (hk : p k) : ∀ j, j < k + 1 → p j := fun j hj => by
  rcases Nat.lt_or_ge j k with h1 | h1
  · exact h j h1
  · obtain rfl : j = k := by omega
    exact hk

theorem spec_GcrValue (g : ByteArray) (w : World) :
    Calls Tryz.prog 180 #[.string g] w fun e w' => e = .returned (.int .i64 (gcrValue g)) ∧ Below w.heap.size w w' := by
  go_enter Tryz.func180, Tryz.ntmps180
  go_wp2_with fail
  refine (spec_l06Codes _).mono ?_
  rintro e w1 ⟨v, rfl, ho, hb⟩
  obtain ⟨A, c, rfl, _, _, hA⟩ := own_shape ho
  obtain ⟨b, rfl, _, _, hx, _⟩ := hA (by omega)
  have HX := Hid.in_ hx
  have HB := Hid.in_ hb
  clear hA hx ho hb
  go_wp2_with fail
  go_loopg [4] 16 (fun m i wr => ∃ k : Nat, k + m = 16 ∧ i = .int .i64 k ∧ Hid (∀ j, j < k → gcrMiss g j = true) ∧ w1 = wr)
  case atStart => exact ⟨0, by omega, rfl, fun j hj => by omega, rfl⟩
  case round =>
    obtain ⟨k, hkm, rfl, HA, rfl⟩ := hrel
    have HK := Hid.in_ hkm
    clear hkm
    by_cases hlt : k < 16
    · have c0 := HX.out k _ (gcrVals_get hlt)
      obtain ⟨h1, HM⟩ | ⟨h1, HM⟩ := gcrMiss_cases g k
      · go_wp2
        go_ret
        exact ⟨ret_int (gcrValue_at HA.out HM.out hlt).symm, HB.out⟩
      · go_wp2
        have hk := HK.out
        go_roundg (gk - 1)
        case measure => omega
        case rel => exact ⟨k + 1, by omega, by go_num, all_succ HA.out HM.out, rfl⟩
    · have hk := HK.out
      obtain rfl : k = 16 := by omega
      go_wp2
      go_ret
      exact ⟨ret_int (gcrValue_none HA.out).symm, HB.out⟩
theorem Tryz.gcr_index (k : Nat) (h : k < 16) (w : World) : (Instr.index 154 (.agg gcrVals.toArray) (.int .i64 (k : Int))).run Tryz.prog w = .ok (.string (gcrS k)) w := by
  obtain rfl | rfl | rfl | rfl | rfl | rfl | rfl | rfl | rfl | rfl | rfl | rfl | rfl | rfl | rfl | rfl : k = 0 ∨ k = 1 ∨ k = 2 ∨ k = 3 ∨ k = 4 ∨ k = 5 ∨ k = 6 ∨ k = 7 ∨ k = 8 ∨ k = 9 ∨ k = 10 ∨ k = 11 ∨ k = 12 ∨ k = 13 ∨ k = 14 ∨ k = 15 := by omega
  all_goals kernel_rfl
theorem impl_GcrValue (g : ByteArray) (w : World) (hT : Tab w) :
    Calls Tryz.prog 149 #[.string g] w fun e w' => e = .returned (.int .i64 (gcrValue g)) ∧ w = w' := by
  obtain ⟨tt, ht⟩ := hT
  go_enter Tryz.func149, Tryz.ntmps149
  go_wp2_with (refine wpList_load_row rfl 154 _ rfl 0 rfl tt _ (0, 0) _ ht Tryz.underlying154 rfl (by kernel_rfl) ?_)
  have HT := Hid.in_ ht
  clear ht
  go_loopg [6] 16 (fun m i wr => ∃ k : Nat, k + m = 16 ∧ i = .int .i64 k ∧ Hid (∀ j, j < k → gcrMiss g j = true) ∧ w = wr)
  case atStart => exact ⟨0, by omega, rfl, fun j hj => by omega, rfl⟩
  case round =>
    obtain ⟨k, hkm, rfl, HA, rfl⟩ := hrel
    have HK := Hid.in_ hkm
    clear hkm
    by_cases hlt : k < 16
    · have c0 := Tryz.gcr_index k hlt
      obtain ⟨h1, HM⟩ | ⟨h1, HM⟩ := gcrMiss_cases g k
      · go_wp2
        go_ret
        exact ⟨ret_int (gcrValue_at HA.out HM.out hlt).symm, rfl⟩
      · go_wp2
        have hk := HK.out
        go_roundg (gk - 1)
        case measure => omega
        case rel => exact ⟨k + 1, by omega, by go_num, all_succ HA.out HM.out, rfl⟩
    · have hk := HK.out
      obtain rfl : k = 16 := by omega
      go_wp2
      go_ret
      exact ⟨ret_int (gcrValue_none HA.out).symm, rfl⟩
end Go.Proofs.YtlelgpknkgjaeaaGreatDoor
