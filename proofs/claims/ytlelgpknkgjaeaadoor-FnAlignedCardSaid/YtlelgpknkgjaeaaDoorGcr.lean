/- The group code's table: 'GcrCode', 'GcrValue' of the program and of the reference. -/
import Derived.Test.YtlelgpknkgjaeaaDoorInt
import Derived.Test.YtlelgpknkgjaeaaDoorMem
import Derived.Deep.LoopGhost
namespace Go.Proofs.YtlelgpknkgjaeaaDoor
open Go.ChangeShapes Go.WideShapes Go.ChangeAt Go.RowKit
set_option linter.unusedSimpArgs false
set_option linter.unusedVariables false

def gcrTab : List (List UInt8) := [[48, 49, 48, 49, 48], [48, 49, 48, 49, 49], [49, 48, 48, 49, 48], [49, 48, 48, 49, 49], [48, 49, 49, 49, 48], [48, 49, 49, 49, 49], [49, 48, 49, 49, 48], [49, 48, 49, 49, 49],
  [48, 49, 48, 48, 49], [49, 49, 48, 48, 49], [49, 49, 48, 49, 48], [49, 49, 48, 49, 49], [48, 49, 49, 48, 49], [49, 49, 49, 48, 49], [49, 49, 49, 49, 48], [49, 48, 49, 48, 49]]
def gcrS (k : Nat) : ByteArray := ⟨(gcrTab.getD k []).toArray⟩
def gcrVals : List Value := gcrTab.map fun z => Value.string ⟨z.toArray⟩
theorem gcrVals_get {k : Nat} (h : k < 16) : gcrVals[k]? = some (.string (gcrS k)) := by
  unfold gcrVals gcrS
  rw [List.getElem?_map]
  have : k < gcrTab.length := h
  rw [List.getElem?_eq_getElem this, List.getD_eq_getElem?_getD, List.getElem?_eq_getElem this]
  rfl
def gcrCode (n : Int) : ByteArray := if inB n 0 15 = true then gcrS n.toNat else ⟨#[]⟩
theorem gcrCode_yes {n : Int} (h : inB n 0 15 = true) : gcrCode n = gcrS n.toNat := if_pos h
theorem gcrCode_no {n : Int} (h : inB n 0 15 = false) : gcrCode n = ⟨#[]⟩ := if_neg (by rw [h]; decide)
theorem ret_str {a b : ByteArray} (h : a = b) : Ending.returned (.string a) = .returned (.string b) := by rw [h]

theorem spec_l06Codes (w : World) :
    Calls Tryd.prog 47 #[] w fun e w' => ∃ v, e = .returned v ∧ w'.ownsRow w.heap.size 9 1 v 16 gcrVals ∧ Below w.heap.size w w' := by
  go_enter Tryd.func47, Tryd.ntmps47
  go_wp2
  go_ret
  exact ⟨_, rfl, World.ownsRow_lit w gcrVals.toArray 16 (Nat.le_refl _) (by decide) (by decide), balloc (Below.refl _ _) _⟩
theorem spec_GcrCode (n : Int) (w : World) :
    Calls Tryd.prog 43 #[.int .i64 n] w fun e w' => e = .returned (.string (gcrCode n)) ∧ Below w.heap.size w w' := by
  cases h1 : inB n 0 15
  · have HV := Hid.in_ (gcrCode_no h1)
    go_enter Tryd.func43, Tryd.ntmps43
    go_wp2_with (go_at_call 41; refine (bool_is (spec_l00In _ _ _ _) (by assumption)).mono ?_; rintro e w' ⟨rfl, rfl⟩)
    go_ret
    exact ⟨ret_str HV.out.symm, Below.refl _ _⟩
  · have HV := Hid.in_ (gcrCode_yes h1)
    obtain ⟨b1, b2⟩ := inB_t h1
    obtain ⟨k, rfl⟩ := Int.eq_ofNat_of_zero_le b1
    have hk : k < 16 := by omega
    go_enter Tryd.func43, Tryd.ntmps43
    go_wp2_with (go_at_call 41; refine (bool_is (spec_l00In _ _ _ _) (by assumption)).mono ?_; rintro e w' ⟨rfl, rfl⟩)
    refine (spec_l06Codes _).mono ?_
    rintro e w' ⟨v, rfl, ho, hb⟩
    obtain ⟨A, c, rfl, _, _, hA⟩ := own_shape ho
    obtain ⟨g, rfl, _, _, hx, _⟩ := hA (by omega)
    have c0 := hx k _ (gcrVals_get hk)
    clear hA hx
    go_wp2
    go_ret
    exact ⟨ret_str (by rw [HV.out]; rfl), hb⟩

def gcrMiss (g : ByteArray) (i : Nat) : Bool := !((gcrS i).toList == g.toList)
def gcrValue (g : ByteArray) : Int := match (List.range 16).find? (fun i => !gcrMiss g i) with | some i => (i : Int) | none => -1
theorem gcrValue_at {g : ByteArray} {k : Nat} (h : ∀ j, j < k → gcrMiss g j = true) (hp : gcrMiss g k = false) (hk : k < 16) : gcrValue g = k := by
  unfold gcrValue
  have : (List.range 16).find? (fun i => !gcrMiss g i) = some k := by
    rw [List.find?_range_eq_some]
    exact ⟨by rw [hp]; rfl, List.mem_range.2 hk, fun j hj => by rw [h j hj]; rfl⟩
  rw [this]
theorem gcrValue_none {g : ByteArray} (h : ∀ j, j < 16 → gcrMiss g j = true) : gcrValue g = -1 := by
  unfold gcrValue
  have : (List.range 16).find? (fun i => !gcrMiss g i) = none := by
    rw [List.find?_eq_none]
    intro x hx
    rw [h x (List.mem_range.1 hx)]
    decide
  rw [this]
theorem gcrMiss_cases (g : ByteArray) (i : Nat) : (((gcrS i).toList == g.toList) = true ∧ Hid (gcrMiss g i = false)) ∨ (((gcrS i).toList == g.toList) = false ∧ Hid (gcrMiss g i = true)) := by
  unfold Hid gcrMiss
  cases (gcrS i).toList == g.toList <;> simp
theorem all_succ {p : Nat → Prop} {k : Nat} (h : ∀ j, j < k → p j) (hk : p k) : ∀ j, j < k + 1 → p j := fun j hj => by
  rcases Nat.lt_or_ge j k with h1 | h1
  · exact h j h1
  · obtain rfl : j = k := by omega
    exact hk

end Go.Proofs.YtlelgpknkgjaeaaDoor
