/- The group code's table: 'GcrCode', 'GcrValue' of the program and of the reference. -/
import Derived.Test.YtklaakhdpfgffaaDoorInt
import Derived.Test.YtklaakhdpfgffaaDoorMem
import Derived.Deep.LoopGhost
namespace Go.Proofs.YtklaakhdpfgffaaDoor
open Go.ChangeShapes Go.WideShapes Go.ChangeAt Go.RowKit
set_option linter.unusedSimpArgs false
set_option linter.unusedVariables false

def gcrTab : List (List UInt8) := [[48, 49, 48, 49, 48], [48, 49, 48, 49, 49], [49, 48, 48, 49, 48], [49, 48, 48, 49, 49], [48, 49, 49, 49, 48], [48, 49, 49, 49, 49], [49, 48, 49, 49, 48], [49, 48, 49, 49, 49],
  [48, 49, 48, 48, 49], [49, 49, 48, 48, 49], [49, 49, 48, 49, 48], [49, 49, 48, 49, 49], [48, 49, 49, 48, 49], [49, 49, 49, 48, 49], [49, 49, 49, 49, 48], [49, 48, 49, 48, 49]]
def gcrS (k : Nat) : ByteArray := ⟨(gcrTab.getD k []).toArray⟩
def gcrVals : List Value := gcrTab.map fun z => Value.string ⟨z.toArray⟩
theorem gcrVals_get {k : Nat} (h : k < 16) : gcrVals[k]? = some (.string (gcrS k)) := by
  unfold gcrVals gcrS
  rw [List.getElem?_map]
  have : k < gcrTab.length := h
  rw [List.getElem?_eq_getElem this, List.getD_eq_getElem?_getD, List.getElem?_eq_getElem this]
  rfl
def Tab (w : World) : Prop := ∃ t', w.heap[1]? = some (.cells gcrVals.toArray t' (0, 0))
theorem Tab.step {w w' : World} (k : Below w.heap.size w w') (h : Tab w) : Tab w' := by
  obtain ⟨t', ht⟩ := h
  exact ⟨t', by rw [k.block _ (Array.getElem?_eq_some_iff.1 ht).1]; exact ht⟩
theorem Tab.cell {w : World} (h : Tab w) {k : Nat} (hk : k < 16) : w.cell? ⟨1, k, none⟩ = some (.string (gcrS k)) := by
  obtain ⟨t', ht⟩ := h
  rw [cell_of_row w 1 k gcrVals.toArray t' (0, 0) ht, ← gcrVals_get hk]
  simp

def gcrCode (n : Int) : ByteArray := if inB n 0 15 = true then gcrS n.toNat else ⟨#[]⟩
theorem gcrCode_yes {n : Int} (h : inB n 0 15 = true) : gcrCode n = gcrS n.toNat := if_pos h
theorem gcrCode_no {n : Int} (h : inB n 0 15 = false) : gcrCode n = ⟨#[]⟩ := if_neg (by rw [h]; decide)
theorem ret_str {a b : ByteArray} (h : a = b) : Ending.returned (.string a) = .returned (.string b) := by rw [h]


def gcrMiss (g : ByteArray) (i : Nat) : Bool := !((gcrS i).toList == g.toList)
def gcrValue (g : ByteArray) : Int := match (List.range 16).find? (fun i => !gcrMiss g i) with | some i => (i : Int) | none => -1
theorem gcrValue_at {g : ByteArray} {k : Nat} (h : ∀ j, j < k → gcrMiss g j = true) (hp : gcrMiss g k = false) (hk : k < 16) : gcrValue g = k := by
  unfold gcrValue
  have : (List.range 16).find? (fun i => !gcrMiss g i) = some k := by
    rw [List.find?_range_eq_some]
    exact ⟨by rw [hp]; rfl, List.mem_range.2 hk, fun j hj => by rw [h j hj]; rfl⟩
  rw [this]
theorem gcrValue_none {g : ByteArray} (h : ∀ j, j < 16 → gcrMiss g j = true) : gcrValue g = -1 := by
  unfold gcrValue
  have : (List.range 16).find? (fun i => !gcrMiss g i) = none := by
    rw [List.find?_eq_none]
    intro x hx
    rw [h x (List.mem_range.1 hx)]
    decide
  rw [this]
theorem gcrMiss_cases (g : ByteArray) (i : Nat) : (((gcrS i).toList == g.toList) = true ∧ Hid (gcrMiss g i = false)) ∨ (((gcrS i).toList == g.toList) = false ∧ Hid (gcrMiss g i = true)) := by
  unfold Hid gcrMiss
  cases (gcrS i).toList == g.toList <;> simp
theorem all_succ {p : Nat → Prop} {k : Nat} (h : ∀ j, j < k → p j) (hk : p k) : ∀ j, j < k + 1 → p j := fun j hj => by
  rcases Nat.lt_or_ge j k with h1 | h1
  · exact h j h1
  · obtain rfl : j = k := by omega
    exact hk

theorem Tryd.gcr_index (k : Nat) (h : k < 16) (w : World) : (Instr.index 97 (.agg gcrVals.toArray) (.int .i64 (k : Int))).run Tryd.prog w = .ok (.string (gcrS k)) w := by
  obtain rfl | rfl | rfl | rfl | rfl | rfl | rfl | rfl | rfl | rfl | rfl | rfl | rfl | rfl | rfl | rfl : k = 0 ∨ k = 1 ∨ k = 2 ∨ k = 3 ∨ k = 4 ∨ k = 5 ∨ k = 6 ∨ k = 7 ∨ k = 8 ∨ k = 9 ∨ k = 10 ∨ k = 11 ∨ k = 12 ∨ k = 13 ∨ k = 14 ∨ k = 15 := by omega
  all_goals kernel_rfl
theorem impl_GcrValue (g : ByteArray) (w : World) (hT : Tab w) :
    Calls Tryd.prog 53 #[.string g] w fun e w' => e = .returned (.int .i64 (gcrValue g)) ∧ w = w' := by
  obtain ⟨tt, ht⟩ := hT
  go_enter Tryd.func53, Tryd.ntmps53
  go_wp2_with (refine wpList_load_row rfl 97 _ rfl 1 rfl tt _ (0, 0) _ ht Tryd.underlying97 rfl (by kernel_rfl) ?_)
  have HT := Hid.in_ ht
  clear ht
  go_loopg [6] 16 (fun m i wr => ∃ k : Nat, k + m = 16 ∧ i = .int .i64 k ∧ Hid (∀ j, j < k → gcrMiss g j = true) ∧ w = wr)
  case atStart => exact ⟨0, by omega, rfl, fun j hj => by omega, rfl⟩
  case round =>
    obtain ⟨k, hkm, rfl, HA, rfl⟩ := hrel
    have HK := Hid.in_ hkm
    clear hkm
    by_cases hlt : k < 16
    · have c0 := Tryd.gcr_index k hlt
      obtain ⟨h1, HM⟩ | ⟨h1, HM⟩ := gcrMiss_cases g k
      · go_wp2
        go_ret
        exact ⟨ret_int (gcrValue_at HA.out HM.out hlt).symm, rfl⟩
      · go_wp2
        have hk := HK.out
        go_roundg (gk - 1)
        case measure => omega
        case rel => exact ⟨k + 1, by omega, by go_num, all_succ HA.out HM.out, rfl⟩
    · have hk := HK.out
      obtain rfl : k = 16 := by omega
      go_wp2
      go_ret
      exact ⟨ret_int (gcrValue_none HA.out).symm, rfl⟩
end Go.Proofs.YtklaakhdpfgffaaDoor
