/- Rows of records that are sorted: what the kit's contract on 'slices.SortFunc' says of a row of one's own. -/
import Derived.Test.YtlelgpknkgjaeaaMem
import Derived.Test.YtlelgpknkgjaeaaShelfQ
import Derived.Shelf.SlSortCmp.WholeK
import Derived.Shelf.SlSortCmp.NoneTotal
import Derived.Shelf.SlicesG.Cmp
namespace Go.Proofs.Ytlelgpknkgjaeaa
open Go.ChangeShapes Go.WideShapes Go.ChangeAt Go.RowKit Go.Shelf
open Go.Sort (SWO PermIn SortedIn putCells mapBlock onCells)
set_option linter.unusedSimpArgs false
set_option linter.unusedVariables false
set_option maxRecDepth 4000

theorem flatK_list {α : Type} [Inhabited α] {f : α → List Value} {k : Nat} (hk : ∀ x, (f x).length = k) (k0 : 0 < k) (d : Array α) : (Go.Sort.flatK f k d).toList = d.toList.flatMap f := by
  apply List.ext_getElem?
  intro t
  have hl : (Go.Sort.flatK f k d).toList.length = d.size * k := by rw [Array.length_toList, Go.Sort.size_flatK]
  have hr : (d.toList.flatMap f).length = d.size * k := by rw [flat_len hk, Array.length_toList]
  by_cases ht : t < d.size * k
  · have hi : t / k < d.size := Nat.div_lt_of_lt_mul (by rwa [Nat.mul_comm])
    have hj : t % k < k := Nat.mod_lt _ k0
    have hx : d.toList[t / k]? = some d[t / k]! := by
      rw [List.getElem?_eq_getElem (by rw [Array.length_toList]; exact hi), getElem!_pos d (t / k) hi]; rfl
    have h1 : (d.toList.flatMap f)[t]? = (f d[t / k]!)[t % k]? := by
      have := flat_get hk d.toList (t / k) (t % k) _ hx hj
      rwa [Nat.div_add_mod'] at this
    have h2 : (Go.Sort.flatK f k d).toList[t]? = some (Go.Sort.flatK f k d)[t]! := by
      have hs : t < (Go.Sort.flatK f k d).size := by rw [Go.Sort.size_flatK]; exact ht
      rw [List.getElem?_eq_getElem (by rw [hl]; exact ht), getElem!_pos _ t hs]; rfl
    rw [h1, h2, Go.Sort.get_flatK _ _ _ _ ht, getElem!_pos (f d[t / k]!) (t % k) (by rw [hk]; exact hj), List.getElem?_eq_getElem (by rw [hk]; exact hj)]
  · rw [List.getElem?_eq_none (by omega), List.getElem?_eq_none (by omega)]

theorem put_take {F cur : Array Value} (h : F.size ≤ cur.size) : (putCells id 0 F cur).toList.take F.size = F.toList := by
  apply List.ext_getElem?
  intro t
  by_cases ht : t < F.size
  · rw [List.getElem?_take, if_pos ht, Array.getElem?_toList, Array.getElem?_toList]
    unfold putCells
    rw [Array.getElem?_mapIdx, Array.getElem?_eq_getElem (by omega)]
    simp [ht]
  · rw [List.getElem?_eq_none (by rw [List.length_take]; omega), List.getElem?_eq_none (by rw [Array.length_toList]; omega)]
theorem own_sorted {α : Type} [Inhabited α] {f : α → List Value} {k : Nat} (hk : ∀ x, (f x).length = k) (k0 : 0 < k) {w : World} {b g n cap : Nat} {e : TypeId} {d d' : List α} (h : w.ownsRow b e k (.slice (some ⟨g, 0, none⟩) n cap) n (d.flatMap f)) (hl : d'.length = d.length) (m : Nat) (os : Array Obj) :
    (sortWorldK f k w g 0 m d'.toArray os).ownsRow b e k (.slice (some ⟨g, 0, none⟩) n cap) n (d'.flatMap f) ∧ Below b w (sortWorldK f k w g 0 m d'.toArray os) := by
  have h1 := h.1
  rw [flat_len hk] at h1
  rcases h.2 with ⟨e1, _⟩ | ⟨g1, cap1, cur, e1, hb, hg, hnc, hcm, hcs, _⟩
  · cases e1
  · injection e1 with e1 e2 e3
    injection e1 with e1
    injection e1 with e1
    subst e1 e3
    have hF : (Go.Sort.flatK f k d'.toArray).size = n * k := by rw [Go.Sort.size_flatK, List.size_toArray, hl, h1]
    have hgl : g < w.heap.size := (Array.getElem?_eq_some_iff.1 hg).1
    have hle : n * k ≤ cur.size := by rw [hcs]; exact Nat.mul_le_mul_right k hnc
    have hs : (w.heap.modify g (onCells (putCells id 0 (Go.Sort.flatK f k d'.toArray)))).size = w.heap.size := Array.size_modify
    have hw : (sortWorldK f k w g 0 m d'.toArray os).heap = (w.heap.modify g (onCells (putCells id 0 (Go.Sort.flatK f k d'.toArray)))) ++ os := rfl
    have hat : (sortWorldK f k w g 0 m d'.toArray os).heap[g]? = some (.cells (putCells id 0 (Go.Sort.flatK f k d'.toArray) cur) e (0, 0)) := by
      rw [hw, Array.getElem?_append_left (by rw [hs]; exact hgl), Array.getElem?_modify, if_pos rfl, hg]; rfl
    refine ⟨⟨by rw [flat_len hk, hl, h1], .inr ⟨g, cap, _, rfl, hb, hat, hnc, hcm, ?_, ?_⟩⟩, ⟨rfl, rfl, rfl, ?_, ?_⟩⟩
    · unfold putCells; rw [Array.size_mapIdx]; exact hcs
    · have := put_take (F := Go.Sort.flatK f k d'.toArray) (cur := cur) (by rw [hF]; exact hle)
      rw [hF] at this
      rw [this, flatK_list hk k0]
    · rw [hw, Array.size_append, hs]; omega
    · intro i hi
      rw [hw, Array.getElem?_append_left (by rw [hs]; omega), Array.getElem?_modify, if_neg (by omega)]
theorem holds_own {α : Type} [Inhabited α] {f : α → List Value} {k : Nat} (hk : ∀ x, (f x).length = k) (k0 : 0 < k) {w : World} {b g n cap : Nat} {e : TypeId} {d : List α} (h : w.ownsRow b e k (.slice (some ⟨g, 0, none⟩) n cap) n (d.flatMap f)) : Go.Sort.HoldsK f k w g 0 d.toArray := by
  intro j hj
  rw [Nat.zero_add]
  have hl : (Go.Sort.flatK f k d.toArray).toList[j]? = some (Go.Sort.flatK f k d.toArray)[j]! := by
    rw [List.getElem?_eq_getElem (by rw [Array.length_toList]; exact hj), getElem!_pos _ j hj]; rfl
  rw [flatK_list hk k0] at hl
  refine ⟨?_, h.frozenAt j⟩
  have := h.cells (g := g) rfl j _ hl
  rwa [addr_add, Nat.zero_add] at this

end Go.Proofs.Ytlelgpknkgjaeaa
