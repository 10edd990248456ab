/- 'slices.SortFunc' over marks, by their places: what the row holds behind it. -/
import Derived.Test.YtlelgpknkgjaeaaGreatDoorFdP
import Derived.Test.YtlelgpknkgjaeaaGreatDoorShelfQ
import Derived.Shelf.SlSortCmp.WholeK
import Derived.Shelf.SlSortCmp.NoneTotal
import Derived.Shelf.SlicesG.Cmp
namespace Go.Proofs.YtlelgpknkgjaeaaGreatDoor
open Go.ChangeShapes Go.WideShapes Go.ChangeAt Go.RowKit Go.Shelf
open Go.Sort (SWO PermIn SortedIn putCells mapBlock onCells)
set_option linter.unusedSimpArgs false
set_option linter.unusedVariables false
set_option maxRecDepth 4000

theorem flatK_list {α : Type} [Inhabited α] {f : α → List Value} {k : Nat} (hk : ∀ x, (f x).length = k) (k0 : 0 < k) (d : Array α) : (Go.Sort.flatK f k d).toList = d.toList.flatMap f := by
  apply List.ext_getElem?
  intro t
  have hl : (Go.Sort.flatK f k d).toList.length = d.size * k := by rw [Array.length_toList, Go.Sort.size_flatK]
  have hr : (d.toList.flatMap f).length = d.size * k := by rw [flat_len hk, Array.length_toList]
  by_cases ht : t < d.size * k
  · have hi : t / k < d.size := Nat.div_lt_of_lt_mul (by rwa [Nat.mul_comm])
    have hj : t % k < k := Nat.mod_lt _ k0
    have hx : d.toList[t / k]? = some d[t / k]! := by
      rw [List.getElem?_eq_getElem (by rw [Array.length_toList]; exact hi), getElem!_pos d (t / k) hi]; rfl
    have h1 : (d.toList.flatMap f)[t]? = (f d[t / k]!)[t % k]? := by
      have := flat_get hk d.toList (t / k) (t % k) _ hx hj
      rwa [Nat.div_add_mod'] at this
    have h2 : (Go.Sort.flatK f k d).toList[t]? = some (Go.Sort.flatK f k d)[t]! := by
      have hs : t < (Go.Sort.flatK f k d).size := by rw [Go.Sort.size_flatK]; exact ht
      rw [List.getElem?_eq_getElem (by rw [hl]; exact ht), getElem!_pos _ t hs]; rfl
    rw [h1, h2, Go.Sort.get_flatK _ _ _ _ ht, getElem!_pos (f d[t / k]!) (t % k) (by rw [hk]; exact hj), List.getElem?_eq_getElem (by rw [hk]; exact hj)]
  · rw [List.getElem?_eq_none (by omega), List.getElem?_eq_none (by omega)]

theorem put_take {F cur : Array Value} (h : F.size ≤ cur.size) : (putCells id 0 F cur).toList.take F.size = F.toList := by
  apply List.ext_getElem?
  intro t
  by_cases ht : t < F.size
  · rw [List.getElem?_take, if_pos ht, Array.getElem?_toList, Array.getElem?_toList]
    unfold putCells
    rw [Array.getElem?_mapIdx, Array.getElem?_eq_getElem (by omega)]
    simp [ht]
  · rw [List.getElem?_eq_none (by rw [List.length_take]; omega), List.getElem?_eq_none (by rw [Array.length_toList]; omega)]
theorem own_sorted {α : Type} [Inhabited α] {f : α → List Value} {k : Nat} (hk : ∀ x, (f x).length = k) (k0 : 0 < k) {w : World} {b g n cap : Nat} {e : TypeId} {d d' : List α} (h : w.ownsRow b e k (.slice (some ⟨g, 0, none⟩) n cap) n (d.flatMap f)) (hl : d'.length = d.length) (m : Nat) (os : Array Obj) :
    (sortWorldK f k w g 0 m d'.toArray os).ownsRow b e k (.slice (some ⟨g, 0, none⟩) n cap) n (d'.flatMap f) ∧ Below b w (sortWorldK f k w g 0 m d'.toArray os) := by
  have h1 := h.1
  rw [flat_len hk] at h1
  rcases h.2 with ⟨e1, _⟩ | ⟨g1, cap1, cur, e1, hb, hg, hnc, hcm, hcs, _⟩
  · cases e1
  · injection e1 with e1 e2 e3
    injection e1 with e1
    injection e1 with e1
    subst e1 e3
    have hF : (Go.Sort.flatK f k d'.toArray).size = n * k := by rw [Go.Sort.size_flatK, List.size_toArray, hl, h1]
    have hgl : g < w.heap.size := (Array.getElem?_eq_some_iff.1 hg).1
    have hle : n * k ≤ cur.size := by rw [hcs]; exact Nat.mul_le_mul_right k hnc
    have hs : (w.heap.modify g (onCells (putCells id 0 (Go.Sort.flatK f k d'.toArray)))).size = w.heap.size := Array.size_modify
    have hw : (sortWorldK f k w g 0 m d'.toArray os).heap = (w.heap.modify g (onCells (putCells id 0 (Go.Sort.flatK f k d'.toArray)))) ++ os := rfl
    have hat : (sortWorldK f k w g 0 m d'.toArray os).heap[g]? = some (.cells (putCells id 0 (Go.Sort.flatK f k d'.toArray) cur) e (0, 0)) := by
      rw [hw, Array.getElem?_append_left (by rw [hs]; exact hgl), Array.getElem?_modify, if_pos rfl, hg]; rfl
    refine ⟨⟨by rw [flat_len hk, hl, h1], .inr ⟨g, cap, _, rfl, hb, hat, hnc, hcm, ?_, ?_⟩⟩, ⟨rfl, rfl, rfl, ?_, ?_⟩⟩
    · unfold putCells; rw [Array.size_mapIdx]; exact hcs
    · have := put_take (F := Go.Sort.flatK f k d'.toArray) (cur := cur) (by rw [hF]; exact hle)
      rw [hF] at this
      rw [this, flatK_list hk k0]
    · rw [hw, Array.size_append, hs]; omega
    · intro i hi
      rw [hw, Array.getElem?_append_left (by rw [hs]; omega), Array.getElem?_modify, if_neg (by omega)]
theorem holds_own {α : Type} [Inhabited α] {f : α → List Value} {k : Nat} (hk : ∀ x, (f x).length = k) (k0 : 0 < k) {w : World} {b g n cap : Nat} {e : TypeId} {d : List α} (h : w.ownsRow b e k (.slice (some ⟨g, 0, none⟩) n cap) n (d.flatMap f)) : Go.Sort.HoldsK f k w g 0 d.toArray := by
  intro j hj
  rw [Nat.zero_add]
  have hl : (Go.Sort.flatK f k d.toArray).toList[j]? = some (Go.Sort.flatK f k d.toArray)[j]! := by
    rw [List.getElem?_eq_getElem (by rw [Array.length_toList]; exact hj), getElem!_pos _ j hj]; rfl
  rw [flatK_list hk k0] at hl
  refine ⟨?_, h.frozenAt j⟩
  have := h.cells (g := g) rfl j _ hl
  rwa [addr_add, Nat.zero_add] at this

instance : Inhabited MarkR := ⟨⟨0, 0, 0⟩⟩
def cmpM (x y : MarkR) : Int := Lib.compareInt x.a y.a
theorem lt_M (x y : MarkR) : ltOf cmpM x y = decide (x.a < y.a) := by
  unfold ltOf cmpM Lib.compareInt
  by_cases h1 : x.a < y.a
  · simp [h1]
  · by_cases h2 : y.a < x.a <;> simp [h1, h2]
theorem swo_M : SWO (ltOf cmpM) where
  irrefl x := by rw [lt_M]; simp
  trans x y z h1 h2 := by rw [lt_M] at *; simp at *; omega
  ntrans x y z h1 h2 := by rw [lt_M] at *; simp at *; omega

set_option maxHeartbeats 1000000 in
theorem closureM (x y : MarkR) (W : World) : Calls Tryz.prog 69 #[.agg #[.int .i64 x.k, .int .i64 x.a, .int .i64 x.b], .agg #[.int .i64 y.k, .int .i64 y.a, .int .i64 y.b]] W fun e w' => e = .returned (.int .i64 (cmpM x y)) ∧ ∃ q os', w' = Go.Sort.grow (W.drewN q) os' := by
  have hcon := fun W' => AnyG.cmp_Compare_int Tryz.cmpI64 x.a y.a W'
  change ∀ W', Calls Tryz.prog 70 _ _ _ at hcon
  have hC := Hid.in_ hcon
  unfold cmpM
  generalize Lib.compareInt x.a y.a = r at hC ⊢
  clear hcon
  go_enter Tryz.func69, Tryz.ntmps69
  go_wp2_with (go_at_call 70; refine (hC.out _).mono ?_; rintro e w' ⟨rfl, rfl⟩)
  go_ret
  exact ⟨rfl, 0, _, by rw [Go.Sort.alloc_eq_grow, Go.Sort.alloc_eq_grow, Go.Sort.grow_grow]; rfl⟩

theorem sort_marks {b g cap n : Nat} {d : List MarkR} (w : World) (h : w.ownsRow b 51 3 (.slice (some ⟨g, 0, none⟩) n cap) n (d.flatMap MarkR.cells)) (hn : n ≤ 100000) :
    Calls Tryz.prog 68 #[.slice (some ⟨g, 0, none⟩) n cap, .func (.func 69) #[] #[]] w fun e w' => e = .returned (.tuple #[]) ∧ ∃ d' : List MarkR, d'.Perm d ∧ d'.Pairwise (fun x y => x.a ≤ y.a) ∧ w'.ownsRow b 51 3 (.slice (some ⟨g, 0, none⟩) n cap) n (d'.flatMap MarkR.cells) ∧ Below b w w' := by
  have eg : ∀ args w, (callFunc 69 args).run Tryz.prog w = .ok (.enter 69 args) w := enters_of Tryz.func69 (by kernel_rfl) rfl
  have hlx : d.length = n := by have := h.1; rw [flat_len MarkR.len] at this; omega
  have hC : ∀ blk off size w, CmpLays Tryz.prog 69 #[] MarkR.cells 3 cmpM blk off size w := fun _ _ _ _ _ _ _ _ x y => closureM x y _
  have hcon := AnyQ.slices_SortFunc Tryz.sortMk 3 Tryz.isAgg51 Tryz.sizeOf51 MarkR.cells MarkR.len (fun x v hv => by simp [MarkR.cells] at hv; rcases hv with rfl | rfl | rfl <;> rfl) cmpM swo_M 69 #[] g 0 cap d.toArray w eg (hC _ _ _ _) (holds_own MarkR.len (by decide) h) ((h.lt g rfl).2) (by rw [List.size_toArray]; omega)
  change Calls Tryz.prog 68 _ _ _ at hcon
  rw [List.size_toArray, hlx] at hcon
  refine hcon.mono ?_
  rintro e w' ⟨he, d', m, os, hp, hs, rfl⟩
  obtain ⟨p1, _, p3⟩ := hp
  have hsz : d'.size = n := by rw [p1, List.size_toArray, hlx]
  have ex : ∀ a : Array MarkR, a.size = n → (a.extract 0 n).toList = a.toList := fun a ha => by rw [← ha]; simp
  rw [ex d' hsz, ex d.toArray (by rw [List.size_toArray, hlx])] at p3
  obtain ⟨hO, hB⟩ := own_sorted MarkR.len (by decide) h (d' := d'.toList) (by rw [Array.length_toList, hsz, hlx]) m os
  refine ⟨he, d'.toList, p3, ?_, hO, hB⟩
  rw [List.pairwise_iff_getElem]
  intro i j hi hj hij
  rw [Array.length_toList] at hi hj
  have := hs i j (Nat.zero_le _) hij (by rw [← hsz]; exact hj)
  rw [lt_M, getElem!_pos d' i hi, getElem!_pos d' j hj] at this
  have := of_decide_eq_false this
  rw [Array.getElem_toList, Array.getElem_toList]
  omega
theorem sort_none (A : Option Addr) (c : Nat) (fv : Value) (w : World) :
    Calls Tryz.prog 68 #[.slice A 0 c, fv] w fun e w' => e = .returned (.tuple #[]) ∧ w' = w := by
  have h := AnyF.slices_SortFunc_none Tryz.sortMk A c fv w
  change Calls Tryz.prog 68 _ _ _ at h
  exact h
end Go.Proofs.YtlelgpknkgjaeaaGreatDoor
