/- A block of the calls' own that is written (the same as in XRs, for seats without readSector). -/
import Derived.Test.YtlelgpknkgjaeaaMem
import Derived.Laws.ResultCell
import Derived.Lib.Builder
namespace Go.Proofs.Ytlelgpknkgjaeaa
open Go.ChangeShapes Go.WideShapes Go.ChangeAt Go.RowKit
set_option linter.unusedSimpArgs false
set_option linter.unusedVariables false

/-! ### a block that is written -/
theorem Box.set {w : World} {b : Nat} {cs : List Value} {i : Nat} (h : Box w b cs) (hi : i < cs.length) (x : Value) : Box (w.setCell ⟨b, i, none⟩ x) b (cs.set i x) := fun j u hu => by
  by_cases hj : i = j
  · subst hj
    have h0 := h i _ (List.getElem?_eq_getElem hi)
    rw [World.cell?_setCell_same _ _ _ h0]
    rw [List.getElem?_set_self hi] at hu
    exact hu
  · rw [List.getElem?_set_ne hj] at hu
    rw [World.cell?_setCell_other _ _ _ _ (by intro e; injection e with _ e _; first | exact hj e | exact hj e.symm)]
    exact h j u hu
theorem Box.far {w : World} {b c : Nat} {cs : List Value} (h : Box w b cs) (hc : c ≠ b) (i : Nat) (x : Value) : Box (w.setCell ⟨c, i, none⟩ x) b cs := fun j u hu => by
  rw [World.cell?_setCell_other _ _ _ _ (by intro e; injection e with e _ _; first | exact hc e | exact hc e.symm)]
  exact h j u hu
def Soft (w : World) (b : Nat) : Prop := ∀ i, w.frozen? ⟨b, i, none⟩ = false
theorem Soft.set {w : World} {b : Nat} (h : Soft w b) (a : Addr) (x : Value) : Soft (w.setCell a x) b := fun i => (World.frozen?_setCell _ _ _ _).trans (h i)
/-- Eight cells of a block that may be written. -/
structure Wr (w : World) (b : Nat) (cs : List Value) : Prop where
  box : Box w b cs
  soft : Soft w b
  lt : b < w.heap.size
theorem Wr.set {w : World} {b : Nat} {cs : List Value} {i : Nat} (h : Wr w b cs) (x : Value) (hi : i < cs.length) : Wr (w.setCell ⟨b, i, none⟩ x) b (cs.set i x) :=
  ⟨h.box.set hi x, h.soft.set _ _, by simpa [World.setCell] using h.lt⟩
theorem Wr.far {w : World} {b c : Nat} {cs : List Value} (h : Wr w b cs) (hc : c ≠ b) (i : Nat) (x : Value) : Wr (w.setCell ⟨c, i, none⟩ x) b cs :=
  ⟨h.box.far hc i x, h.soft.set _ _, by simpa [World.setCell] using h.lt⟩

theorem Wr.step {w w' : World} {b : Nat} {cs : List Value} (k : Below w.heap.size w w') (h : Wr w b cs) : Wr w' b cs :=
  ⟨h.box.step k, fun i => (k.frozen (p := ⟨b, i, none⟩) h.lt).trans (h.soft i), Nat.lt_of_lt_of_le h.lt k.size⟩
theorem Wr.new (w : World) (cs : List Value) (t : TypeId) : Wr (w.alloc (.cells cs.toArray t)) w.heap.size cs :=
  ⟨Box.new w cs t, fun i => Lib.frozen_of_heap (heap_alloc_new w _) i, by unfold World.alloc; rw [Array.size_push]; omega⟩
theorem wr_two (w : World) (t : TypeId) (Z F : List Value) : Wr ((w.alloc (.cells Z.toArray t)).alloc (.cells F.toArray t)) w.heap.size Z ∧ Wr ((w.alloc (.cells Z.toArray t)).alloc (.cells F.toArray t)) (w.heap.size + 1) F ∧
    Below w.heap.size w ((w.alloc (.cells Z.toArray t)).alloc (.cells F.toArray t)) := by
  have h1 : (w.alloc (.cells Z.toArray t)).heap.size = w.heap.size + 1 := by unfold World.alloc; rw [Array.size_push]
  refine ⟨Wr.step (balloc (Below.refl _ _) _) (Wr.new w Z t), ?_, balloc (balloc (Below.refl _ _) _) _⟩
  have := Wr.new (w.alloc (.cells Z.toArray t)) F t
  rw [h1] at this
  exact this
theorem wr8 {w : World} {b : Nat} {a0 a1 a2 a3 a4 a5 a6 a7 : Value} (h : Wr w b [a0, a1, a2, a3, a4, a5, a6, a7]) : (w.cell? ⟨b, 0, none⟩ = some a0 ∧ w.cell? ⟨b, 1, none⟩ = some a1 ∧ w.cell? ⟨b, 2, none⟩ = some a2 ∧ w.cell? ⟨b, 3, none⟩ = some a3 ∧
    w.cell? ⟨b, 4, none⟩ = some a4 ∧ w.cell? ⟨b, 5, none⟩ = some a5 ∧ w.cell? ⟨b, 6, none⟩ = some a6 ∧ w.cell? ⟨b, 7, none⟩ = some a7) ∧
    (w.frozen? ⟨b, 0, none⟩ = false ∧ w.frozen? ⟨b, 1, none⟩ = false ∧ w.frozen? ⟨b, 2, none⟩ = false ∧ w.frozen? ⟨b, 3, none⟩ = false ∧ w.frozen? ⟨b, 4, none⟩ = false ∧ w.frozen? ⟨b, 5, none⟩ = false ∧ w.frozen? ⟨b, 6, none⟩ = false ∧ w.frozen? ⟨b, 7, none⟩ = false) :=
  ⟨⟨h.box 0 _ rfl, h.box 1 _ rfl, h.box 2 _ rfl, h.box 3 _ rfl, h.box 4 _ rfl, h.box 5 _ rfl, h.box 6 _ rfl, h.box 7 _ rfl⟩, h.soft 0, h.soft 1, h.soft 2, h.soft 3, h.soft 4, h.soft 5, h.soft 6, h.soft 7⟩
/-- All eight cells written. -/
theorem Wr.put8 {w : World} {b : Nat} {a0 a1 a2 a3 a4 a5 a6 a7 : Value} (h : Wr w b [a0, a1, a2, a3, a4, a5, a6, a7]) (x0 x1 x2 x3 x4 x5 x6 x7 : Value) :
    Wr ((((((((w.setCell ⟨b, 0, none⟩ x0).setCell ⟨b, 1, none⟩ x1).setCell ⟨b, 2, none⟩ x2).setCell ⟨b, 3, none⟩ x3).setCell ⟨b, 4, none⟩ x4).setCell ⟨b, 5, none⟩ x5).setCell ⟨b, 6, none⟩ x6).setCell ⟨b, 7, none⟩ x7) b [x0, x1, x2, x3, x4, x5, x6, x7] :=
  (((((((h.set x0 (i := 0) (by simp)).set x1 (i := 1) (by simp)).set x2 (i := 2) (by simp)).set x3 (i := 3) (by simp)).set x4 (i := 4) (by simp)).set x5 (i := 5) (by simp)).set x6 (i := 6) (by simp)).set x7 (i := 7) (by simp)

theorem below_put8 {W w : World} {B b : Nat} (h : Below B W w) (hb : B ≤ b) (x0 x1 x2 x3 x4 x5 x6 x7 : Value) :
    Below B W ((((((((w.setCell ⟨b, 0, none⟩ x0).setCell ⟨b, 1, none⟩ x1).setCell ⟨b, 2, none⟩ x2).setCell ⟨b, 3, none⟩ x3).setCell ⟨b, 4, none⟩ x4).setCell ⟨b, 5, none⟩ x5).setCell ⟨b, 6, none⟩ x6).setCell ⟨b, 7, none⟩ x7) :=
  (((((((h.setCell (p := ⟨b, 0, none⟩) hb _).setCell (p := ⟨b, 1, none⟩) hb _).setCell (p := ⟨b, 2, none⟩) hb _).setCell (p := ⟨b, 3, none⟩) hb _).setCell (p := ⟨b, 4, none⟩) hb _).setCell (p := ⟨b, 5, none⟩) hb _).setCell (p := ⟨b, 6, none⟩) hb _).setCell (p := ⟨b, 7, none⟩) hb _
theorem Wr.drew {w : World} {b : Nat} {cs : List Value} (h : Wr w b cs) : Wr w.drew b cs := ⟨h.box, h.soft, h.lt⟩
end Go.Proofs.Ytlelgpknkgjaeaa
