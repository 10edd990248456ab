/- Two rows of the calls' own with elements of different types lie apart; a strings.Builder beside such a row. -/
import Derived.Test.YtlelgpknkgjaeaaBuilder
import Derived.Test.YtlelgpknkgjaeaaRow
namespace Go.Proofs.Ytlelgpknkgjaeaa
open Go.ChangeShapes Go.WideShapes Go.ChangeAt Go.RowKit
set_option linter.unusedSimpArgs false
set_option linter.unusedVariables false
set_option maxRecDepth 20000

theorem own_typed {w : World} {b s n g : Nat} {e : TypeId} {v : Value} {xs : List Value} (h : w.ownsRow b e s v n xs) (hg : v.ownBlock = some g) : ∃ cur, w.heap[g]? = some (.cells cur e (0, 0)) := by
  rcases h.2 with ⟨rfl, _⟩ | ⟨g', cap, cur, rfl, _, hh, _⟩
  · cases hg
  · injection hg with hg
    subst hg
    exact ⟨cur, hh⟩
theorem types_apart {w : World} {b1 s1 n1 b2 s2 n2 : Nat} {e1 e2 : TypeId} {v1 v2 : Value} {xs1 xs2 : List Value} (he : e1 ≠ e2) (h1 : w.ownsRow b1 e1 s1 v1 n1 xs1) (h2 : w.ownsRow b2 e2 s2 v2 n2 xs2) :
    ∀ k, v1.ownBlock = some k → v2.ownBlock ≠ some k := fun k h3 h4 => by
  obtain ⟨c1, hc1⟩ := own_typed h1 h3
  obtain ⟨c2, hc2⟩ := own_typed h2 h4
  rw [hc1] at hc2
  injection hc2 with hc2
  injection hc2 with _ hc2
  exact he hc2
theorem kept_apart {w w' : World} {b1 s1 n1 b2 s2 n2 : Nat} {e1 e2 : TypeId} {v1 v2 : Value} {xs1 xs2 : List Value} (he : e1 ≠ e2) (h1 : w.ownsRow b1 e1 s1 v1 n1 xs1) (h2 : w.ownsRow b2 e2 s2 v2 n2 xs2) (hg : w.grownBy w' v2.ownBlock) : w'.ownsRow b1 e1 s1 v1 n1 xs1 := by
  refine h1.kept hg ?_
  cases h : v1.ownBlock with
  | none => exact .inl rfl
  | some k => exact .inr fun e => types_apart he h1 h2 k h e.symm
theorem off_block {w : World} {b B2 s2 n2 : Nat} {e2 T : TypeId} {dv : Value} {xs : List Value} {cs : Array Value} (he : e2 ≠ T) (h : w.ownsRow B2 e2 s2 dv n2 xs) (hb : w.heap[b]? = some (.cells cs T (0, 0))) : dv.ownBlock = none ∨ dv.ownBlock ≠ some b := by
  right
  intro e
  obtain ⟨c, hc⟩ := own_typed h e
  rw [hc] at hb
  injection hb with hb
  injection hb with _ hb
  exact he hb
theorem setCell_grown (w : World) (b j : Nat) (v : Value) : w.grownBy (w.setCell ⟨b, j, none⟩ v) (some b) where
  os := rfl
  tape := rfl
  output := rfl
  size := by simp [World.setCell]
  block := fun k hk hne => by
    have hne : ¬ b = k := fun e => hne (by rw [e])
    simp [World.setCell, Array.getElem?_modify, hne]
/-- A row of another element type grows: the builder is kept. -/
theorem builder_kept {w w' : World} {B b B2 s2 n2 : Nat} {e e2 T : TypeId} {p dv : Value} {bs xs : List Value} (hT1 : e2 ≠ T) (hT2 : e2 ≠ e) (h : Lib.BuilderAt T e B b p bs w) (hD : w.ownsRow B2 e2 s2 dv n2 xs) (hg : w.grownBy w' dv.ownBlock) : Lib.BuilderAt T e B b p bs w' := by
  obtain ⟨hB, v, hb, ho, hne⟩ := h
  have hlt : b < w.heap.size := by
    rcases Nat.lt_or_ge b w.heap.size with h' | h'
    · exact h'
    · simp [Array.getElem?_eq_none h'] at hb
  refine ⟨hB, v, ?_, kept_apart (Ne.symm hT2) ho hD hg, hne⟩
  rw [hg.block b hlt (fun e => by rcases off_block hT1 hD hb with h | h; (rw [h] at e; cases e); exact h e.symm)]
  exact hb
theorem builder_any_kept {w w' : World} {B b B2 s2 n2 : Nat} {e e2 T : TypeId} {dv : Value} {bs xs : List Value} (hT1 : e2 ≠ T) (hT2 : e2 ≠ e) (h : Lib.IsBuilder T e B b bs w) (hD : w.ownsRow B2 e2 s2 dv n2 xs) (hg : w.grownBy w' dv.ownBlock) : Lib.IsBuilder T e B b bs w' :=
  h.elim (fun h => .inl (builder_kept hT1 hT2 h hD hg)) fun h => .inr (builder_kept hT1 hT2 h hD hg)
theorem builder_below {w w' : World} {B b : Nat} {e T : TypeId} {bs : List Value} (h : Lib.IsBuilder T e B b bs w) (hb : Below w.heap.size w w') : Lib.IsBuilder T e B b bs w' := by
  have one : ∀ p, Lib.BuilderAt T e B b p bs w → Lib.BuilderAt T e B b p bs w' := fun p h => by
    obtain ⟨hB, v, hh, ho, hne⟩ := h
    have hlt : b < w.heap.size := by
      rcases Nat.lt_or_ge b w.heap.size with h' | h'
      · exact h'
      · simp [Array.getElem?_eq_none h'] at hh
    exact ⟨hB, v, by rw [hb.block b hlt]; exact hh, own_below ho hb (Nat.le_refl _), hne⟩
  exact h.elim (fun h => .inl (one _ h)) fun h => .inr (one _ h)
end Go.Proofs.Ytlelgpknkgjaeaa
