/- Which blocks a call turned: none below a base, and none of other element types. -/
import Derived.Test.YtlelgpknkgjaeaaKeep
namespace Go.Proofs.Ytlelgpknkgjaeaa
open Go.ChangeShapes Go.WideShapes Go.ChangeAt Go.RowKit
set_option linter.unusedSimpArgs false
set_option linter.unusedVariables false

/-- Below b nothing was turned, and no block of cells of a type that is not in T. -/
structure Tch (T : TypeId → Bool) (b : Nat) (w w' : World) : Prop where
  low : Below b w w'
  size : w.heap.size ≤ w'.heap.size
  typ : ∀ (g : Nat) (cs : Array Value) (t : TypeId), w.heap[g]? = some (Obj.cells cs t (0, 0)) → T t = false → w'.heap[g]? = some (Obj.cells cs t (0, 0))
theorem Tch.refl (T : TypeId → Bool) (b : Nat) (w : World) : Tch T b w w := ⟨Below.refl _ _, Nat.le_refl _, fun _ _ _ h _ => h⟩
theorem Tch.trans {T : TypeId → Bool} {b : Nat} {u v w : World} (h : Tch T b u v) (k : Tch T b v w) : Tch T b u w :=
  ⟨h.low.trans k.low, Nat.le_trans h.size k.size, fun g cs t hg ht => k.typ g cs t (h.typ g cs t hg ht) ht⟩
theorem Tch.of_below {T : TypeId → Bool} {b : Nat} {w w' : World} (h : Below w.heap.size w w') (hb : b ≤ w.heap.size) : Tch T b w w' :=
  ⟨h.mono hb, h.size, fun g cs t hg _ => (h.block g (Array.getElem?_eq_some_iff.1 hg).1).trans hg⟩
theorem Tch.of_grown {T : TypeId → Bool} {b B s n : Nat} {w w' : World} {e : TypeId} {v : Value} {xs : List Value} (ho : w.ownsRow B e s v n xs) (hg : w.grownBy w' v.ownBlock) (hT : T e = true) (hb : b ≤ B) (hw : b ≤ w.heap.size) : Tch T b w w' := by
  refine ⟨(Below.refl b w).grown hg hw (fun k hk => Nat.le_trans hb (ho.lt k hk).1), hg.size, fun g cs t h ht => ?_⟩
  rw [hg.block g (Array.getElem?_eq_some_iff.1 h).1 (fun e2 => ?_)]
  · exact h
  · obtain ⟨c, hc⟩ := own_typed ho e2.symm
    rw [hc] at h
    injection h with h
    injection h with _ h
    rw [h, ht] at hT
    cases hT
theorem Tch.own {T : TypeId → Bool} {b B s n : Nat} {w w' : World} {e : TypeId} {v : Value} {xs : List Value} (h : Tch T b w w') (ho : w.ownsRow B e s v n xs) (hT : T e = false) : w'.ownsRow B e s v n xs := by
  refine ⟨ho.1, ?_⟩
  rcases ho.2 with hn | ⟨g, cap, cur, hv, hbg, hg, rest⟩
  · exact .inl hn
  · exact .inr ⟨g, cap, cur, hv, hbg, h.typ g cur e hg hT, rest⟩
theorem Tch.mono {T : TypeId → Bool} {b c : Nat} {w w' : World} (h : Tch T b w w') (hc : c ≤ b) : Tch T c w w' := ⟨h.low.mono hc, h.size, h.typ⟩
end Go.Proofs.Ytlelgpknkgjaeaa
