/- Rows of records that the calls make and fill: storing a record, filling a row, the marks. No program in sight. -/
import Derived.Test.YtlelgpknkgjaeaaRec
import Derived.Deep.LoopGhost
namespace Go.Proofs.Ytlelgpknkgjaeaa
open Go.ChangeShapes Go.WideShapes Go.ChangeAt Go.RowKit
set_option linter.unusedVariables false

/-- one cell after the other is stored, from a place on. -/
def setCells (w : World) (g : Nat) : Nat → List Value → World
  | _, [] => w
  | o, v :: vs => setCells (w.setCell ⟨g, o, none⟩ v) g (o + 1) vs
def setL (xs : List Value) : Nat → List Value → List Value
  | _, [] => xs
  | o, v :: vs => setL (xs.set o v) (o + 1) vs

theorem setL_right {a b : List Value} : ∀ (vs : List Value) (j : Nat), setL (a ++ b) (a.length + j) vs = a ++ setL b j vs
  | [], j => rfl
  | v :: vs, j => by
    unfold setL
    rw [List.set_append_right _ _ (by omega), show a.length + j - a.length = j from by omega, Nat.add_assoc]
    exact setL_right vs (j + 1)
theorem setL_all {b : List Value} : ∀ (vs a : List Value), a.length = vs.length → setL (a ++ b) 0 vs = vs ++ b
  | [], a, h => by
    have : a = [] := List.eq_nil_of_length_eq_zero h
    subst this
    rfl
  | v :: vs, [], h => by simp at h
  | v :: vs, x :: a, h => by
    unfold setL
    show setL (v :: (a ++ b)) (0 + 1) vs = _
    have h1 := setL_right (a := [v]) (b := a ++ b) vs 0
    simp only [List.length_singleton, List.cons_append, List.nil_append] at h1
    show setL (v :: (a ++ b)) (1 + 0) vs = _
    rw [h1, setL_all vs a (by simpa using h)]
    rfl
theorem setL_flat {α : Type} {f : α → List Value} {size : Nat} (hf : ∀ x, (f x).length = size) (x : α) : ∀ (l : List α) (k : Nat), k < l.length → setL (l.flatMap f) (k * size) (f x) = (l.set k x).flatMap f
  | [], k, h => by simp at h
  | y :: l, 0, _ => by
    simp only [List.flatMap_cons, Nat.zero_mul, List.set_cons_zero]
    exact setL_all (f x) (f y) (by rw [hf, hf])
  | y :: l, k + 1, h => by
    simp only [List.flatMap_cons, List.set_cons_succ]
    have h1 := setL_right (a := f y) (b := l.flatMap f) (f x) (k * size)
    rw [hf] at h1
    rw [show (k + 1) * size = size + k * size from by rw [Nat.add_mul]; omega, h1, setL_flat hf x l k (by simpa using h)]

section
variable {base : Nat} {e : TypeId} {size : Nat} {g n cap : Nat}
theorem own_setCells : ∀ (vs : List Value) (o : Nat) {w : World} {xs : List Value}, w.ownsRow base e size (.slice (some ⟨g, 0, none⟩) n cap) n xs →
    (setCells w g o vs).ownsRow base e size (.slice (some ⟨g, 0, none⟩) n cap) n (setL xs o vs) ∧ w.grownBy (setCells w g o vs) (some g)
  | [], _, w, _, h => ⟨h, World.grownBy.refl w _⟩
  | v :: vs, o, w, xs, h => by
    have h1 := h.stored o v
    have h2 := own_setCells vs (o + 1) h1.1
    exact ⟨h2.1, h1.2.trans h2.2⟩
theorem own_setRec {α : Type} {f : α → List Value} (hf : ∀ x, (f x).length = size) {w : World} {l : List α} {k : Nat} (x : α) (hk : k < l.length) (h : w.ownsRow base e size (.slice (some ⟨g, 0, none⟩) n cap) n (l.flatMap f)) :
    (setCells w g (k * size) (f x)).ownsRow base e size (.slice (some ⟨g, 0, none⟩) n cap) n ((l.set k x).flatMap f) ∧ w.grownBy (setCells w g (k * size) (f x)) (some g) := by
  have := own_setCells (f x) (k * size) h
  rw [setL_flat hf x l k hk] at this
  exact this
end

theorem Below.setCells {B : Nat} {a : World} {g : Nat} (hg : B ≤ g) : ∀ (vs : List Value) (o : Nat) {w : World}, Below B a w → Below B a (Go.Proofs.Ytlelgpknkgjaeaa.setCells w g o vs)
  | [], _, _, h => h
  | v :: vs, o, w, h => Below.setCells hg vs (o + 1) (h.setCell (p := ⟨g, o, none⟩) hg v)

/-- two rows, the second made later: apart. -/
theorem own_apart {w1 w2 : World} {b1 b2 : Nat} {e1 e2 : TypeId} {s1 s2 n1 n2 : Nat} {v1 v2 : Value} {xs1 xs2 : List Value} (h1 : w1.ownsRow b1 e1 s1 v1 n1 xs1) (h2 : w2.ownsRow b2 e2 s2 v2 n2 xs2) (hb : w1.heap.size ≤ b2) :
    v1.ownBlock = none ∨ v1.ownBlock ≠ v2.ownBlock := by
  cases h : v1.ownBlock with
  | none => exact .inl rfl
  | some g =>
    refine .inr fun he => ?_
    have := (h1.lt g h).2
    have := (h2.lt g he.symm).1
    omega
theorem bgrown {a w w' : World} {b : Nat} {e : TypeId} {s n : Nat} {v : Value} {xs : List Value} (h : Below a.heap.size a w) (hv : w.ownsRow b e s v n xs) (hb : a.heap.size ≤ b) (hg : w.grownBy w' v.ownBlock) : Below a.heap.size a w' :=
  h.grown hg h.size (fun k hk => Nat.le_trans hb (hv.lt k hk).1)

/-- a row of zero records that is being filled. -/
def fillR {α : Type} (l : List α) (z : α) (k : Nat) : List α := l.take k ++ List.replicate (l.length - k) z
theorem fillR_len {α : Type} (l : List α) (z : α) (k : Nat) (h : k ≤ l.length) : (fillR l z k).length = l.length := by simp [fillR]; omega
theorem fillR_set {α : Type} {l : List α} {z : α} {k : Nat} {x : α} (h : l[k]? = some x) : (fillR l z k).set k x = fillR l z (k + 1) := by
  have hk : k < l.length := (List.getElem?_eq_some_iff.1 h).1
  unfold fillR
  rw [take_snoc l k x h, List.set_append_right _ _ (by rw [List.length_take]; omega), List.length_take, Nat.min_eq_left (by omega), Nat.sub_self]
  obtain ⟨m, hm⟩ : ∃ m, l.length - k = m + 1 := ⟨l.length - k - 1, by omega⟩
  rw [hm, List.replicate_succ, List.set_cons_zero, show l.length - (k + 1) = m from by omega]
  simp
theorem fillR_all {α : Type} (l : List α) (z : α) : fillR l z l.length = l := by simp [fillR]
theorem fillR_none {α : Type} (l : List α) (z : α) : fillR l z 0 = List.replicate l.length z := by simp [fillR]

theorem made_flat {α : Type} {f : α → List Value} {size : Nat} (hf : ∀ x, (f x).length = size) (z : α) (n : Nat) : (madeCells (f z).toArray (n * size)).toList = (List.replicate n z).flatMap f := by
  apply List.ext_getElem?
  intro j
  rcases Nat.lt_or_ge j (n * size) with hj | hj
  · have hs : 0 < size := by
      rcases Nat.eq_zero_or_pos size with h | h
      · subst h; omega
      · exact h
    have hi : j / size < n := (Nat.div_lt_iff_lt_mul hs).2 hj
    have hr : (List.replicate n z)[j / size]? = some z := by simp [hi]
    have := flat_get hf (List.replicate n z) (j / size) (j % size) z hr (Nat.mod_lt _ hs)
    rw [Nat.div_add_mod'] at this
    rw [this]
    have hm : j % size < (f z).length := by rw [hf]; exact Nat.mod_lt _ hs
    rw [List.getElem?_eq_getElem hm]
    have hm' : j % (f z).length < (f z).length := Nat.mod_lt _ (by rw [hf]; exact hs)
    simp [madeCells, hj, hf]
    simp [hf] at hm'
    rw [List.getElem?_eq_getElem (by rw [hf]; exact hm')]
    rfl
  · rw [List.getElem?_eq_none (by simp [madeCells]; exact hj), List.getElem?_eq_none (by rw [flat_len hf]; simpa using hj)]
end Go.Proofs.Ytlelgpknkgjaeaa
