/- Words and lemmas for memory: rows of the calls' own, lists of records as flat cells, slices that came in. No program in sight but for the imports. -/
import Derived.Test.YtlelgpknkgjaeaaLaw
import Derived.Test.YtlelgpknkgjaeaaInt
import Derived.Laws.OwnMore
import Derived.Deep.AppendLies
import Derived.Deep.Slices
import Derived.Deep.Fields
import Derived.Deep.Onto
import Derived.Maps.AppendAt
import Derived.OwnWalk
namespace Go.Proofs.Ytlelgpknkgjaeaa
open Go.ChangeShapes Go.WideShapes Go.ChangeAt Go.RowKit

/-! ### lists of records, laid flat -/
theorem flat_len {α : Type} {f : α → List Value} {k : Nat} (hk : ∀ x, (f x).length = k) : ∀ l : List α, (l.flatMap f).length = l.length * k
  | [] => by simp
  | x :: l => by simp [List.flatMap_cons, flat_len hk l, hk x, Nat.add_mul]; omega
theorem flat_get {α : Type} {f : α → List Value} {k : Nat} (hk : ∀ x, (f x).length = k) : ∀ (l : List α) (i j : Nat) (x : α), l[i]? = some x → j < k → (l.flatMap f)[i * k + j]? = (f x)[j]?
  | [], i, j, x, h, _ => by simp at h
  | y :: l, 0, j, x, h, hj => by
    simp at h
    subst h
    simp only [List.flatMap_cons, Nat.zero_mul, Nat.zero_add]
    rw [List.getElem?_append_left (by rw [hk]; exact hj)]
  | y :: l, i + 1, j, x, h, hj => by
    simp only [List.getElem?_cons_succ] at h
    have := flat_get hk l i j x h hj
    simp only [List.flatMap_cons]
    rw [List.getElem?_append_right (by rw [hk, Nat.add_mul]; omega), hk, show (i + 1) * k + j - k = i * k + j from by rw [Nat.add_mul]; omega]
    exact this
theorem flat_snoc {α : Type} {f : α → List Value} (l : List α) (x : α) : (l ++ [x]).flatMap f = l.flatMap f ++ f x := by simp
theorem get_lt {α : Type} (l : List α) (i : Nat) (h : i < l.length) : ∃ x, l[i]? = some x := ⟨l[i], List.getElem?_eq_getElem h⟩
theorem take_snoc {α : Type} (l : List α) (i : Nat) (x : α) (h : l[i]? = some x) : l.take (i + 1) = l.take i ++ [x] := by
  obtain ⟨hi, rfl⟩ := List.getElem?_eq_some_iff.1 h
  rw [List.take_succ_eq_append_getElem hi]

/-! ### a slice that came in: where its cells lie -/
/-- 'A', 'n', 'cap': the slice's parts; 'cs': its elements' cells, 'size' an element. -/
def ArgS (w : World) (A : Option Addr) (n cap size : Nat) (cs : List Value) : Prop :=
  cs.length = n * size ∧ n ≤ cap ∧ cap ≤ maxLen ∧ (0 < n → 0 < size → ∃ b o, A = some ⟨b, o, none⟩ ∧ b < w.heap.size ∧ BoxAt w b o cs)

theorem ArgS.below {w w' : World} {A : Option Addr} {n cap size : Nat} {cs : List Value} (h : ArgS w A n cap size cs) (hb : Below w.heap.size w w') : ArgS w' A n cap size cs := by
  obtain ⟨h1, h2, h3, h4⟩ := h
  refine ⟨h1, h2, h3, fun hn hs => ?_⟩
  obtain ⟨b, o, hA, hlt, hc⟩ := h4 hn hs
  exact ⟨b, o, hA, Nat.lt_of_lt_of_le hlt hb.size, fun j u hu => (hb.cell (p := ⟨b, o + j, none⟩) hlt).trans (hc j u hu)⟩

theorem addr_add (b o k : Nat) : (⟨b, o, none⟩ : Addr).add k = ⟨b, o + k, none⟩ := by
  unfold Addr.add
  split
  · next h => subst h; rfl
  · rfl

theorem cell_lt {w : World} {b o : Nat} {u : Value} (h : w.cell? ⟨b, o, none⟩ = some u) : b < w.heap.size := by
  unfold World.cell? at h
  rcases Nat.lt_or_ge b w.heap.size with hlt | hge
  · exact hlt
  · simp [Array.getElem?_eq_none hge] at h

section
variable {H : Type} {enc : TypeId × Value → H} {P : Program} {w : World} {base : Nat} {spare : Nat → Bool} {held : Bool}

/-- A struct of one-cell fields, opened: each cell with its own reading. -/
theorem fields_of {t : TypeId} {fs : Array Field} {fuel : Nat} {cs : List Value} {x : DataW H × List MemPlace} (ht : P.underlying t = some (.struct fs)) (hone : Go.Deep.oneCellFields P fs = true) (hC : P.cellsOf t = fs.size)
    (h : DataW.trod enc P w base spare held fuel t cs = some x) :
    cs.length = fs.size ∧ ∀ (j : Nat) (f : Field), fs[j]? = some f → ∃ c y n, cs[j]? = some c ∧ DataW.trod enc P w base spare held n f.type [c] = some y := by
  obtain ⟨ys, n', hn', hy, hlen, hyl, hf⟩ := DataW.trod_struct ht h
  rw [hC] at hlen
  refine ⟨hlen, fun j f hj => ?_⟩
  obtain ⟨ho, hk⟩ := Go.Deep.hone_of hone j f hj
  have hjl : j < fs.size := (Array.getElem?_eq_some_iff.1 hj).1
  have h1 := hf j f hj
  rw [ho, hk] at h1
  have hone' : (cs.drop j).take 1 = [cs[j]'(by omega)] := by
    rw [List.drop_eq_getElem_cons (by omega)]
    rfl
  rw [hone'] at h1
  exact ⟨_, _, n', List.getElem?_eq_getElem (by omega), h1.trans (List.getElem?_eq_getElem (by omega))⟩

/-- A slice of elements of a known number of cells: each element opened by 'op'. -/
theorem open_rows {α : Type} {f : α → List Value} {ok : α → Prop} {k : Nat} {t e : TypeId} {fuel : Nat} {cs : List Value} {x : DataW H × List MemPlace} (hk : ∀ x, (f x).length = k)
    (ht : P.underlying t = some (.slice e)) (hC : P.cellsOf e = k)
    (op : ∀ (n : Nat) (cs : List Value) (y : DataW H × List MemPlace), DataW.trod enc P w base (fun _ => true) held n e cs = some y → ∃ r : α, cs = f r ∧ ok r)
    (h : DataW.trod enc P w base (fun _ => true) held fuel t cs = some x) :
    ∃ (A : Option Addr) (cap : Nat) (l : List α), cs = [.slice A l.length cap] ∧ ArgS w A l.length cap k (l.flatMap f) ∧ ∀ r ∈ l, ok r := by
  rcases Go.Deep.open_slice ht h with ⟨rfl, _⟩ | ⟨a, len, cap, m, n, D, Pl, rfl, _, hl, hm, hmm, _, hi⟩
  · exact ⟨none, 0, [], rfl, ⟨by simp, Nat.le_refl _, Nat.zero_le _, fun h => absurd h (by simp)⟩, by simp⟩
  · simp only [if_true] at hmm
    subst hmm
    rw [hC] at hi
    obtain ⟨l, hll, hl'⟩ := list_of (p := fun i (r : α) => w.cells? base (a.add (i * k)) k = some (f r) ∧ ok r) len fun i hil => by
      obtain ⟨cs', hc, ht'⟩ := hi i (by omega)
      obtain ⟨r, rfl, hr⟩ := op _ _ _ ht'
      exact ⟨r, hc, hr⟩
    subst hll
    refine ⟨some a, _, l, rfl, ⟨flat_len hk l, hl, hm, fun h0 hs => ?_⟩, fun r hr => ?_⟩
    · obtain ⟨b, o, sp⟩ := a
      obtain ⟨x0, hx0⟩ := get_lt l 0 h0
      obtain ⟨hc0, _⟩ := hl' 0 x0 hx0
      obtain ⟨_, hlen0, hat0⟩ := World.cells?_some hc0
      have h00 := hat0 0 hs
      have hz : (f x0)[0]? = some ((f x0)[0]'(by rw [hk]; exact hs)) := List.getElem?_eq_getElem _
      rw [hz] at h00
      have hsp : sp = none := by
        have := World.cell?_spot h00
        simpa [Addr.add] using this
      subst hsp
      refine ⟨b, o, rfl, ?_, fun j u hu => ?_⟩
      · rw [addr_add, addr_add] at h00
        exact cell_lt h00
      · have hjl : j < (l.flatMap f).length := (List.getElem?_eq_some_iff.1 hu).1
        rw [flat_len hk] at hjl
        have hi' : j / k < l.length := (Nat.div_lt_iff_lt_mul hs).2 hjl
        obtain ⟨r, hr⟩ := get_lt l (j / k) hi'
        obtain ⟨hc, _⟩ := hl' _ r hr
        obtain ⟨_, _, hat⟩ := World.cells?_some hc
        have hj' : j % k < k := Nat.mod_lt _ hs
        have := hat (j % k) hj'
        rw [addr_add, addr_add] at this
        have hsum : o + j / k * k + j % k = o + j := by rw [Nat.add_assoc, Nat.div_add_mod']
        rw [hsum] at this
        rw [this, ← flat_get hk l (j / k) (j % k) r hr hj', Nat.div_add_mod']
        exact hu
    · obtain ⟨i, hi', rfl⟩ := List.mem_iff_getElem.1 hr
      exact (hl' i _ (List.getElem?_eq_getElem hi')).2
end

theorem BoxAt.elem {α : Type} {f : α → List Value} {size : Nat} (hf : ∀ x, (f x).length = size) {w : World} {b o k : Nat} {l : List α} {x : α} (h : BoxAt w b o (l.flatMap f)) (hx : l[k]? = some x) : BoxAt w b (o + k * size) (f x) := fun j u hu => by
  have hj : j < size := by rw [← hf x]; exact (List.getElem?_eq_some_iff.1 hu).1
  rw [Nat.add_assoc]
  exact h _ u (by rw [flat_get hf l k j x hx hj]; exact hu)
theorem Box.elem {α : Type} {f : α → List Value} {size : Nat} (hf : ∀ x, (f x).length = size) {w : World} {b k : Nat} {l : List α} {x : α} (h : Box w b (l.flatMap f)) (hx : l[k]? = some x) : BoxAt w b (k * size) (f x) := fun j u hu => by
  have hj : j < size := by rw [← hf x]; exact (List.getElem?_eq_some_iff.1 hu).1
  exact h _ u (by rw [flat_get hf l k j x hx hj]; exact hu)

/-! ### a row of the calls' own: its form -/
theorem own_shape {w : World} {base : Nat} {e : TypeId} {size : Nat} {v : Value} {n : Nat} {xs : List Value} (h : w.ownsRow base e size v n xs) :
    ∃ A cap, v = .slice A n cap ∧ xs.length = n * size ∧ n ≤ 9223372036854775807 ∧ (0 < n → ∃ g, A = some ⟨g, 0, none⟩ ∧ base ≤ g ∧ g < w.heap.size ∧ Box w g xs ∧ ∀ j, w.frozen? ⟨g, j, none⟩ = false) := by
  have hl := h.1
  rcases h.2 with ⟨rfl, rfl⟩ | ⟨g, cap, cur, rfl, hb, hg, hnc, hcm, hcs, htake⟩
  · exact ⟨none, 0, rfl, hl, by omega, fun h => absurd h (by omega)⟩
  · refine ⟨_, cap, rfl, hl, by unfold maxLen at hcm; omega, fun _ => ⟨g, rfl, hb, (Array.getElem?_eq_some_iff.1 hg).1, fun j u hu => ?_, fun j => h.frozenAt j⟩⟩
    have := h.cells (g := g) rfl j u hu
    rwa [addr_add, Nat.zero_add] at this

theorem own_below {w w' : World} {base B : Nat} {e : TypeId} {size : Nat} {v : Value} {n : Nat} {xs : List Value} (h : w.ownsRow base e size v n xs) (hb : Below B w w') (hB : w.heap.size ≤ B) : w'.ownsRow base e size v n xs := by
  refine ⟨h.1, ?_⟩
  rcases h.2 with hn | ⟨g, cap, cur, hv, hbg, hg, rest⟩
  · exact .inl hn
  · refine .inr ⟨g, cap, cur, hv, hbg, ?_, rest⟩
    rw [hb.block g (Nat.lt_of_lt_of_le (Array.getElem?_eq_some_iff.1 hg).1 hB)]
    exact hg

theorem own_drewN {w : World} {base : Nat} {e : TypeId} {size : Nat} {v : Value} {n : Nat} {xs : List Value} (h : w.ownsRow base e size v n xs) (k : Nat) : (w.drewN k).ownsRow base e size v n xs := h
theorem own_base {w : World} {base b' : Nat} {e : TypeId} {size : Nat} {v : Value} {n : Nat} {xs : List Value} (h : w.ownsRow base e size v n xs) (hb : b' ≤ base) : w.ownsRow b' e size v n xs := h.mono hb

/-- Only block g (and what is new) has turned. -/
def Only (g : Option Nat) (w w' : World) : Prop := w.grownBy w' g
end Go.Proofs.Ytlelgpknkgjaeaa
