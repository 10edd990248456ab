/- The features of sectors (plain side; 'l11First', 'l11Features' of the reference). -/
import Derived.Test.YtlelgpknkgjaeaaRecF
import Derived.Deep.AppendLies
import Derived.Deep.LoopGhost
import Derived.Deep.QuietTactic
import Derived.BigRegion
namespace Go.Proofs.Ytlelgpknkgjaeaa
open Go.ChangeShapes Go.WideShapes Go.ChangeAt Go.RowKit
set_option linter.unusedVariables false
set_option linter.unusedSimpArgs false
set_option maxRecDepth 4000

def sameA (a b : FndR) : Bool := (a.c == b.c) && ((a.h == b.h) && ((a.n == b.n) && (a.s == b.s)))
def isFirst (f y : FndR) : Bool := !(y.t == 2) && sameA y f
/-- The least number below k of which p holds; k where there is none. -/
def firstN (p : Nat → Bool) : Nat → Nat
  | 0 => 0
  | k + 1 => if firstN p k < k then firstN p k else if p k = true then k else k + 1
theorem firstN_miss {p : Nat → Bool} : ∀ {k : Nat}, (∀ j, j < k → p j = false) → firstN p k = k
  | 0, _ => rfl
  | k + 1, h => by
    unfold firstN
    rw [firstN_miss (k := k) fun j hj => h j (by omega), if_neg (by omega), if_neg (by rw [h k (by omega)]; decide)]
theorem firstN_hit {p : Nat → Bool} {i : Nat} (hi : p i = true) (ha : ∀ j, j < i → p j = false) : ∀ {k : Nat}, i < k → firstN p k = i
  | 0, h => absurd h (by omega)
  | k + 1, h => by
    unfold firstN
    rcases Nat.lt_or_ge i k with h1 | h1
    · rw [firstN_hit hi ha h1, if_pos h1]
    · obtain rfl : i = k := by omega
      rw [firstN_miss ha, if_neg (by omega), if_pos hi]
theorem firstN_cases (p : Nat → Bool) : ∀ k, (∀ j, j < k → p j = false) ∨ ∃ i, i < k ∧ p i = true ∧ ∀ j, j < i → p j = false
  | 0 => .inl fun j hj => absurd hj (by omega)
  | k + 1 => by
    rcases firstN_cases p k with h | ⟨i, hi, hp, ha⟩
    · cases hk : p k
      · refine .inl fun j hj => ?_
        rcases Nat.lt_or_ge j k with h1 | h1
        · exact h j h1
        · obtain rfl : j = k := by omega
          exact hk
      · exact .inr ⟨k, by omega, hk, h⟩
    · exact .inr ⟨i, by omega, hp, ha⟩
theorem firstN_le (p : Nat → Bool) : ∀ k, firstN p k ≤ k
  | 0 => Nat.le_refl _
  | k + 1 => by
    unfold firstN
    have := firstN_le p k
    split
    · omega
    · split <;> omega
def fndAt (l : List FndR) (k : Nat) : FndR := l.getD k FndR.zero
theorem fndAt_eq {l : List FndR} {k : Nat} {m : FndR} (h : l[k]? = some m) : fndAt l k = m := by unfold fndAt; rw [List.getD_eq_getElem?_getD, h]; rfl
def firstOf (l : List FndR) (k : Nat) : Nat := firstN (fun j => isFirst (fndAt l k) (fndAt l j)) k
def featsAt (l : List FndR) (cy hd : Int) (k : Nat) : List FeatR :=
  if ((fndAt l k).t == 2) = true then [⟨3, (k : Int), 0⟩] else
    (if decide (firstOf l k < k) = true then [⟨1, (k : Int), (firstOf l k : Int)⟩] else []) ++
      ((if ((fndAt l k).c != cy || (fndAt l k).h != hd) = true then [⟨2, (k : Int), 0⟩] else []) ++
        ((if ((fndAt l k).t == 3) = true then [⟨4, (k : Int), 0⟩] else []) ++
          ((if ((fndAt l k).t == 4) = true then [⟨5, (k : Int), 0⟩] else []) ++ (if (fndAt l k).l = true then [⟨6, (k : Int), 0⟩] else []))))
def featsTo (l : List FndR) (cy hd : Int) : Nat → List FeatR
  | 0 => []
  | k + 1 => featsTo l cy hd k ++ featsAt l cy hd k
theorem featsAt_2 {l : List FndR} {cy hd : Int} {k : Nat} {m : FndR} (hm : fndAt l k = m) (h2 : (m.t == 2) = true) : featsAt l cy hd k = [⟨3, (k : Int), 0⟩] := by
  subst hm
  exact if_pos h2
theorem featsAt_n {l : List FndR} {cy hd : Int} {k i : Nat} {m : FndR} {bi bc bh b3 b4 bl : Bool} (hm : fndAt l k = m) (h2 : (m.t == 2) = false) (hi : firstOf l k = i) (ei : decide (i < k) = bi) (ec : (m.c != cy) = bc) (eh : (m.h != hd) = bh) (e3 : (m.t == 3) = b3) (e4 : (m.t == 4) = b4) (el : m.l = bl) :
    featsAt l cy hd k = (if bi = true then [⟨1, (k : Int), (i : Int)⟩] else []) ++ ((if (bc || bh) = true then [⟨2, (k : Int), 0⟩] else []) ++ ((if b3 = true then [⟨4, (k : Int), 0⟩] else []) ++ ((if b4 = true then [⟨5, (k : Int), 0⟩] else []) ++ (if bl = true then [⟨6, (k : Int), 0⟩] else [])))) := by
  subst hm hi ei ec eh e3 e4 el
  exact if_neg (by rw [h2]; decide)
theorem featsAt_len (l : List FndR) (cy hd : Int) (k : Nat) : (featsAt l cy hd k).length ≤ 5 := by
  unfold featsAt
  repeat' split
  all_goals simp
theorem featsTo_len (l : List FndR) (cy hd : Int) : ∀ k, (featsTo l cy hd k).length ≤ 5 * k
  | 0 => Nat.le_refl _
  | k + 1 => by
    have h1 := featsTo_len l cy hd k
    have h2 := featsAt_len l cy hd k
    unfold featsTo
    rw [List.length_append]
    omega
theorem cells3a {w : World} {g : Nat} {a0 a1 a2 : Value} {t : TypeId} (hg : g = w.heap.size) : ∀ j u, ([a0, a1, a2] : List Value)[j]? = some u → (w.alloc (.cells #[a0, a1, a2] t)).cell? ((⟨g, 0, none⟩ : Addr).add j) = some u := fun j u hu => by
  subst hg
  rw [addr_add, Nat.zero_add]
  exact Box.new w [a0, a1, a2] t j u hu
/-- The state of a round: the features so far, and the block of the sector. -/
structure SSt (w0 w : World) (v : Value) (F : Nat) (f : FndR) (L : List FeatR) : Prop where
  row : w.ownsRow w0.heap.size 95 3 v L.length (L.flatMap FeatR.cells)
  box : Box w F f.cells
  lt : F < w.heap.size
  far : v.ownBlock ≠ some F
  below : Below w0.heap.size w0 w
theorem SSt.step {w0 w w' : World} {v : Value} {F : Nat} {f : FndR} {L : List FeatR} (h : SSt w0 w v F f L) (k : Below w.heap.size w w') : SSt w0 w' v F f L :=
  ⟨ostep k h.row, h.box.step k, Nat.lt_of_lt_of_le h.lt k.size, h.far, bstep h.below k⟩
theorem SSt.alloc {w0 w : World} {v : Value} {F : Nat} {f : FndR} {L : List FeatR} (h : SSt w0 w v F f L) (o : Obj) : SSt w0 (w.alloc o) v F f L := h.step (balloc (Below.refl _ _) o)
theorem SSt.cast {w0 w : World} {v : Value} {F : Nat} {f : FndR} {L M : List FeatR} (h : SSt w0 w v F f L) (e : L = M) : SSt w0 w v F f M := by rw [← e]; exact h
theorem SSt.push {w0 w w' : World} {v : Value} {F g cap : Nat} {f : FndR} {L : List FeatR} (h : SSt w0 w v F f L) {a b c : Int}
    (ho : w'.ownsRow w0.heap.size 95 3 (.slice (some ⟨g, 0, none⟩) (L.length + 1) cap) (L.length + 1) (L.flatMap FeatR.cells ++ [.int .i64 a, .int .i64 b, .int .i64 c])) (hg : w.grownBy w' v.ownBlock) (hat : v.ownBlock = some g ∨ g = w.heap.size) :
    SSt w0 w' (.slice (some ⟨g, 0, none⟩) (L.length + 1) cap) F f (L ++ [⟨a, b, c⟩]) := by
  refine ⟨?_, fun j u hu => ?_, Nat.lt_of_lt_of_le h.lt hg.size, ?_, bgrown h.below h.row (Nat.le_refl _) hg⟩
  · rw [List.length_append, flat_snoc]
    exact ho
  · exact hg.cell (h.box j u hu) (fun e => h.far e.symm)
  · intro e
    have e2 : g = F := by simpa [Value.ownBlock] using e
    rcases hat with h1 | h1
    · exact h.far (by rw [h1, e2])
    · have := h.lt; omega
end Go.Proofs.Ytlelgpknkgjaeaa
