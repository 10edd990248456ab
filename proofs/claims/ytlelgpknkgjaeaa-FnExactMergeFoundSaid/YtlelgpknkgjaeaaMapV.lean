/- A map of the calls' own keyed by int64, read as a function of its keys. -/
import Derived.Test.YtlelgpknkgjaeaaRow
import Derived.Maps.OwnOps
import Derived.Maps.Views
namespace Go.Proofs.Ytlelgpknkgjaeaa
open Go.ChangeShapes Go.WideShapes Go.ChangeAt Go.RowKit Go.Maps
set_option linter.unusedSimpArgs false
set_option linter.unusedVariables false

/-- an element is read as itself. -/
def heldR (v : Value) : Option (DataW Value × List MemPlace) := some (.held v, [])
theorem heldR_inv {v : Value} {z : Value} {ps : List MemPlace} (h : heldR v = some (.held z, ps)) : v = z := by
  unfold heldR at h
  injection h with h
  injection h with h _
  injection h
/-- Block b is a map of at most n entries whose elements are f, where there is none: z. -/
structure MapV (w : World) (b n : Nat) (f : Int → Value) (z : Value) : Prop where
  ex : ∃ D : DataW Value, w.ownsMap Try.prog 2 heldR b n D ∧ IsMap D ∧ ∀ k : Int, D.atKey (.int .i64 k) (.held z) = .held (f k)
theorem MapV.made (w : World) (z : Value) : MapV (w.alloc (.map #[] 0)) w.heap.size 0 (fun _ => z) z :=
  ⟨.map [], World.ownsMap_made _ _ _ _, isMap_empty, fun _ => rfl⟩
theorem MapV.lt {w : World} {b n : Nat} {f : Int → Value} {z : Value} (h : MapV w b n f z) : b < w.heap.size := by
  obtain ⟨D, h, _⟩ := h.ex
  exact h.lt
theorem MapV.of_block {w w' : World} {b n : Nat} {f : Int → Value} {z : Value} (h : MapV w b n f z) (hb : w'.heap[b]? = w.heap[b]?) : MapV w' b n f z := by
  obtain ⟨D, ⟨es, c, h1, h2⟩, h3⟩ := h.ex
  exact ⟨D, ⟨es, c, hb.trans h1, h2⟩, h3⟩
theorem MapV.step {w w' : World} {b n : Nat} {f : Int → Value} {z : Value} (k : Below w.heap.size w w') (h : MapV w b n f z) : MapV w' b n f z := h.of_block (k.block b h.lt)
theorem MapV.kept {w w' : World} {b n : Nat} {f : Int → Value} {z : Value} {row : Option Nat} (h : MapV w b n f z) (hg : w.grownBy w' row) (hne : some b ≠ row) : MapV w' b n f z := h.of_block (hg.block b h.lt hne)
theorem MapV.mono {w : World} {b n m : Nat} {f : Int → Value} {z : Value} (h : MapV w b n f z) (hm : n ≤ m) : MapV w b m f z := by
  obtain ⟨D, h1, h2⟩ := h.ex
  exact ⟨D, h1.mono hm, h2⟩
theorem MapV.same {w : World} {b n : Nat} {f f' : Int → Value} {z : Value} (h : MapV w b n f z) (hf : ∀ k, f k = f' k) : MapV w b n f' z := by
  obtain rfl : f = f' := funext hf
  exact h
theorem keyLaw : Keyed Try.prog 2 := int_keyed Try.underlying2
theorem MapV.look {w : World} {b n : Nat} {f : Int → Value} {z : Value} (h : MapV w b n f z) {t e : TypeId} (ht : Try.prog.underlying t = some (.map 2 e)) (hz : (zeroValue e).run Try.prog w = .ok z w) {k : Int} (hw : (Lit.int .i64 k).wf = true) :
    (Instr.lookup t (.map (some b)) (.int .i64 k) false).run Try.prog w = .ok (f k) w := by
  obtain ⟨D, h1, _, h3⟩ := h.ex
  obtain ⟨v, ps, hrun, hv⟩ := h1.lookup keyLaw ht hz (zd := .held z) (zp := []) rfl (keyOf_int_mk Try.underlying2 hw)
  rw [h3] at hv
  rw [hrun, heldR_inv hv]
def putF (f : Int → Value) (k : Int) (v : Value) : Int → Value := fun j => if j = k then v else f j
theorem putF_same (f : Int → Value) (k : Int) (v : Value) : putF f k v k = v := if_pos rfl
theorem putF_other {f : Int → Value} {k j : Int} {v : Value} (h : j ≠ k) : putF f k v j = f j := if_neg h
theorem MapV.put {w : World} {b n : Nat} {f : Int → Value} {z : Value} (h : MapV w b n f z) {t e : TypeId} (ht : Try.prog.underlying t = some (.map 2 e)) {k : Int} (hw : (Lit.int .i64 k).wf = true) (hn : n < maxLen) (v : Value) :
    ∃ w', (Instr.mapUpdate t (.map (some b)) (.int .i64 k) v).run Try.prog w = .ok () w' ∧ MapV w' b (n + 1) (putF f k v) z ∧ w.grownBy w' (some b) := by
  obtain ⟨D, h1, h2, h3⟩ := h.ex
  have hk := keyOf_int_mk Try.underlying2 hw
  obtain ⟨w', hrun, h4, hg⟩ := h1.update keyLaw ht hn hk (val := v) (d := .held v) (ps := []) rfl
  refine ⟨w', hrun, ⟨_, h4, h2.put _ _, fun j => ?_⟩, hg⟩
  by_cases hj : j = k
  · subst hj
    rw [atKey_put_same h2 (keyLaw.key hk), putF_same]
  · rw [atKey_put_other (fun e => by injection e with _ e; exact hj e), h3, putF_other hj]

/-- 'm[k]' at the operation. -/
theorem wpList_lookup_V (w : World) {ops : Array Oper} {rest : List Oper} {o : Oper} {a : Act} {Q : Exit → Act → World → Prop}
    (hg : o.guard = none) (m x : Operand) (t : TypeId) (hop : o.op = Op.lookup t m x false) (e : TypeId) (ht : Try.prog.underlying t = some (.map 2 e)) (z : Value) (hz : (zeroValue e).run Try.prog w = .ok z w)
    (b n : Nat) (f : Int → Value) (hm : a.eval m = .map (some b)) (hown : MapV w b n f z) (k : Int) (hx : a.eval x = .int .i64 k) (hw : (Lit.int .i64 k).wf = true)
    (hK : wpList Try.prog ops Q rest (a.put o.dst (f k)) w) : wpList Try.prog ops Q (o :: rest) a w := by
  refine wpList_plain hg fun K' hK' => ?_
  have hrun := hown.look ht hz hw
  unfold Oper.wp
  simp [execOp, hop, hm, hx, hrun, Result.andThen]
  exact hK' _ _ hK
/-- 'm[k] = v' at the operation. -/
theorem wpList_mapUpdate_V (w : World) {ops : Array Oper} {rest : List Oper} {o : Oper} {a : Act} {Q : Exit → Act → World → Prop}
    (hg : o.guard = none) (m x v : Operand) (t : TypeId) (hop : o.op = Op.mapUpdate t m x v) (e : TypeId) (ht : Try.prog.underlying t = some (.map 2 e)) (z : Value)
    (b n : Nat) (f : Int → Value) (hm : a.eval m = .map (some b)) (hown : MapV w b n f z) (hn : n < maxLen) (k : Int) (val : Value) (hx : a.eval x = .int .i64 k) (hv : a.eval v = val) (hw : (Lit.int .i64 k).wf = true)
    (hK : ∀ w', MapV w' b (n + 1) (putF f k val) z → w.grownBy w' (some b) → wpList Try.prog ops Q rest (a.put o.dst undef) w') : wpList Try.prog ops Q (o :: rest) a w := by
  refine wpList_plain hg fun K' hK' => ?_
  obtain ⟨w', hrun, h1, h2⟩ := hown.put ht hw hn val
  unfold Oper.wp
  simp [execOp, hop, hm, hx, hv, hrun, Result.andThen]
  exact hK' _ _ (hK w' h1 h2)
end Go.Proofs.Ytlelgpknkgjaeaa
