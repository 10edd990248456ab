/- A track that came in as an argument: how it is opened. -/
import Derived.Test.YtlelgpknkgjaeaaRec
import Derived.Deep.RegionWith
import Derived.Deep.DeepCutAuto
namespace Go.Proofs.Ytlelgpknkgjaeaa
open Go.ChangeShapes Go.WideShapes Go.ChangeAt Go.RowKit
set_option linter.unusedVariables false
set_option maxRecDepth 4000
section
variable {H : Type} {enc : TypeId × Value → H} {w : World} {base : Nat} {held : Bool}
theorem byval_Track {r0 : Reach} {b0 : Nat} {v : Value} {d : DataW H} {p : List MemPlace} (hv : Value.okWide Try.prog w r0 b0 40 v) (h : DataW.Trod enc Try.prog w base (fun _ => true) held 40 v d p) :
    ∃ (f g : Int) (A : Option Addr) (cap : Nat) (l : List SecR), v = .agg #[.int .i64 f, .int .i64 g, .slice A l.length cap] ∧ ArgS w A l.length cap 8 (l.flatMap SecR.cells) ∧ (∀ r ∈ l, r.ok) ∧ (Lit.int .i64 f).wf = true ∧ (Lit.int .i64 g).wf = true := by
  obtain ⟨cs, rfl, hsz⟩ := okWide_struct Try.underlying40 hv
  obtain ⟨fuel, hf⟩ := h
  obtain ⟨hl, hf⟩ := fields_of Try.underlying40 (by kernel_rfl) (by kernel_rfl) hf
  obtain ⟨v0, y0, n0, e0, t0⟩ := hf 0 _ rfl
  obtain ⟨v1, y1, n1, e1, t1⟩ := hf 1 _ rfl
  obtain ⟨v2, y2, n2, e2, t2⟩ := hf 2 _ rfl
  obtain ⟨b0, g0, _, w0⟩ := DataW.trod_int Try.underlying2 t0
  obtain rfl : v0 = _ := by simpa using g0
  obtain ⟨b1, g1, _, w1⟩ := DataW.trod_int Try.underlying2 t1
  obtain rfl : v1 = _ := by simpa using g1
  obtain ⟨A, cap, l, hcs, hA, hok⟩ := open_rows SecR.len Try.underlying38 (by kernel_rfl) (fun _ _ _ h => open_SecR h) t2
  obtain rfl : v2 = _ := by simpa using hcs
  exact ⟨b0, b1, A, cap, l, congrArg Value.agg (list_of_toArray (list_3 hl e0 e1 e2)), hA, hok, w0, w1⟩
end
end Go.Proofs.Ytlelgpknkgjaeaa
