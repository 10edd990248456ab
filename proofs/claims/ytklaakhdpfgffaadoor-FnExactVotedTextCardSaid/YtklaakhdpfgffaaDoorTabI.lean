/- A table of integers that a row lists. -/
import Derived.Test.YtklaakhdpfgffaaDoorDoor
namespace Go.Proofs.YtklaakhdpfgffaaDoor
open Go.ChangeShapes Go.WideShapes Go.ChangeAt Go.RowKit
set_option linter.unusedVariables false
theorem tab_laid {P : Program} {W : World} {l : List (String × DataW Unit)} (y : String × DataW Unit) {k : IntKind} {zs : List Int} {g : Nat} {t e : TypeId} {n : Nat}
    (hg : P.globalNamed y.1 = some g) (hty : (P.globals[g]?).map (·.type) = some t) (ht : P.underlying t = some (.array n e)) (he : P.underlying e = some (.int k)) (hce : P.cellsOf e = 1) (hct : P.cellsOf t = n)
    (hy : y.2 = Lib.tabData k zs) (hm : y ∈ l.filter fun x => x.2.handleName?.isNone) (hL : laidMetH P l W) : Lib.TabIs P W y.1 k zs := by
  obtain ⟨name, d⟩ := y
  simp only at hy hg
  subst hy
  obtain ⟨ps, hv, _, hrow⟩ := (laidMetH_iff.1 hL).1
  obtain ⟨g2, t2, cs, fuel, p, a1, a2, a3, a4, a5⟩ := laid_at hv hm
  obtain rfl := Option.some.inj (hg.symm.trans a1)
  obtain rfl := Option.some.inj (hty.symm.trans a2)
  have hcs := Lib.cells_of_tab ht he hce hct a4
  unfold Lib.TabIs
  rw [a3, ← hcs]
theorem tab_step {P : Program} {w w' : World} {name : String} {k : IntKind} {zs : List Int} (h : Lib.TabIs P w name k zs) (hb : Below w.heap.size w w') : Lib.TabIs P w' name k zs := var_same hb h
end Go.Proofs.YtklaakhdpfgffaaDoor
