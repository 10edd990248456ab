/- Records of one-cell fields: as Lean structures, as cells, and as arguments that came in. -/
import Derived.Test.YtlelgpknkgjaeaaGreatDoorMem
namespace Go.Proofs.YtlelgpknkgjaeaaGreatDoor
open Go.ChangeShapes Go.WideShapes Go.ChangeAt Go.RowKit
set_option linter.unusedVariables false
set_option maxRecDepth 4000

theorem list_2 {α : Type} {cs : List α} {a0 a1 : α} (h : cs.length = 2) (e0 : cs[0]? = some a0) (e1 : cs[1]? = some a1) : cs = [a0, a1] := by
  match cs, h with
  | [x0, x1], _ => simp at e0 e1; simp [e0, e1]
theorem list_3 {α : Type} {cs : List α} {a0 a1 a2 : α} (h : cs.length = 3) (e0 : cs[0]? = some a0) (e1 : cs[1]? = some a1) (e2 : cs[2]? = some a2) : cs = [a0, a1, a2] := by
  match cs, h with
  | [x0, x1, x2], _ => simp at e0 e1 e2; simp [e0, e1, e2]
theorem list_8 {α : Type} {cs : List α} {a0 a1 a2 a3 a4 a5 a6 a7 : α} (h : cs.length = 8) (e0 : cs[0]? = some a0) (e1 : cs[1]? = some a1) (e2 : cs[2]? = some a2) (e3 : cs[3]? = some a3) (e4 : cs[4]? = some a4) (e5 : cs[5]? = some a5) (e6 : cs[6]? = some a6) (e7 : cs[7]? = some a7) : cs = [a0, a1, a2, a3, a4, a5, a6, a7] := by
  match cs, h with
  | [x0, x1, x2, x3, x4, x5, x6, x7], _ => simp at e0 e1 e2 e3 e4 e5 e6 e7; simp [e0, e1, e2, e3, e4, e5, e6, e7]
theorem list_9 {α : Type} {cs : List α} {a0 a1 a2 a3 a4 a5 a6 a7 a8 : α} (h : cs.length = 9) (e0 : cs[0]? = some a0) (e1 : cs[1]? = some a1) (e2 : cs[2]? = some a2) (e3 : cs[3]? = some a3) (e4 : cs[4]? = some a4) (e5 : cs[5]? = some a5) (e6 : cs[6]? = some a6) (e7 : cs[7]? = some a7) (e8 : cs[8]? = some a8) : cs = [a0, a1, a2, a3, a4, a5, a6, a7, a8] := by
  match cs, h with
  | [x0, x1, x2, x3, x4, x5, x6, x7, x8], _ => simp at e0 e1 e2 e3 e4 e5 e6 e7 e8; simp [e0, e1, e2, e3, e4, e5, e6, e7, e8]
theorem list_of_toArray {cs : Array Value} {l : List Value} (h : cs.toList = l) : cs = l.toArray := by rw [← h]

@[ext] structure FeatR where
  k : Int
  s : Int
  v : Int
def FeatR.cells (r : FeatR) : List Value := [.int .i64 r.k, .int .i64 r.s, .int .i64 r.v]
theorem FeatR.len (r : FeatR) : r.cells.length = 3 := rfl
def FeatR.ok (r : FeatR) : Prop := (Lit.int .i64 r.k).wf = true ∧ (Lit.int .i64 r.s).wf = true ∧ (Lit.int .i64 r.v).wf = true

@[ext] structure MarkR where
  k : Int
  a : Int
  b : Int
def MarkR.cells (r : MarkR) : List Value := [.int .i64 r.k, .int .i64 r.a, .int .i64 r.b]
theorem MarkR.len (r : MarkR) : r.cells.length = 3 := rfl
def MarkR.ok (r : MarkR) : Prop := (Lit.int .i64 r.k).wf = true ∧ (Lit.int .i64 r.a).wf = true ∧ (Lit.int .i64 r.b).wf = true

@[ext] structure RunR where
  a : Int
  c : Int
def RunR.cells (r : RunR) : List Value := [.int .i64 r.a, .int .i64 r.c]
theorem RunR.len (r : RunR) : r.cells.length = 2 := rfl
def RunR.ok (r : RunR) : Prop := (Lit.int .i64 r.a).wf = true ∧ (Lit.int .i64 r.c).wf = true

@[ext] structure SecR where
  c : Int
  h : Int
  n : Int
  s : Int
  d : ByteArray
  x : Bool
  y : Bool
  z : Bool
def SecR.cells (r : SecR) : List Value := [.int .i64 r.c, .int .i64 r.h, .int .i64 r.n, .int .i64 r.s, .string r.d, .bool r.x, .bool r.y, .bool r.z]
theorem SecR.len (r : SecR) : r.cells.length = 8 := rfl
def SecR.ok (r : SecR) : Prop := (Lit.int .i64 r.c).wf = true ∧ (Lit.int .i64 r.h).wf = true ∧ (Lit.int .i64 r.n).wf = true ∧ (Lit.int .i64 r.s).wf = true ∧ r.d.size ≤ maxLen

@[ext] structure FndR where
  c : Int
  h : Int
  n : Int
  s : Int
  d : ByteArray
  t : Int
  l : Bool
  p : Int
def FndR.cells (r : FndR) : List Value := [.int .i64 r.c, .int .i64 r.h, .int .i64 r.n, .int .i64 r.s, .string r.d, .int .i64 r.t, .bool r.l, .int .i64 r.p]
theorem FndR.len (r : FndR) : r.cells.length = 8 := rfl
def FndR.ok (r : FndR) : Prop := (Lit.int .i64 r.c).wf = true ∧ (Lit.int .i64 r.h).wf = true ∧ (Lit.int .i64 r.n).wf = true ∧ (Lit.int .i64 r.s).wf = true ∧ r.d.size ≤ maxLen ∧ (Lit.int .i64 r.t).wf = true ∧ (Lit.int .i64 r.p).wf = true

end Go.Proofs.YtlelgpknkgjaeaaGreatDoor
