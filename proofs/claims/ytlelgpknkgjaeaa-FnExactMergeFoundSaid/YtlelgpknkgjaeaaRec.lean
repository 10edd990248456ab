/- Records of one-cell fields: as Lean structures, as cells, and as arguments that came in. -/
import Derived.Test.YtlelgpknkgjaeaaMem
namespace Go.Proofs.Ytlelgpknkgjaeaa
open Go.ChangeShapes Go.WideShapes Go.ChangeAt Go.RowKit
set_option linter.unusedVariables false
set_option maxRecDepth 4000

theorem list_2 {α : Type} {cs : List α} {a0 a1 : α} (h : cs.length = 2) (e0 : cs[0]? = some a0) (e1 : cs[1]? = some a1) : cs = [a0, a1] := by
  match cs, h with
  | [x0, x1], _ => simp at e0 e1; simp [e0, e1]
theorem list_3 {α : Type} {cs : List α} {a0 a1 a2 : α} (h : cs.length = 3) (e0 : cs[0]? = some a0) (e1 : cs[1]? = some a1) (e2 : cs[2]? = some a2) : cs = [a0, a1, a2] := by
  match cs, h with
  | [x0, x1, x2], _ => simp at e0 e1 e2; simp [e0, e1, e2]
theorem list_8 {α : Type} {cs : List α} {a0 a1 a2 a3 a4 a5 a6 a7 : α} (h : cs.length = 8) (e0 : cs[0]? = some a0) (e1 : cs[1]? = some a1) (e2 : cs[2]? = some a2) (e3 : cs[3]? = some a3) (e4 : cs[4]? = some a4) (e5 : cs[5]? = some a5) (e6 : cs[6]? = some a6) (e7 : cs[7]? = some a7) : cs = [a0, a1, a2, a3, a4, a5, a6, a7] := by
  match cs, h with
  | [x0, x1, x2, x3, x4, x5, x6, x7], _ => simp at e0 e1 e2 e3 e4 e5 e6 e7; simp [e0, e1, e2, e3, e4, e5, e6, e7]
theorem list_9 {α : Type} {cs : List α} {a0 a1 a2 a3 a4 a5 a6 a7 a8 : α} (h : cs.length = 9) (e0 : cs[0]? = some a0) (e1 : cs[1]? = some a1) (e2 : cs[2]? = some a2) (e3 : cs[3]? = some a3) (e4 : cs[4]? = some a4) (e5 : cs[5]? = some a5) (e6 : cs[6]? = some a6) (e7 : cs[7]? = some a7) (e8 : cs[8]? = some a8) : cs = [a0, a1, a2, a3, a4, a5, a6, a7, a8] := by
  match cs, h with
  | [x0, x1, x2, x3, x4, x5, x6, x7, x8], _ => simp at e0 e1 e2 e3 e4 e5 e6 e7 e8; simp [e0, e1, e2, e3, e4, e5, e6, e7, e8]
theorem list_of_toArray {cs : Array Value} {l : List Value} (h : cs.toList = l) : cs = l.toArray := by rw [← h]

@[ext] structure FeatR where
  k : Int
  s : Int
  v : Int
def FeatR.cells (r : FeatR) : List Value := [.int .i64 r.k, .int .i64 r.s, .int .i64 r.v]
theorem FeatR.len (r : FeatR) : r.cells.length = 3 := rfl
def FeatR.ok (r : FeatR) : Prop := (Lit.int .i64 r.k).wf = true ∧ (Lit.int .i64 r.s).wf = true ∧ (Lit.int .i64 r.v).wf = true

@[ext] structure MarkR where
  k : Int
  a : Int
  b : Int
def MarkR.cells (r : MarkR) : List Value := [.int .i64 r.k, .int .i64 r.a, .int .i64 r.b]
theorem MarkR.len (r : MarkR) : r.cells.length = 3 := rfl
def MarkR.ok (r : MarkR) : Prop := (Lit.int .i64 r.k).wf = true ∧ (Lit.int .i64 r.a).wf = true ∧ (Lit.int .i64 r.b).wf = true

@[ext] structure RunR where
  a : Int
  c : Int
def RunR.cells (r : RunR) : List Value := [.int .i64 r.a, .int .i64 r.c]
theorem RunR.len (r : RunR) : r.cells.length = 2 := rfl
def RunR.ok (r : RunR) : Prop := (Lit.int .i64 r.a).wf = true ∧ (Lit.int .i64 r.c).wf = true

@[ext] structure SecR where
  c : Int
  h : Int
  n : Int
  s : Int
  d : ByteArray
  x : Bool
  y : Bool
  z : Bool
def SecR.cells (r : SecR) : List Value := [.int .i64 r.c, .int .i64 r.h, .int .i64 r.n, .int .i64 r.s, .string r.d, .bool r.x, .bool r.y, .bool r.z]
theorem SecR.len (r : SecR) : r.cells.length = 8 := rfl
def SecR.ok (r : SecR) : Prop := (Lit.int .i64 r.c).wf = true ∧ (Lit.int .i64 r.h).wf = true ∧ (Lit.int .i64 r.n).wf = true ∧ (Lit.int .i64 r.s).wf = true ∧ r.d.size ≤ maxLen
section
variable {H : Type} {enc : TypeId × Value → H} {w : World} {base : Nat} {spare : Nat → Bool} {held : Bool}
theorem open_SecR {m : Nat} {cs : List Value} {y : DataW H × List MemPlace} (h : DataW.trod enc Try.prog w base spare held m 113 cs = some y) : ∃ r : SecR, cs = r.cells ∧ r.ok := by
  obtain ⟨hl, hf⟩ := fields_of Try.underlying113 (by kernel_rfl) (by kernel_rfl) h
  obtain ⟨v0, y0, n0, e0, t0⟩ := hf 0 _ rfl
  obtain ⟨v1, y1, n1, e1, t1⟩ := hf 1 _ rfl
  obtain ⟨v2, y2, n2, e2, t2⟩ := hf 2 _ rfl
  obtain ⟨v3, y3, n3, e3, t3⟩ := hf 3 _ rfl
  obtain ⟨v4, y4, n4, e4, t4⟩ := hf 4 _ rfl
  obtain ⟨v5, y5, n5, e5, t5⟩ := hf 5 _ rfl
  obtain ⟨v6, y6, n6, e6, t6⟩ := hf 6 _ rfl
  obtain ⟨v7, y7, n7, e7, t7⟩ := hf 7 _ rfl
  obtain ⟨b0, g0, _, w0⟩ := DataW.trod_int Try.underlying2 t0
  obtain rfl : v0 = _ := by simpa using g0
  obtain ⟨b1, g1, _, w1⟩ := DataW.trod_int Try.underlying2 t1
  obtain rfl : v1 = _ := by simpa using g1
  obtain ⟨b2, g2, _, w2⟩ := DataW.trod_int Try.underlying2 t2
  obtain rfl : v2 = _ := by simpa using g2
  obtain ⟨b3, g3, _, w3⟩ := DataW.trod_int Try.underlying2 t3
  obtain rfl : v3 = _ := by simpa using g3
  obtain ⟨b4, g4, _, w4⟩ := DataW.trod_string Try.underlying9 t4
  obtain rfl : v4 = _ := by simpa using g4
  obtain ⟨b5, g5, _⟩ := DataW.trod_bool Try.underlying4 t5
  obtain rfl : v5 = _ := by simpa using g5
  obtain ⟨b6, g6, _⟩ := DataW.trod_bool Try.underlying4 t6
  obtain rfl : v6 = _ := by simpa using g6
  obtain ⟨b7, g7, _⟩ := DataW.trod_bool Try.underlying4 t7
  obtain rfl : v7 = _ := by simpa using g7
  exact ⟨⟨b0, b1, b2, b3, b4, b5, b6, b7⟩, list_8 hl e0 e1 e2 e3 e4 e5 e6 e7, w0, w1, w2, w3, w4⟩
theorem byval_SecR {r0 : Reach} {b0 : Nat} {v : Value} {d : DataW H} {p : List MemPlace} (hv : Value.okWide Try.prog w r0 b0 113 v) (h : DataW.Trod enc Try.prog w base spare held 113 v d p) : ∃ r : SecR, v = .agg r.cells.toArray ∧ r.ok := by
  obtain ⟨cs, rfl, hsz⟩ := okWide_struct Try.underlying113 hv
  obtain ⟨fuel, hf⟩ := h
  obtain ⟨r, hr, hok⟩ := open_SecR hf
  exact ⟨r, congrArg Value.agg (list_of_toArray hr), hok⟩
end
section
variable {H : Type} {enc : TypeId × Value → H} {w : World} {base : Nat} {held : Bool}
theorem slice_SecR {r0 : Reach} {b0 : Nat} {v : Value} {d : DataW H} {p : List MemPlace} (hv : Value.okWide Try.prog w r0 b0 38 v) (h : DataW.Trod enc Try.prog w base (fun _ => true) held 38 v d p) :
    ∃ (A : Option Addr) (cap : Nat) (l : List SecR), v = .slice A l.length cap ∧ ArgS w A l.length cap 8 (l.flatMap SecR.cells) ∧ ∀ r ∈ l, r.ok := by
  obtain ⟨A, n, cap, rfl⟩ := okWide_slice Try.underlying38 hv
  obtain ⟨fuel, hf⟩ := h
  obtain ⟨A', cap', l, hcs, hA, hok⟩ := open_rows SecR.len Try.underlying38 (by kernel_rfl) (fun _ _ _ h => open_SecR h) hf
  obtain ⟨rfl, rfl, rfl⟩ : A = A' ∧ n = l.length ∧ cap = cap' := by simpa [Value.cells] using hcs
  exact ⟨_, _, l, rfl, hA, hok⟩
end

@[ext] structure FndR where
  c : Int
  h : Int
  n : Int
  s : Int
  d : ByteArray
  t : Int
  l : Bool
  p : Int
def FndR.cells (r : FndR) : List Value := [.int .i64 r.c, .int .i64 r.h, .int .i64 r.n, .int .i64 r.s, .string r.d, .int .i64 r.t, .bool r.l, .int .i64 r.p]
theorem FndR.len (r : FndR) : r.cells.length = 8 := rfl
def FndR.ok (r : FndR) : Prop := (Lit.int .i64 r.c).wf = true ∧ (Lit.int .i64 r.h).wf = true ∧ (Lit.int .i64 r.n).wf = true ∧ (Lit.int .i64 r.s).wf = true ∧ r.d.size ≤ maxLen ∧ (Lit.int .i64 r.t).wf = true ∧ (Lit.int .i64 r.p).wf = true
section
variable {H : Type} {enc : TypeId × Value → H} {w : World} {base : Nat} {spare : Nat → Bool} {held : Bool}
theorem open_FndR {m : Nat} {cs : List Value} {y : DataW H × List MemPlace} (h : DataW.trod enc Try.prog w base spare held m 125 cs = some y) : ∃ r : FndR, cs = r.cells ∧ r.ok := by
  obtain ⟨hl, hf⟩ := fields_of Try.underlying125 (by kernel_rfl) (by kernel_rfl) h
  obtain ⟨v0, y0, n0, e0, t0⟩ := hf 0 _ rfl
  obtain ⟨v1, y1, n1, e1, t1⟩ := hf 1 _ rfl
  obtain ⟨v2, y2, n2, e2, t2⟩ := hf 2 _ rfl
  obtain ⟨v3, y3, n3, e3, t3⟩ := hf 3 _ rfl
  obtain ⟨v4, y4, n4, e4, t4⟩ := hf 4 _ rfl
  obtain ⟨v5, y5, n5, e5, t5⟩ := hf 5 _ rfl
  obtain ⟨v6, y6, n6, e6, t6⟩ := hf 6 _ rfl
  obtain ⟨v7, y7, n7, e7, t7⟩ := hf 7 _ rfl
  obtain ⟨b0, g0, _, w0⟩ := DataW.trod_int Try.underlying2 t0
  obtain rfl : v0 = _ := by simpa using g0
  obtain ⟨b1, g1, _, w1⟩ := DataW.trod_int Try.underlying2 t1
  obtain rfl : v1 = _ := by simpa using g1
  obtain ⟨b2, g2, _, w2⟩ := DataW.trod_int Try.underlying2 t2
  obtain rfl : v2 = _ := by simpa using g2
  obtain ⟨b3, g3, _, w3⟩ := DataW.trod_int Try.underlying2 t3
  obtain rfl : v3 = _ := by simpa using g3
  obtain ⟨b4, g4, _, w4⟩ := DataW.trod_string Try.underlying9 t4
  obtain rfl : v4 = _ := by simpa using g4
  obtain ⟨b5, g5, _, w5⟩ := DataW.trod_int Try.underlying2 t5
  obtain rfl : v5 = _ := by simpa using g5
  obtain ⟨b6, g6, _⟩ := DataW.trod_bool Try.underlying4 t6
  obtain rfl : v6 = _ := by simpa using g6
  obtain ⟨b7, g7, _, w7⟩ := DataW.trod_int Try.underlying2 t7
  obtain rfl : v7 = _ := by simpa using g7
  exact ⟨⟨b0, b1, b2, b3, b4, b5, b6, b7⟩, list_8 hl e0 e1 e2 e3 e4 e5 e6 e7, w0, w1, w2, w3, w4, w5, w7⟩
theorem byval_FndR {r0 : Reach} {b0 : Nat} {v : Value} {d : DataW H} {p : List MemPlace} (hv : Value.okWide Try.prog w r0 b0 125 v) (h : DataW.Trod enc Try.prog w base spare held 125 v d p) : ∃ r : FndR, v = .agg r.cells.toArray ∧ r.ok := by
  obtain ⟨cs, rfl, hsz⟩ := okWide_struct Try.underlying125 hv
  obtain ⟨fuel, hf⟩ := h
  obtain ⟨r, hr, hok⟩ := open_FndR hf
  exact ⟨r, congrArg Value.agg (list_of_toArray hr), hok⟩
end
section
variable {H : Type} {enc : TypeId × Value → H} {w : World} {base : Nat} {held : Bool}
theorem slice_FndR {r0 : Reach} {b0 : Nat} {v : Value} {d : DataW H} {p : List MemPlace} (hv : Value.okWide Try.prog w r0 b0 99 v) (h : DataW.Trod enc Try.prog w base (fun _ => true) held 99 v d p) :
    ∃ (A : Option Addr) (cap : Nat) (l : List FndR), v = .slice A l.length cap ∧ ArgS w A l.length cap 8 (l.flatMap FndR.cells) ∧ ∀ r ∈ l, r.ok := by
  obtain ⟨A, n, cap, rfl⟩ := okWide_slice Try.underlying99 hv
  obtain ⟨fuel, hf⟩ := h
  obtain ⟨A', cap', l, hcs, hA, hok⟩ := open_rows FndR.len Try.underlying99 (by kernel_rfl) (fun _ _ _ h => open_FndR h) hf
  obtain ⟨rfl, rfl, rfl⟩ : A = A' ∧ n = l.length ∧ cap = cap' := by simpa [Value.cells] using hcs
  exact ⟨_, _, l, rfl, hA, hok⟩
end

end Go.Proofs.Ytlelgpknkgjaeaa
