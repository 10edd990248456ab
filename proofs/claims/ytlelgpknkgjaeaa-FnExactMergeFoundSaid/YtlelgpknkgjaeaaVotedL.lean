/- A voted sector: a record with a slice of numbers: as an argument that came in, 'szVoted', 'toVoted', 'eqVoted' of the laws. -/
import Derived.Test.YtlelgpknkgjaeaaRises
import Derived.Test.YtlelgpknkgjaeaaRec
import Derived.Lib.Builder
namespace Go.Proofs.Ytlelgpknkgjaeaa
open Go.ChangeShapes Go.WideShapes Go.ChangeAt Go.RowKit
set_option linter.unusedSimpArgs false
set_option linter.unusedVariables false
set_option maxRecDepth 8000

section
variable {H : Type} {enc : TypeId × Value → H} {w : World} {base : Nat} {held : Bool}
theorem open_IntC {spare : Nat → Bool} {m : Nat} {cs : List Value} {y : DataW H × List MemPlace} (h : DataW.trod enc Try.prog w base spare held m 2 cs = some y) : ∃ x : Int, cs = IntC x ∧ (Lit.int .i64 x).wf = true := by
  obtain ⟨b, g, _, wf⟩ := DataW.trod_int Try.underlying2 h
  exact ⟨b, g, wf⟩
theorem byval_Voted {r0 : Reach} {b0 : Nat} {v : Value} {d : DataW H} {p : List MemPlace} (hv : Value.okWide Try.prog w r0 b0 76 v) (h : DataW.Trod enc Try.prog w base (fun _ => true) held 76 v d p) :
    ∃ (c h n s : Int) (d : ByteArray) (t : Int) (x : Bool) (A : Option Addr) (cap : Nat) (l : List Int) (vo : Int), v = .agg #[.int .i64 c, .int .i64 h, .int .i64 n, .int .i64 s, .string d, .int .i64 t, .bool x, .slice A l.length cap, .int .i64 vo] ∧ ArgS w A l.length cap 1 (I64 l) ∧ d.size ≤ maxLen := by
  obtain ⟨cs, rfl, hsz⟩ := okWide_struct Try.underlying76 hv
  obtain ⟨fuel, hf⟩ := h
  obtain ⟨hl, hf⟩ := fields_of Try.underlying76 (by kernel_rfl) (by kernel_rfl) hf
  obtain ⟨v0, y0, n0, e0, t0⟩ := hf 0 _ rfl
  obtain ⟨v1, y1, n1, e1, t1⟩ := hf 1 _ rfl
  obtain ⟨v2, y2, n2, e2, t2⟩ := hf 2 _ rfl
  obtain ⟨v3, y3, n3, e3, t3⟩ := hf 3 _ rfl
  obtain ⟨v4, y4, n4, e4, t4⟩ := hf 4 _ rfl
  obtain ⟨v5, y5, n5, e5, t5⟩ := hf 5 _ rfl
  obtain ⟨v6, y6, n6, e6, t6⟩ := hf 6 _ rfl
  obtain ⟨v7, y7, n7, e7, t7⟩ := hf 7 _ rfl
  obtain ⟨v8, y8, n8, e8, t8⟩ := hf 8 _ rfl
  obtain ⟨b0, g0, _, w0⟩ := DataW.trod_int Try.underlying2 t0
  obtain rfl : v0 = _ := by simpa using g0
  obtain ⟨b1, g1, _, w1⟩ := DataW.trod_int Try.underlying2 t1
  obtain rfl : v1 = _ := by simpa using g1
  obtain ⟨b2, g2, _, w2⟩ := DataW.trod_int Try.underlying2 t2
  obtain rfl : v2 = _ := by simpa using g2
  obtain ⟨b3, g3, _, w3⟩ := DataW.trod_int Try.underlying2 t3
  obtain rfl : v3 = _ := by simpa using g3
  obtain ⟨b4, g4, _, w4⟩ := DataW.trod_string Try.underlying9 t4
  obtain rfl : v4 = _ := by simpa using g4
  obtain ⟨b5, g5, _, w5⟩ := DataW.trod_int Try.underlying2 t5
  obtain rfl : v5 = _ := by simpa using g5
  obtain ⟨b6, g6, _⟩ := DataW.trod_bool Try.underlying4 t6
  obtain rfl : v6 = _ := by simpa using g6
  obtain ⟨A, cap, l, hcs, hA, hok⟩ := open_rows IntC.len Try.underlying24 (by kernel_rfl) (fun _ _ _ h => open_IntC h) t7
  obtain rfl : v7 = _ := by simpa using hcs
  obtain ⟨b8, g8, _, w8⟩ := DataW.trod_int Try.underlying2 t8
  obtain rfl : v8 = _ := by simpa using g8
  rw [ints_flat] at hA
  exact ⟨b0, b1, b2, b3, b4, b5, b6, A, cap, l, b8, congrArg Value.agg (list_of_toArray (list_9 hl e0 e1 e2 e3 e4 e5 e6 e7 e8)), hA, w4⟩
end
theorem laws_szVoted (c h n s : Int) (d : ByteArray) (t : Int) (x : Bool) {A : Option Addr} {cap N : Nat} (vo left : Int) (w : World) (hd : d.size ≤ maxLen) (hN : N ≤ 9223372036854775807) (h0 : 0 ≤ left) (h1 : left ≤ 1048576) :
    Calls Try.prog 49 #[.agg #[.int .i64 c, .int .i64 h, .int .i64 n, .int .i64 s, .string d, .int .i64 t, .bool x, .slice A N cap, .int .i64 vo], .int .i64 left] w fun e w' =>
      (e = .returned (.int .i64 (-1)) ∨ ∃ r : Int, e = .returned (.int .i64 r) ∧ 0 ≤ r ∧ (d.size : Int) ≤ left ∧ (N : Int) ≤ left) ∧ Below w.heap.size w w' := by
  unfold maxLen at hd
  have HB := Hid.in_ (balloc (Below.refl w.heap.size w) (.cells #[.int .i64 c, .int .i64 h, .int .i64 n, .int .i64 s, .string d, .int .i64 t, .bool x, .slice A N cap, .int .i64 vo] 76))
  by_cases hlt : left < d.size
  · go_enter Try.func49, Try.ntmps49
    go_wp2
    go_ret
    exact ⟨.inl rfl, HB.out⟩
  · have HS := Hid.in_ (fun w => laws_szInt64S (A := A) (cap := cap) (n := N) (left - d.size) w hN (by omega) (by omega))
    by_cases hl2 : left - d.size < N
    · rw [szLeft_neg hl2] at HS
      go_enter Try.func49, Try.ntmps49
      go_wp2_with (go_at_call 81; refine (HS.out _).mono ?_; rintro e w' ⟨rfl, rfl⟩)
      go_ret
      exact ⟨.inl rfl, HB.out⟩
    · rw [szLeft_pos (left := left - d.size) (n := N) (by omega)] at HS
      go_enter Try.func49, Try.ntmps49
      go_wp2_with (go_at_call 81; refine (HS.out _).mono ?_; rintro e w' ⟨rfl, rfl⟩)
      go_ret
      exact ⟨.inr ⟨_, rfl, by omega, by omega, by omega⟩, HB.out⟩
theorem alloc_szV (w : World) (o : Obj) : (w.alloc o).heap.size = w.heap.size + 1 := by unfold World.alloc; exact Array.size_push _
theorem own_setCells_below {base : Nat} {e : TypeId} {size : Nat} {v : Value} {n : Nat} {xs : List Value} {g : Nat} (hg : g < base) : ∀ (vs : List Value) (o : Nat) {w : World}, w.ownsRow base e size v n xs → (setCells w g o vs).ownsRow base e size v n xs
  | [], _, _, h => h
  | v :: vs, o, w, h => own_setCells_below hg vs (o + 1) (ownsRow_setCell_below h (a := ⟨g, o, none⟩) hg v)
set_option maxHeartbeats 4000000 in
theorem laws_toVoted (c h n s : Int) (d : ByteArray) (t : Int) (x : Bool) {A : Option Addr} {cap N : Nat} {l : List Int} (vo : Int) (w : World) (hA : ArgS w A N cap 1 (I64 l)) (hl : l.length = N) (hn : N ≤ 1048576) :
    Calls Try.prog 51 #[.agg #[.int .i64 c, .int .i64 h, .int .i64 n, .int .i64 s, .string d, .int .i64 t, .bool x, .slice A N cap, .int .i64 vo]] w fun e w' => ∃ v, e = .returned (.agg #[.int .i64 c, .int .i64 h, .int .i64 n, .int .i64 s, .string d, .int .i64 t, .bool x, v, .int .i64 vo]) ∧ w'.ownsRow w.heap.size 2 1 v N (I64 l) ∧ Below w.heap.size w w' := by
  have HA := Hid.in_ hA
  have HL := Hid.in_ hl
  clear hA hl
  go_enter Try.func51, Try.ntmps51
  go_wp2_with fail
  obtain ⟨x1, hx1⟩ : ∃ q, q = Obj.cells #[.int .i64 c, .int .i64 h, .int .i64 n, .int .i64 s, .string d, .int .i64 t, .bool x, .slice A N cap, .int .i64 vo] 76 := ⟨_, rfl⟩
  obtain ⟨x2, hx2⟩ : ∃ q, q = Obj.cells #[.int .i64 0, .int .i64 0, .int .i64 0, .int .i64 0, .string { data := #[] }, .int .i64 0, .bool false, .slice none 0 0, .int .i64 0] 77 := ⟨_, rfl⟩
  obtain ⟨x3, hx3⟩ : ∃ q, q = Obj.cells #[.int .i64 c, .int .i64 h, .int .i64 n, .int .i64 s, .string d, .int .i64 t, .bool x, .slice none 0 0, .int .i64 0] 77 := ⟨_, rfl⟩
  rw [← hx1, ← hx2, ← hx3]
  have hsz : (((w.alloc x1).alloc x2).alloc x3).heap.size = w.heap.size + 3 := by rw [alloc_szV, alloc_szV, alloc_szV]
  have hB3 : Below w.heap.size w (((w.alloc x1).alloc x2).alloc x3) := balloc (balloc (balloc (Below.refl _ _) _) _) _
  have h3 : (((w.alloc x1).alloc x2).alloc x3).heap[w.heap.size + 1 + 1]? = some x3 := by have := heap_alloc_new ((w.alloc x1).alloc x2) x3; rwa [alloc_szV, alloc_szV] at this
  have h2 : (((w.alloc x1).alloc x2).alloc x3).heap[w.heap.size + 1]? = some x2 := by rw [Below.heap_alloc _ _ _ (by rw [alloc_szV, alloc_szV]; omega)]; have := heap_alloc_new (w.alloc x1) x2; rwa [alloc_szV] at this
  have h1 : (((w.alloc x1).alloc x2).alloc x3).heap[w.heap.size]? = some x1 := by rw [Below.heap_alloc _ _ _ (by rw [alloc_szV, alloc_szV]; omega), Below.heap_alloc _ _ _ (by rw [alloc_szV]; omega)]; exact heap_alloc_new w x1
  generalize (((w.alloc x1).alloc x2).alloc x3) = w3 at *
  refine (laws_toInt64S _ (HA.out.below hB3) HL.out hn).mono ?_
  rintro e w4 ⟨v, rfl, ho, hb⟩
  have h34 : w4.heap[w.heap.size + 1 + 1]? = some x3 := by rw [hb.block _ (by omega)]; exact h3
  have h24 : w4.heap[w.heap.size + 1]? = some x2 := by rw [hb.block _ (by omega)]; exact h2
  have h14 : w4.heap[w.heap.size]? = some x1 := by rw [hb.block _ (by omega)]; exact h1
  subst hx1 hx2 hx3
  have HB := Hid.in_ (bstep hB3 hb)
  have HO := Hid.in_ ho
  have hsv : ∃ A' c', v = .slice A' N c' := by obtain ⟨A', c', h, _⟩ := own_shape ho; exact ⟨A', c', h⟩
  obtain ⟨A', c', rfl⟩ := hsv
  have HZ := Hid.in_ hsz
  clear ho hb hB3 h3 h2 h1 hsz
  have b8 : w4.cell? ⟨w.heap.size, 8, none⟩ = some (.int .i64 vo) := by rw [Lib.cell_of_heap h14]; rfl
  have c0 : w4.cell? ⟨w.heap.size + 1 + 1, 0, none⟩ = some (.int .i64 c) := by rw [Lib.cell_of_heap h34]; rfl
  have c1 : w4.cell? ⟨w.heap.size + 1 + 1, 1, none⟩ = some (.int .i64 h) := by rw [Lib.cell_of_heap h34]; rfl
  have c2 : w4.cell? ⟨w.heap.size + 1 + 1, 2, none⟩ = some (.int .i64 n) := by rw [Lib.cell_of_heap h34]; rfl
  have c3 : w4.cell? ⟨w.heap.size + 1 + 1, 3, none⟩ = some (.int .i64 s) := by rw [Lib.cell_of_heap h34]; rfl
  have c4 : w4.cell? ⟨w.heap.size + 1 + 1, 4, none⟩ = some (.string d) := by rw [Lib.cell_of_heap h34]; rfl
  have c5 : w4.cell? ⟨w.heap.size + 1 + 1, 5, none⟩ = some (.int .i64 t) := by rw [Lib.cell_of_heap h34]; rfl
  have c6 : w4.cell? ⟨w.heap.size + 1 + 1, 6, none⟩ = some (.bool x) := by rw [Lib.cell_of_heap h34]; rfl
  have c7 : w4.cell? ⟨w.heap.size + 1 + 1, 7, none⟩ = some (.slice none 0 0) := by rw [Lib.cell_of_heap h34]; rfl
  have c8 : w4.cell? ⟨w.heap.size + 1 + 1, 8, none⟩ = some (.int .i64 0) := by rw [Lib.cell_of_heap h34]; rfl
  have d0 : w4.cell? ⟨w.heap.size + 1, 0, none⟩ = some (.int .i64 0) := by rw [Lib.cell_of_heap h24]; rfl
  have d1 : w4.cell? ⟨w.heap.size + 1, 1, none⟩ = some (.int .i64 0) := by rw [Lib.cell_of_heap h24]; rfl
  have d2 : w4.cell? ⟨w.heap.size + 1, 2, none⟩ = some (.int .i64 0) := by rw [Lib.cell_of_heap h24]; rfl
  have d3 : w4.cell? ⟨w.heap.size + 1, 3, none⟩ = some (.int .i64 0) := by rw [Lib.cell_of_heap h24]; rfl
  have d4 : w4.cell? ⟨w.heap.size + 1, 4, none⟩ = some (.string { data := #[] }) := by rw [Lib.cell_of_heap h24]; rfl
  have d5 : w4.cell? ⟨w.heap.size + 1, 5, none⟩ = some (.int .i64 0) := by rw [Lib.cell_of_heap h24]; rfl
  have d6 : w4.cell? ⟨w.heap.size + 1, 6, none⟩ = some (.bool false) := by rw [Lib.cell_of_heap h24]; rfl
  have d7 : w4.cell? ⟨w.heap.size + 1, 7, none⟩ = some (.slice none 0 0) := by rw [Lib.cell_of_heap h24]; rfl
  have d8 : w4.cell? ⟨w.heap.size + 1, 8, none⟩ = some (.int .i64 0) := by rw [Lib.cell_of_heap h24]; rfl
  have fc7 : w4.frozen? ⟨w.heap.size + 1 + 1, 7, none⟩ = false := Lib.frozen_of_heap h34 7
  have fc8 : w4.frozen? ⟨w.heap.size + 1 + 1, 8, none⟩ = false := Lib.frozen_of_heap h34 8
  have fd0 : w4.frozen? ⟨w.heap.size + 1, 0, none⟩ = false := Lib.frozen_of_heap h24 0
  have fd1 : w4.frozen? ⟨w.heap.size + 1, 1, none⟩ = false := Lib.frozen_of_heap h24 1
  have fd2 : w4.frozen? ⟨w.heap.size + 1, 2, none⟩ = false := Lib.frozen_of_heap h24 2
  have fd3 : w4.frozen? ⟨w.heap.size + 1, 3, none⟩ = false := Lib.frozen_of_heap h24 3
  have fd4 : w4.frozen? ⟨w.heap.size + 1, 4, none⟩ = false := Lib.frozen_of_heap h24 4
  have fd5 : w4.frozen? ⟨w.heap.size + 1, 5, none⟩ = false := Lib.frozen_of_heap h24 5
  have fd6 : w4.frozen? ⟨w.heap.size + 1, 6, none⟩ = false := Lib.frozen_of_heap h24 6
  have fd7 : w4.frozen? ⟨w.heap.size + 1, 7, none⟩ = false := Lib.frozen_of_heap h24 7
  have fd8 : w4.frozen? ⟨w.heap.size + 1, 8, none⟩ = false := Lib.frozen_of_heap h24 8
  have H24 := Hid.in_ h24
  clear h34 h24 h14
  go_wp2
  have h24 := H24.out
  have hz := HZ.out
  have hF : (((((((((((w4.setCell ⟨w.heap.size + 1 + 1, 7, none⟩ (.slice A' N c')).setCell ⟨w.heap.size + 1 + 1, 8, none⟩ (.int .i64 vo)).setCell ⟨w.heap.size + 1, 0, none⟩ (.int .i64 c)).setCell ⟨w.heap.size + 1, 1, none⟩ (.int .i64 h)).setCell ⟨w.heap.size + 1, 2, none⟩ (.int .i64 n)).setCell ⟨w.heap.size + 1, 3, none⟩ (.int .i64 s)).setCell ⟨w.heap.size + 1, 4, none⟩ (.string d)).setCell ⟨w.heap.size + 1, 5, none⟩ (.int .i64 t)).setCell ⟨w.heap.size + 1, 6, none⟩ (.bool x)).setCell ⟨w.heap.size + 1, 7, none⟩ (.slice A' N c')).setCell ⟨w.heap.size + 1, 8, none⟩ (.int .i64 vo)).heap[w.heap.size + 1]? = some (.cells #[.int .i64 c, .int .i64 h, .int .i64 n, .int .i64 s, .string d, .int .i64 t, .bool x, .slice A' N c', .int .i64 vo] 77 (0, 0)) := by
    simp [World.setCell, Array.getElem?_modify, h24]
  have HO2 := Hid.in_ (own_base (b' := w.heap.size) (own_setCells_below (g := w.heap.size + 1) (by omega) [.int .i64 c, .int .i64 h, .int .i64 n, .int .i64 s, .string d, .int .i64 t, .bool x, .slice A' N c', .int .i64 vo] 0 (own_setCells_below (g := w.heap.size + 1 + 1) (by omega) [.slice A' N c', .int .i64 vo] 7 HO.out)) (by omega))
  have HB2 := Hid.in_ (Below.setCells (g := w.heap.size + 1) (by omega) [.int .i64 c, .int .i64 h, .int .i64 n, .int .i64 s, .string d, .int .i64 t, .bool x, .slice A' N c', .int .i64 vo] 0 (Below.setCells (g := w.heap.size + 1 + 1) (by omega) [.slice A' N c', .int .i64 vo] 7 HB.out))
  change Hid ((((((((((((w4.setCell ⟨w.heap.size + 1 + 1, 7, none⟩ (.slice A' N c')).setCell ⟨w.heap.size + 1 + 1, 8, none⟩ (.int .i64 vo)).setCell ⟨w.heap.size + 1, 0, none⟩ (.int .i64 c)).setCell ⟨w.heap.size + 1, 1, none⟩ (.int .i64 h)).setCell ⟨w.heap.size + 1, 2, none⟩ (.int .i64 n)).setCell ⟨w.heap.size + 1, 3, none⟩ (.int .i64 s)).setCell ⟨w.heap.size + 1, 4, none⟩ (.string d)).setCell ⟨w.heap.size + 1, 5, none⟩ (.int .i64 t)).setCell ⟨w.heap.size + 1, 6, none⟩ (.bool x)).setCell ⟨w.heap.size + 1, 7, none⟩ (.slice A' N c')).setCell ⟨w.heap.size + 1, 8, none⟩ (.int .i64 vo)).ownsRow _ _ _ _ _ _) at HO2
  change Hid (Below _ _ (((((((((((w4.setCell ⟨w.heap.size + 1 + 1, 7, none⟩ (.slice A' N c')).setCell ⟨w.heap.size + 1 + 1, 8, none⟩ (.int .i64 vo)).setCell ⟨w.heap.size + 1, 0, none⟩ (.int .i64 c)).setCell ⟨w.heap.size + 1, 1, none⟩ (.int .i64 h)).setCell ⟨w.heap.size + 1, 2, none⟩ (.int .i64 n)).setCell ⟨w.heap.size + 1, 3, none⟩ (.int .i64 s)).setCell ⟨w.heap.size + 1, 4, none⟩ (.string d)).setCell ⟨w.heap.size + 1, 5, none⟩ (.int .i64 t)).setCell ⟨w.heap.size + 1, 6, none⟩ (.bool x)).setCell ⟨w.heap.size + 1, 7, none⟩ (.slice A' N c')).setCell ⟨w.heap.size + 1, 8, none⟩ (.int .i64 vo))) at HB2
  generalize (((((((((((w4.setCell ⟨w.heap.size + 1 + 1, 7, none⟩ (.slice A' N c')).setCell ⟨w.heap.size + 1 + 1, 8, none⟩ (.int .i64 vo)).setCell ⟨w.heap.size + 1, 0, none⟩ (.int .i64 c)).setCell ⟨w.heap.size + 1, 1, none⟩ (.int .i64 h)).setCell ⟨w.heap.size + 1, 2, none⟩ (.int .i64 n)).setCell ⟨w.heap.size + 1, 3, none⟩ (.int .i64 s)).setCell ⟨w.heap.size + 1, 4, none⟩ (.string d)).setCell ⟨w.heap.size + 1, 5, none⟩ (.int .i64 t)).setCell ⟨w.heap.size + 1, 6, none⟩ (.bool x)).setCell ⟨w.heap.size + 1, 7, none⟩ (.slice A' N c')).setCell ⟨w.heap.size + 1, 8, none⟩ (.int .i64 vo)) = wF at hF HO2 HB2 ⊢
  clear b8 c0 d0 fd0 c1 d1 fd1 c2 d2 fd2 c3 d3 fd3 c4 d4 fd4 c5 d5 fd5 c6 d6 fd6 c7 d7 fd7 c8 d8 fd8 fc7 fc8 H24 h24 HO HB
  have e0 : wF.cell? ⟨w.heap.size + 1, 0, none⟩ = some (.int .i64 c) := by rw [Lib.cell_of_heap hF]; rfl
  have e1 : wF.cell? ⟨w.heap.size + 1, 1, none⟩ = some (.int .i64 h) := by rw [Lib.cell_of_heap hF]; rfl
  have e2 : wF.cell? ⟨w.heap.size + 1, 2, none⟩ = some (.int .i64 n) := by rw [Lib.cell_of_heap hF]; rfl
  have e3 : wF.cell? ⟨w.heap.size + 1, 3, none⟩ = some (.int .i64 s) := by rw [Lib.cell_of_heap hF]; rfl
  have e4 : wF.cell? ⟨w.heap.size + 1, 4, none⟩ = some (.string d) := by rw [Lib.cell_of_heap hF]; rfl
  have e5 : wF.cell? ⟨w.heap.size + 1, 5, none⟩ = some (.int .i64 t) := by rw [Lib.cell_of_heap hF]; rfl
  have e6 : wF.cell? ⟨w.heap.size + 1, 6, none⟩ = some (.bool x) := by rw [Lib.cell_of_heap hF]; rfl
  have e7 : wF.cell? ⟨w.heap.size + 1, 7, none⟩ = some (.slice A' N c') := by rw [Lib.cell_of_heap hF]; rfl
  have e8 : wF.cell? ⟨w.heap.size + 1, 8, none⟩ = some (.int .i64 vo) := by rw [Lib.cell_of_heap hF]; rfl
  clear hF
  refine bodyPost_ret (v := .agg #[.int .i64 c, .int .i64 h, .int .i64 n, .int .i64 s, .string d, .int .i64 t, .bool x, .slice A' N c', .int .i64 vo]) (by simp [results, Try.results51, go_sem, e0, e1, e2, e3, e4, e5, e6, e7, e8]) rfl ?_
  exact ⟨_, rfl, HO2.out, HB2.out⟩
set_option maxHeartbeats 1000000 in
theorem laws_eqVoted (c h n s : Int) (d : ByteArray) (t : Int) (x : Bool) (vo : Int) {v1 v2 : Value} {N b1 b2 : Nat} {l : List Int} (w : World) (h1 : w.ownsRow b1 2 1 v1 N (I64 l)) (h2 : w.ownsRow b2 2 1 v2 N (I64 l)) :
    Calls Try.prog 55 #[.agg #[.int .i64 c, .int .i64 h, .int .i64 n, .int .i64 s, .string d, .int .i64 t, .bool x, v1, .int .i64 vo], .agg #[.int .i64 c, .int .i64 h, .int .i64 n, .int .i64 s, .string d, .int .i64 t, .bool x, v2, .int .i64 vo]] w fun e w' => e = .returned (.bool true) ∧ Below w.heap.size w w' := by
  have H1 := Hid.in_ h1
  have H2 := Hid.in_ h2
  obtain ⟨A1, c1, rfl, _, _, _⟩ := own_shape h1
  obtain ⟨A2, c2, rfl, _, _, _⟩ := own_shape h2
  clear h1 h2
  go_enter Try.func55, Try.ntmps55
  go_wp2_with fail
  have hB := balloc (balloc (Below.refl w.heap.size w) (.cells #[.int .i64 c, .int .i64 h, .int .i64 n, .int .i64 s, .string d, .int .i64 t, .bool x, .slice A1 N c1, .int .i64 vo] 77)) (.cells #[.int .i64 c, .int .i64 h, .int .i64 n, .int .i64 s, .string d, .int .i64 t, .bool x, .slice A2 N c2, .int .i64 vo] 77)
  have hc1 : (((w.alloc (.cells #[.int .i64 c, .int .i64 h, .int .i64 n, .int .i64 s, .string d, .int .i64 t, .bool x, .slice A1 N c1, .int .i64 vo] 77)).alloc (.cells #[.int .i64 c, .int .i64 h, .int .i64 n, .int .i64 s, .string d, .int .i64 t, .bool x, .slice A2 N c2, .int .i64 vo] 77))).cell? ⟨w.heap.size, 8, none⟩ = some (.int .i64 vo) := by simp [go_sem]
  have hc2 : (((w.alloc (.cells #[.int .i64 c, .int .i64 h, .int .i64 n, .int .i64 s, .string d, .int .i64 t, .bool x, .slice A1 N c1, .int .i64 vo] 77)).alloc (.cells #[.int .i64 c, .int .i64 h, .int .i64 n, .int .i64 s, .string d, .int .i64 t, .bool x, .slice A2 N c2, .int .i64 vo] 77))).cell? ⟨w.heap.size + 1, 8, none⟩ = some (.int .i64 vo) := by simp [go_sem]
  refine (laws_eqInt64S _ (ostep hB H1.out) (ostep hB H2.out)).mono ?_
  rintro e w1 ⟨rfl, hb1⟩
  have g1 := cstep hb1 hc1
  have g2 := cstep hb1 hc2
  have HB := Hid.in_ (bstep hB hb1)
  clear hb1 hB hc1 hc2
  go_wp2
  go_ret
  exact ⟨rfl, HB.out⟩
end Go.Proofs.Ytlelgpknkgjaeaa
