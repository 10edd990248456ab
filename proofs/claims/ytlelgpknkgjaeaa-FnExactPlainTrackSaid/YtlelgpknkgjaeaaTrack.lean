/- A track as it is described: a record that holds a slice of sectors: 'szTrackSpec', 'toTrackSpec', 'eqTrackSpec', 'SameTrackSpec' of the program and of the reference. -/
import Derived.Test.YtlelgpknkgjaeaaRecF
import Derived.Test.YtlelgpknkgjaeaaSame
import Derived.Lib.Builder
namespace Go.Proofs.Ytlelgpknkgjaeaa
open Go.ChangeShapes Go.WideShapes Go.ChangeAt Go.RowKit
set_option linter.unusedVariables false
set_option linter.unusedSimpArgs false
set_option maxRecDepth 4000

theorem alloc_sz (w : World) (o : Obj) : (w.alloc o).heap.size = w.heap.size + 1 := by unfold World.alloc; exact Array.size_push _
def TrkAt (w : World) (b : Nat) (f g : Int) (v : Value) : Prop := w.cell? ⟨b, 0, none⟩ = some (.int .i64 f) ∧ w.cell? ⟨b, 1, none⟩ = some (.int .i64 g) ∧ w.cell? ⟨b, 2, none⟩ = some v
theorem TrkAt.step {w w' : World} {b : Nat} {f g : Int} {v : Value} (h : TrkAt w b f g v) (k : Below w.heap.size w w') : TrkAt w' b f g v := ⟨cstep k h.1, cstep k h.2.1, cstep k h.2.2⟩
theorem TrkAt.fresh {t : TypeId} {f g : Int} {v : Value} (w : World) : TrkAt (w.alloc (.cells #[.int .i64 f, .int .i64 g, v] t)) w.heap.size f g v := by
  have p := heap_alloc_new w (.cells #[.int .i64 f, .int .i64 g, v] t)
  exact ⟨by rw [Lib.cell_of_heap p]; rfl, by rw [Lib.cell_of_heap p]; rfl, by rw [Lib.cell_of_heap p]; rfl⟩
theorem laws_szTrackSpec (f g : Int) {A : Option Addr} {cap n : Nat} {l : List SecR} (left : Int) (w : World) (hA : ArgS w A n cap 8 (l.flatMap SecR.cells)) (hl : l.length = n) (hk : ∀ r ∈ l, r.ok) (h0 : 0 ≤ left) (h1 : left ≤ 1048576) :
    Calls Try.prog 22 #[.agg #[.int .i64 f, .int .i64 g, .slice A n cap], .int .i64 left] w fun e w' => (e = .returned (.int .i64 (-1)) ∨ ∃ r : Int, e = .returned (.int .i64 r) ∧ 0 ≤ r ∧ r ≤ left - n ∧ ∀ x ∈ l, (x.d.size : Int) ≤ left) ∧ Below w.heap.size w w' := by
  have HA := Hid.in_ hA
  have HL := Hid.in_ hl
  have HK := Hid.in_ hk
  have HZ := Hid.in_ h0
  have HY := Hid.in_ h1
  clear hA hl hk h0 h1
  go_enter Try.func22, Try.ntmps22
  go_wp2_with fail
  refine (laws_szSectorSpecS left _ (HA.out.below (balloc (Below.refl _ _) _)) HL.out HK.out HZ.out HY.out).mono ?_
  rintro e w1 ⟨rfl | ⟨r, rfl, hr0, hr1, hr⟩, hb1⟩
  · have HB := Hid.in_ (bstep (balloc (Below.refl w.heap.size w) _) hb1)
    go_wp2
    go_ret
    exact ⟨.inl rfl, HB.out⟩
  · have HB := Hid.in_ (bstep (balloc (Below.refl w.heap.size w) _) hb1)
    have HR := Hid.in_ hr
    clear hr hb1
    go_wp2
    go_ret
    exact ⟨.inr ⟨r, rfl, hr0, hr1, HR.out⟩, HB.out⟩
set_option maxHeartbeats 1000000 in
theorem laws_toTrackSpec (f g : Int) {A : Option Addr} {cap n : Nat} {l : List SecR} (w : World) (hA : ArgS w A n cap 8 (l.flatMap SecR.cells)) (hl : l.length = n) (hn : n ≤ 1048576) :
    Calls Try.prog 24 #[.agg #[.int .i64 f, .int .i64 g, .slice A n cap]] w fun e w' => ∃ v, e = .returned (.agg #[.int .i64 f, .int .i64 g, v]) ∧ w'.ownsRow w.heap.size 85 8 v n (l.flatMap SecR.cells) ∧ Below w.heap.size w w' := by
  have HA := Hid.in_ hA
  have HL := Hid.in_ hl
  clear hA hl
  go_enter Try.func24, Try.ntmps24
  go_wp2_with fail
  obtain ⟨x1, hx1⟩ : ∃ x, x = Obj.cells #[Value.int IntKind.i64 f, Value.int IntKind.i64 g, Value.slice A n cap] 40 := ⟨_, rfl⟩
  obtain ⟨x2, hx2⟩ : ∃ x, x = Obj.cells #[Value.int IntKind.i64 0, Value.int IntKind.i64 0, Value.slice none 0 0] 44 := ⟨_, rfl⟩
  obtain ⟨x3, hx3⟩ : ∃ x, x = Obj.cells #[Value.int IntKind.i64 f, Value.int IntKind.i64 g, Value.slice none 0 0] 44 := ⟨_, rfl⟩
  rw [← hx1, ← hx2, ← hx3]
  have hsz : (((w.alloc x1).alloc x2).alloc x3).heap.size = w.heap.size + 3 := by rw [alloc_sz, alloc_sz, alloc_sz]
  have hB3 : Below w.heap.size w (((w.alloc x1).alloc x2).alloc x3) := balloc (balloc (balloc (Below.refl _ _) _) _) _
  have h3 : (((w.alloc x1).alloc x2).alloc x3).heap[w.heap.size + 1 + 1]? = some x3 := by have := heap_alloc_new ((w.alloc x1).alloc x2) x3; rwa [alloc_sz, alloc_sz] at this
  have h2 : (((w.alloc x1).alloc x2).alloc x3).heap[w.heap.size + 1]? = some x2 := by rw [Below.heap_alloc _ _ _ (by rw [alloc_sz, alloc_sz]; omega)]; have := heap_alloc_new (w.alloc x1) x2; rwa [alloc_sz] at this
  generalize (((w.alloc x1).alloc x2).alloc x3) = w3 at *
  refine (laws_toSectorSpecS _ (HA.out.below hB3) HL.out hn).mono ?_
  rintro e w4 ⟨v, rfl, ho, hb⟩
  have h34 : w4.heap[w.heap.size + 1 + 1]? = some x3 := by rw [hb.block _ (by omega)]; exact h3
  have h24 : w4.heap[w.heap.size + 1]? = some x2 := by rw [hb.block _ (by omega)]; exact h2
  subst hx1 hx2 hx3
  have HB := Hid.in_ (bstep hB3 hb)
  have HO := Hid.in_ ho
  have hsv : ∃ A' c', v = .slice A' n c' := by obtain ⟨A', c', h, _⟩ := own_shape ho; exact ⟨A', c', h⟩
  obtain ⟨A', c', rfl⟩ := hsv
  have HZ := Hid.in_ hsz
  clear ho hb hB3 h3 h2 hsz
  have c0 : w4.cell? ⟨w.heap.size + 1 + 1, 0, none⟩ = some (.int .i64 f) := by rw [Lib.cell_of_heap h34]; rfl
  have c1 : w4.cell? ⟨w.heap.size + 1 + 1, 1, none⟩ = some (.int .i64 g) := by rw [Lib.cell_of_heap h34]; rfl
  have c2 : w4.cell? ⟨w.heap.size + 1 + 1, 2, none⟩ = some (.slice none 0 0) := by rw [Lib.cell_of_heap h34]; rfl
  have d0 : w4.cell? ⟨w.heap.size + 1, 0, none⟩ = some (.int .i64 0) := by rw [Lib.cell_of_heap h24]; rfl
  have d1 : w4.cell? ⟨w.heap.size + 1, 1, none⟩ = some (.int .i64 0) := by rw [Lib.cell_of_heap h24]; rfl
  have d2 : w4.cell? ⟨w.heap.size + 1, 2, none⟩ = some (.slice none 0 0) := by rw [Lib.cell_of_heap h24]; rfl
  have fc2 : w4.frozen? ⟨w.heap.size + 1 + 1, 2, none⟩ = false := Lib.frozen_of_heap h34 2
  have fd0 : w4.frozen? ⟨w.heap.size + 1, 0, none⟩ = false := Lib.frozen_of_heap h24 0
  have fd1 : w4.frozen? ⟨w.heap.size + 1, 1, none⟩ = false := Lib.frozen_of_heap h24 1
  have fd2 : w4.frozen? ⟨w.heap.size + 1, 2, none⟩ = false := Lib.frozen_of_heap h24 2
  have H24 := Hid.in_ h24
  clear h34 h24
  go_wp2
  have h24 := H24.out
  have hz := HZ.out
  have hF : ((((w4.setCell ⟨w.heap.size + 1 + 1, 2, none⟩ (.slice A' n c')).setCell ⟨w.heap.size + 1, 0, none⟩ (.int .i64 f)).setCell ⟨w.heap.size + 1, 1, none⟩ (.int .i64 g)).setCell ⟨w.heap.size + 1, 2, none⟩ (.slice A' n c')).heap[w.heap.size + 1]? = some (.cells #[.int .i64 f, .int .i64 g, .slice A' n c'] 44 (0, 0)) := by
    simp [World.setCell, Array.getElem?_modify, h24]
  have HO2 := own_base (b' := w.heap.size) (ownsRow_setCell_below (ownsRow_setCell_below (ownsRow_setCell_below (ownsRow_setCell_below HO.out (a := ⟨w.heap.size + 1 + 1, 2, none⟩) (by show w.heap.size + 1 + 1 < _; omega) (.slice A' n c')) (a := ⟨w.heap.size + 1, 0, none⟩) (by show w.heap.size + 1 < _; omega) (.int .i64 f)) (a := ⟨w.heap.size + 1, 1, none⟩) (by show w.heap.size + 1 < _; omega) (.int .i64 g)) (a := ⟨w.heap.size + 1, 2, none⟩) (by show w.heap.size + 1 < _; omega) (.slice A' n c')) (by omega)
  have HB2 := (((HB.out.setCell (p := ⟨w.heap.size + 1 + 1, 2, none⟩) (by show _ ≤ w.heap.size + 1 + 1; omega) (.slice A' n c')).setCell (p := ⟨w.heap.size + 1, 0, none⟩) (by show _ ≤ w.heap.size + 1; omega) (.int .i64 f)).setCell (p := ⟨w.heap.size + 1, 1, none⟩) (by show _ ≤ w.heap.size + 1; omega) (.int .i64 g)).setCell (p := ⟨w.heap.size + 1, 2, none⟩) (by show _ ≤ w.heap.size + 1; omega) (.slice A' n c')
  generalize ((((w4.setCell ⟨w.heap.size + 1 + 1, 2, none⟩ (.slice A' n c')).setCell ⟨w.heap.size + 1, 0, none⟩ (.int .i64 f)).setCell ⟨w.heap.size + 1, 1, none⟩ (.int .i64 g)).setCell ⟨w.heap.size + 1, 2, none⟩ (.slice A' n c')) = wF at hF HO2 HB2 ⊢
  clear c0 c1 c2 d0 d1 d2 fc2 fd0 fd1 fd2 H24 h24 HO HB
  have HO2 := Hid.in_ HO2
  have HB2 := Hid.in_ HB2
  have e0 : wF.cell? ⟨w.heap.size + 1, 0, none⟩ = some (.int .i64 f) := by rw [Lib.cell_of_heap hF]; rfl
  have e1 : wF.cell? ⟨w.heap.size + 1, 1, none⟩ = some (.int .i64 g) := by rw [Lib.cell_of_heap hF]; rfl
  have e2 : wF.cell? ⟨w.heap.size + 1, 2, none⟩ = some (.slice A' n c') := by rw [Lib.cell_of_heap hF]; rfl
  clear hF
  refine bodyPost_ret (v := .agg #[.int .i64 f, .int .i64 g, .slice A' n c']) (by simp [results, Try.results24, go_sem, e0, e1, e2]) rfl ?_
  exact ⟨_, rfl, HO2.out, HB2.out⟩
theorem laws_eqTrackSpec (f g : Int) {v1 v2 : Value} {n b1 b2 : Nat} {l : List SecR} (w : World) (h1 : w.ownsRow b1 85 8 v1 n (l.flatMap SecR.cells)) (h2 : w.ownsRow b2 85 8 v2 n (l.flatMap SecR.cells)) :
    Calls Try.prog 26 #[.agg #[.int .i64 f, .int .i64 g, v1], .agg #[.int .i64 f, .int .i64 g, v2]] w fun e w' => e = .returned (.bool true) ∧ Below w.heap.size w w' := by
  have H1 := Hid.in_ h1
  have H2 := Hid.in_ h2
  obtain ⟨A1, c1, rfl, _, _, _⟩ := own_shape h1
  obtain ⟨A2, c2, rfl, _, _, _⟩ := own_shape h2
  clear h1 h2
  go_enter Try.func26, Try.ntmps26
  go_wp2_with fail
  have hB := balloc (balloc (Below.refl w.heap.size w) (.cells #[.int .i64 f, .int .i64 g, .slice A1 n c1] 44)) (.cells #[.int .i64 f, .int .i64 g, .slice A2 n c2] 44)
  refine (laws_eqSectorSpecS _ (ostep hB H1.out) (ostep hB H2.out)).mono ?_
  rintro e w1 ⟨rfl, hb1⟩
  have HB := Hid.in_ (bstep hB hb1)
  clear hb1 hB
  go_wp2
  go_ret
  exact ⟨rfl, HB.out⟩
def trackSame (f1 g1 : Int) (l1 : List SecR) (f2 g2 : Int) (l2 : List SecR) : Bool := (f1 == f2) && ((g1 == g2) && listSame SecR.same l1 l2)
end Go.Proofs.Ytlelgpknkgjaeaa
