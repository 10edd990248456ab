/- 'SpecFeatures' of the program and of the reference (the calls themselves), and the marks of tracks. -/
import Derived.Test.YtlelgpknkgjaeaaSpecF
namespace Go.Proofs.Ytlelgpknkgjaeaa
open Go.ChangeShapes Go.WideShapes Go.ChangeAt Go.RowKit
set_option linter.unusedVariables false
set_option linter.unusedSimpArgs false
set_option maxRecDepth 4000

theorem laws_markTrackSpec (f g : Int) {v : Value} {n b : Nat} {l : List SecR} (m : Nat) (w : World) (h : w.ownsRow b 85 8 v n (l.flatMap SecR.cells)) (hm : 0 < m) (hm2 : m ≤ 16777216) (hn2 : n ≤ 1048576) :
    Calls Try.prog 27 #[.agg #[.int .i64 f, .int .i64 g, v], .int .i64 m] w fun e w' => e = .returned (.int .i64 ((m + 8 * n : Nat) : Int)) ∧ w'.ownsRow b 85 8 v n ((SecR.marks m n).flatMap SecR.cells) ∧ w.grownBy w' v.ownBlock := by
  have hal := balloc (Below.refl w.heap.size w) (.cells #[.int .i64 f, .int .i64 g, v] 44)
  have HM := Hid.in_ (laws_markSectorSpecS m (w.alloc (.cells #[.int .i64 f, .int .i64 g, v] 44)) (ostep hal h) hm hm2 hn2)
  obtain ⟨A, c, rfl, _, _, _⟩ := own_shape h
  clear h
  go_enter Try.func27, Try.ntmps27
  go_wp2_with fail
  refine HM.out.mono ?_
  rintro e w2 ⟨rfl, ho, hg⟩
  have HO := Hid.in_ (And.intro ho ((grown_below hal _).trans hg))
  clear ho hg
  go_wp2
  go_ret
  exact ⟨rfl, HO.out⟩
theorem laws_heldTrackSpec (f g : Int) {v : Value} {n b : Nat} (m : Nat) (w : World) (h : w.ownsRow b 85 8 v n ((SecR.marks m n).flatMap SecR.cells)) (hm : 0 < m) (hm2 : m ≤ 16777216) (hn2 : n ≤ 1048576) :
    Calls Try.prog 28 #[.agg #[.int .i64 f, .int .i64 g, v], .int .i64 m] w fun e w' => e = .returned (.int .i64 ((m + 8 * n : Nat) : Int)) ∧ Below w.heap.size w w' := by
  have hal := balloc (Below.refl w.heap.size w) (.cells #[.int .i64 f, .int .i64 g, v] 44)
  have HM := Hid.in_ (laws_heldSectorSpecS m (w.alloc (.cells #[.int .i64 f, .int .i64 g, v] 44)) (ostep hal h) hm hm2 hn2)
  have HB := Hid.in_ hal
  obtain ⟨A, c, rfl, _, _, _⟩ := own_shape h
  have hne : ¬ (((m + 8 * n : Nat) : Int) < 0) := by omega
  clear h hal
  go_enter Try.func28, Try.ntmps28
  go_wp2_with fail
  refine HM.out.mono ?_
  rintro e w2 ⟨rfl, hb⟩
  have HB2 := Hid.in_ (bstep HB.out hb)
  clear hb
  go_wp2
  go_ret
  exact ⟨rfl, HB2.out⟩
end Go.Proofs.Ytlelgpknkgjaeaa
