/- 'LongFeature' of the program and of the reference. -/
import Derived.Test.YtfmlobfgkinngaaDoorValid
import Derived.Test.YtfmlobfgkinngaaDoorRec1
import Derived.Laws.ResultCell
namespace Go.Proofs.YtfmlobfgkinngaaDoor
open Go.ChangeShapes Go.WideShapes Go.ChangeAt Go.RowKit
set_option linter.unusedSimpArgs false
set_option linter.unusedVariables false
set_option maxRecDepth 4000

def longOk (s : ByteArray) (n : Int) : Bool := validCells s && (inB n 1 8000 && decide (n < (s.size : Int)))
def longK (s : ByteArray) (n : Int) : Int := if longOk s n = true then 8 else 0
def longV (s : ByteArray) (n : Int) : Int := if longOk s n = true then (s.size : Int) - n else 0
def longR (s : ByteArray) (n : Int) : Ending := .returned (.tuple #[.agg #[.int .i64 (longK s n), .int .i64 0, .int .i64 (longV s n)], .bool (longOk s n)])
theorem long_cases (s : ByteArray) (n : Int) :
    (validCells s = false ∧ Hid (longR s n = .returned (.tuple #[.agg #[.int .i64 0, .int .i64 0, .int .i64 0], .bool false]))) ∨ (validCells s = true ∧ inB n 1 8000 = false ∧ Hid (longR s n = .returned (.tuple #[.agg #[.int .i64 0, .int .i64 0, .int .i64 0], .bool false]))) ∨
    (validCells s = true ∧ inB n 1 8000 = true ∧ (s.size : Int) ≤ n ∧ Hid (longR s n = .returned (.tuple #[.agg #[.int .i64 0, .int .i64 0, .int .i64 0], .bool false]))) ∨
    (validCells s = true ∧ inB n 1 8000 = true ∧ n < (s.size : Int) ∧ Hid (longR s n = .returned (.tuple #[.agg #[.int .i64 8, .int .i64 0, .int .i64 ((s.size : Int) - n)], .bool true]))) := by
  unfold Hid
  have no : longOk s n = false → longR s n = .returned (.tuple #[.agg #[.int .i64 0, .int .i64 0, .int .i64 0], .bool false]) := fun h => by unfold longR longK longV; rw [h]; rfl
  have yes : longOk s n = true → longR s n = .returned (.tuple #[.agg #[.int .i64 8, .int .i64 0, .int .i64 ((s.size : Int) - n)], .bool true]) := fun h => by unfold longR longK longV; rw [h]; rfl
  cases h1 : validCells s
  · exact .inl ⟨rfl, no (by unfold longOk; rw [h1]; rfl)⟩
  cases h2 : inB n 1 8000
  · exact .inr (.inl ⟨rfl, rfl, no (by unfold longOk; rw [h1, h2]; rfl)⟩)
  by_cases h3 : n < (s.size : Int)
  · exact .inr (.inr (.inr ⟨rfl, rfl, h3, yes (by unfold longOk; rw [h1, h2, decide_eq_true h3]; rfl)⟩))
  · exact .inr (.inr (.inl ⟨rfl, rfl, by omega, no (by unfold longOk; rw [h1, h2, decide_eq_false h3]; rfl)⟩))
theorem fresh3 {t : TypeId} {w w1 : World} {a0 a1 a2 : Value} (hb : Below (w.alloc (.cells #[a0, a1, a2] t)).heap.size (w.alloc (.cells #[a0, a1, a2] t)) w1) :
    w1.cell? ⟨w.heap.size, 0, none⟩ = some a0 ∧ w1.cell? ⟨w.heap.size, 1, none⟩ = some a1 ∧ w1.cell? ⟨w.heap.size, 2, none⟩ = some a2 ∧
    w1.frozen? ⟨w.heap.size, 0, none⟩ = false ∧ w1.frozen? ⟨w.heap.size, 1, none⟩ = false ∧ w1.frozen? ⟨w.heap.size, 2, none⟩ = false ∧ Below w.heap.size w w1 := by
  have p : w1.heap[w.heap.size]? = some (.cells #[a0, a1, a2] t) := by
    rw [hb.block _ (by unfold World.alloc; rw [Array.size_push]; omega)]
    exact heap_alloc_new w _
  refine ⟨?_, ?_, ?_, Lib.frozen_of_heap p 0, Lib.frozen_of_heap p 1, Lib.frozen_of_heap p 2, bstep (balloc (Below.refl _ _) _) hb⟩ <;> (rw [Lib.cell_of_heap p]; rfl)
theorem put3 {w1 : World} {b : Nat} {a0 a1 a2 : Value} (h0 : w1.cell? ⟨b, 0, none⟩ = some a0) (h1 : w1.cell? ⟨b, 1, none⟩ = some a1) (h2 : w1.cell? ⟨b, 2, none⟩ = some a2) (x y z : Value) :
    (((w1.setCell ⟨b, 0, none⟩ x).setCell ⟨b, 1, none⟩ y).setCell ⟨b, 2, none⟩ z).cell? ⟨b, 0, none⟩ = some x ∧ (((w1.setCell ⟨b, 0, none⟩ x).setCell ⟨b, 1, none⟩ y).setCell ⟨b, 2, none⟩ z).cell? ⟨b, 1, none⟩ = some y ∧
    (((w1.setCell ⟨b, 0, none⟩ x).setCell ⟨b, 1, none⟩ y).setCell ⟨b, 2, none⟩ z).cell? ⟨b, 2, none⟩ = some z := by
  have n01 : (⟨b, 0, none⟩ : Addr) ≠ ⟨b, 1, none⟩ := by simp
  have n02 : (⟨b, 0, none⟩ : Addr) ≠ ⟨b, 2, none⟩ := by simp
  have n12 : (⟨b, 1, none⟩ : Addr) ≠ ⟨b, 2, none⟩ := by simp
  refine ⟨?_, ?_, ?_⟩
  · rw [World.cell?_setCell_other _ _ _ _ n02.symm, World.cell?_setCell_other _ _ _ _ n01.symm]
    exact World.cell?_setCell_same _ _ _ h0
  · rw [World.cell?_setCell_other _ _ _ _ n12.symm]
    exact World.cell?_setCell_same _ _ _ ((World.cell?_setCell_other _ _ _ _ n01).trans h1)
  · exact World.cell?_setCell_same _ _ _ (((World.cell?_setCell_other _ _ _ _ n12).trans (World.cell?_setCell_other _ _ _ _ n02)).trans h2)
set_option maxHeartbeats 1000000 in
theorem impl_LongFeature (s : ByteArray) (n : Int) (w : World) (hs : s.size ≤ 1048576) (hn : (Lit.int .i64 n).wf = true) :
    Calls Tryd.prog 39 #[.string s, .int .i64 n] w fun e w' => e = longR s n ∧ Below w.heap.size w w' := by
  have HC := Hid.in_ (fun w => impl_ValidCells s w (by omega))
  obtain ⟨h1, HV⟩ | ⟨h1, h2, HV⟩ | ⟨h1, h2, h3, HV⟩ | ⟨h1, h2, h3, HV⟩ := long_cases s n
  case inr.inr.inl | inr.inr.inr =>
    rw [h1] at HC
    obtain ⟨b1, b2⟩ := inB_t h2
    go_enter Tryd.func39, Tryd.ntmps39
    go_wp2_with fail
    refine (HC.out _).mono ?_
    rintro e w1 ⟨rfl, hb1⟩
    obtain ⟨c0, c1, c2, f0, f1, f2, hb⟩ := fresh3 hb1
    have HB := Hid.in_ hb
    clear hb1 hb
    obtain ⟨d0, d1, d2⟩ := put3 c0 c1 c2 (.int .i64 0) (.int .i64 0) (.int .i64 0)
    obtain ⟨e0, e1, e2⟩ := put3 c0 c1 c2 (.int .i64 8) (.int .i64 0) (.int .i64 ((s.size : Int) - n))
    go_wp2_with (go_at_call 84; refine (bool_is (impl_within _ _ _ _) (by assumption)).mono ?_; rintro e w' ⟨rfl, rfl⟩)
    (try simp only [Exit.inBlock, Exit.then])
    refine bodyPost_ret ?_ rfl ⟨HV.out.symm, ?_⟩
    · rw [results_cell_tmp rfl]
      simp [go_sem, Result.andThen, d0, d1, d2, e0, e1, e2]
    · exact ((HB.out.setCell (p := ⟨w.heap.size, 0, none⟩) (Nat.le_refl _) _).setCell (p := ⟨w.heap.size, 1, none⟩) (Nat.le_refl _) _).setCell (p := ⟨w.heap.size, 2, none⟩) (Nat.le_refl _) _
  all_goals
    rw [h1] at HC
    go_enter Tryd.func39, Tryd.ntmps39
    go_wp2_with fail
    refine (HC.out _).mono ?_
    rintro e w1 ⟨rfl, hb1⟩
    obtain ⟨c0, c1, c2, f0, f1, f2, hb⟩ := fresh3 hb1
    have HB := Hid.in_ hb
    clear hb1 hb
    obtain ⟨d0, d1, d2⟩ := put3 c0 c1 c2 (.int .i64 0) (.int .i64 0) (.int .i64 0)
    obtain ⟨e0, e1, e2⟩ := put3 c0 c1 c2 (.int .i64 8) (.int .i64 0) (.int .i64 ((s.size : Int) - n))
    go_wp2_with (go_at_call 84; refine (bool_is (impl_within _ _ _ _) (by assumption)).mono ?_; rintro e w' ⟨rfl, rfl⟩)
    (try simp only [Exit.inBlock, Exit.then])
    refine bodyPost_ret ?_ rfl ⟨HV.out.symm, ?_⟩
    · rw [results_cell_tmp rfl]
      simp [go_sem, Result.andThen, d0, d1, d2, e0, e1, e2]
    · exact ((HB.out.setCell (p := ⟨w.heap.size, 0, none⟩) (Nat.le_refl _) _).setCell (p := ⟨w.heap.size, 1, none⟩) (Nat.le_refl _) _).setCell (p := ⟨w.heap.size, 2, none⟩) (Nat.le_refl _) _
set_option maxHeartbeats 1000000 in
theorem spec_LongFeature (s : ByteArray) (n : Int) (w : World) (hs : s.size ≤ 1048576) (hn : (Lit.int .i64 n).wf = true) :
    Calls Tryd.prog 38 #[.string s, .int .i64 n] w fun e w' => e = longR s n ∧ Below w.heap.size w w' := by
  have HC := Hid.in_ (fun w => spec_ValidCells s w (by omega))
  obtain ⟨h1, HV⟩ | ⟨h1, h2, HV⟩ | ⟨h1, h2, h3, HV⟩ | ⟨h1, h2, h3, HV⟩ := long_cases s n
  case inr.inr.inr =>
    rw [h1] at HC
    obtain ⟨b1, b2⟩ := inB_t h2
    go_enter Tryd.func38, Tryd.ntmps38
    go_wp2_with (first | (go_at_call 66; refine (HC.out _).mono ?_; rintro e w1 ⟨rfl, rfl⟩) | (go_at_call 73; refine (bool_is (spec_l00In _ _ _ _) (by assumption)).mono ?_; rintro e w' ⟨rfl, rfl⟩))
    go_returns
    exact ⟨HV.out.symm, by first | exact Below.refl _ _ | go_grown⟩
  all_goals
    rw [h1] at HC
    go_enter Tryd.func38, Tryd.ntmps38
    go_wp2_with (first | (go_at_call 66; refine (HC.out _).mono ?_; rintro e w1 ⟨rfl, rfl⟩) | (go_at_call 73; refine (bool_is (spec_l00In _ _ _ _) (by assumption)).mono ?_; rintro e w' ⟨rfl, rfl⟩))
    go_returns
    exact ⟨HV.out.symm, by first | exact Below.refl _ _ | go_grown⟩
theorem laws_eqFeature (k s v : Int) (w : World) :
    Calls Tryd.prog 40 #[.agg #[.int .i64 k, .int .i64 s, .int .i64 v], .agg #[.int .i64 k, .int .i64 s, .int .i64 v]] w fun e w' => e = .returned (.bool true) ∧ Below w.heap.size w w' := by
  go_enter Tryd.func40, Tryd.ntmps40
  go_wp2
  go_ret
  exact ⟨rfl, by go_grown⟩
end Go.Proofs.YtfmlobfgkinngaaDoor
