/- Marks, bytes of cells, sectors' sizes: small integer functions of the program and of the reference. -/
import Derived.Test.YtlelgpknkgjaeaaGreatDoorInt
namespace Go.Proofs.YtlelgpknkgjaeaaGreatDoor
open Go.ChangeShapes Go.WideShapes Go.ChangeAt Go.RowKit

theorem three {x : Int} (h : inB x 1 3 = true) : x = 1 ∨ x = 2 ∨ x = 3 := by have := inB_t h; omega
theorem three0 {x : Int} (h : inB x 0 2 = true) : x = 0 ∨ x = 1 ∨ x = 2 := by have := inB_t h; omega

def markByte (f k : Int) : Int := if inB f 1 3 = true ∧ inB k 1 3 = true then (if f = 3 then 9 - k else 257 - 3 * k) else 0
def byteCells (f : Int) : Int := if f = 3 then 10 else 16
def sizeBytes (s : Int) : Int := if s = 0 then 8 else if s = 1 then 16 else 32
def runIn (f : Int) : Int := if f = 1 then 48 else if f = 2 then 112 else 30
def sectorLen (f s : Int) : Int := 2 * runIn f + (10 + sizeBytes s) * byteCells f
def sectorCells (f s : Int) : Int := if inB f 1 3 = true ∧ inB s 0 2 = true then sectorLen f s else 0

theorem spec_l07Byte (f k : Int) (w : World) (hf : inB f 1 3 = true) (hk : inB k 1 3 = true) :
    Calls Tryz.prog 96 #[.int .i64 f, .int .i64 k] w fun e w' => e = .returned (.int .i64 (markByte f k)) ∧ Below w.heap.size w w' := by
  obtain rfl | rfl | rfl := three hf <;> obtain rfl | rfl | rfl := three hk
  all_goals
    clear hf hk
    go_enter Tryz.func96, Tryz.ntmps96
    go_wp2
    go_ret
    exact ⟨ret_int (by decide), by repeat (first | exact Below.refl _ _ | (refine Below.alloc ?_ (by simp; try omega) _))⟩
theorem impl_MarkByte (f k : Int) (w : World) :
    Calls Tryz.prog 89 #[.int .i64 f, .int .i64 k] w fun e w' => e = .returned (.int .i64 (markByte f k)) ∧ w = w' := by
  cases h1 : inB f 1 3
  · go_enter Tryz.func89, Tryz.ntmps89
    go_wp2_with (first | (go_at_call 37; refine (impl_isFormat _ _).mono ?_; rintro e w' ⟨rfl, rfl⟩) | (go_at_call 57; refine (impl_isMarkKind _ _).mono ?_; rintro e w' ⟨rfl, rfl⟩))
    go_ret
    exact ⟨ret_int (by simp [markByte, h1]), rfl⟩
  · cases h2 : inB k 1 3
    · go_enter Tryz.func89, Tryz.ntmps89
      go_wp2_with (first | (go_at_call 37; refine (impl_isFormat _ _).mono ?_; rintro e w' ⟨rfl, rfl⟩) | (go_at_call 57; refine (impl_isMarkKind _ _).mono ?_; rintro e w' ⟨rfl, rfl⟩))
      go_ret
      exact ⟨ret_int (by simp [markByte, h2]), rfl⟩
    · obtain ⟨_, _⟩ := inB_t h2
      by_cases h3 : f = 3
      · have hb : (f == 3) = true := beq_iff_eq.2 h3
        have H3 := Hid.in_ h3
        clear h3
        go_enter Tryz.func89, Tryz.ntmps89
        go_wp2_with (first | (go_at_call 37; refine (impl_isFormat _ _).mono ?_; rintro e w' ⟨rfl, rfl⟩) | (go_at_call 57; refine (impl_isMarkKind _ _).mono ?_; rintro e w' ⟨rfl, rfl⟩))
        go_ret
        obtain h3 := H3.out
        subst h3
        exact ⟨ret_int (by simp [markByte, h1, h2]), rfl⟩
      · have hb : (f == 3) = false := beq_eq_false_iff_ne.2 h3
        go_enter Tryz.func89, Tryz.ntmps89
        go_wp2_with (first | (go_at_call 37; refine (impl_isFormat _ _).mono ?_; rintro e w' ⟨rfl, rfl⟩) | (go_at_call 57; refine (impl_isMarkKind _ _).mono ?_; rintro e w' ⟨rfl, rfl⟩))
        go_ret
        exact ⟨ret_int (by simp [markByte, h1, h2, h3]), rfl⟩

theorem impl_byteCells (f : Int) (w : World) :
    Calls Tryz.prog 108 #[.int .i64 f] w fun e w' => e = .returned (.int .i64 (byteCells f)) ∧ w = w' := by
  by_cases h3 : f = 3
  · subst h3
    go_enter Tryz.func108, Tryz.ntmps108
    go_wp2
    go_ret
    exact ⟨rfl, rfl⟩
  · have hb : (f == 3) = false := beq_eq_false_iff_ne.2 h3
    go_enter Tryz.func108, Tryz.ntmps108
    go_wp2
    go_ret
    exact ⟨ret_int (by simp [byteCells, h3]), rfl⟩
theorem spec_l08Cell (f : Int) (w : World) :
    Calls Tryz.prog 141 #[.int .i64 f] w fun e w' => e = .returned (.int .i64 (byteCells f)) ∧ w = w' := by
  by_cases h3 : f = 3
  · subst h3
    go_enter Tryz.func141, Tryz.ntmps141
    go_wp2
    go_ret
    exact ⟨rfl, rfl⟩
  · have hb : (f == 3) = false := beq_eq_false_iff_ne.2 h3
    go_enter Tryz.func141, Tryz.ntmps141
    go_wp2
    go_ret
    exact ⟨ret_int (by simp [byteCells, h3]), rfl⟩
theorem impl_sizeBytes (s : Int) (w : World) (h : inB s 0 2 = true) :
    Calls Tryz.prog 74 #[.int .i64 s] w fun e w' => e = .returned (.int .i64 (sizeBytes s)) ∧ w = w' := by
  obtain rfl | rfl | rfl := three0 h
  all_goals
    clear h
    go_enter Tryz.func74, Tryz.ntmps74
    go_wp2
    go_ret
    exact ⟨rfl, rfl⟩
end Go.Proofs.YtlelgpknkgjaeaaGreatDoor
