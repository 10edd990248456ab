/- Marks, bytes of cells, sectors' sizes: small integer functions of the program and of the reference. -/
import Derived.Test.YtlelgpknkgjaeaaInt
namespace Go.Proofs.Ytlelgpknkgjaeaa
open Go.ChangeShapes Go.WideShapes Go.ChangeAt Go.RowKit

theorem three {x : Int} (h : inB x 1 3 = true) : x = 1 ∨ x = 2 ∨ x = 3 := by have := inB_t h; omega
theorem three0 {x : Int} (h : inB x 0 2 = true) : x = 0 ∨ x = 1 ∨ x = 2 := by have := inB_t h; omega

def markByte (f k : Int) : Int := if inB f 1 3 = true ∧ inB k 1 3 = true then (if f = 3 then 9 - k else 257 - 3 * k) else 0
def byteCells (f : Int) : Int := if f = 3 then 10 else 16
def sizeBytes (s : Int) : Int := if s = 0 then 8 else if s = 1 then 16 else 32
def runIn (f : Int) : Int := if f = 1 then 48 else if f = 2 then 112 else 30
def sectorLen (f s : Int) : Int := 2 * runIn f + (10 + sizeBytes s) * byteCells f
def sectorCells (f s : Int) : Int := if inB f 1 3 = true ∧ inB s 0 2 = true then sectorLen f s else 0


theorem impl_sizeBytes (s : Int) (w : World) (h : inB s 0 2 = true) :
    Calls Try.prog 91 #[.int .i64 s] w fun e w' => e = .returned (.int .i64 (sizeBytes s)) ∧ w = w' := by
  obtain rfl | rfl | rfl := three0 h
  all_goals
    clear h
    go_enter Try.func91, Try.ntmps91
    go_wp2
    go_ret
    exact ⟨rfl, rfl⟩
end Go.Proofs.Ytlelgpknkgjaeaa
