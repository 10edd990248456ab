/- Rows of int64: 'eqInt64S', 'markInt64S', 'heldInt64S' of the laws over rows of the calls' own. -/
import Derived.Test.YtklaakhdpfgffaaDoorMem
namespace Go.Proofs.YtklaakhdpfgffaaDoor
open Go.ChangeShapes Go.WideShapes Go.ChangeAt Go.RowKit
set_option linter.unusedSimpArgs false
set_option linter.unusedVariables false

def I64 (xs : List Int) : List Value := xs.map (Value.int .i64)
theorem I64_len (xs : List Int) : (I64 xs).length = xs.length := by simp [I64]
theorem I64_get {xs : List Int} {i : Nat} {x : Int} (h : xs[i]? = some x) : (I64 xs)[i]? = some (.int .i64 x) := by simp [I64, h]

/-- the marks k, k + 1, .. -/
def marks (k : Int) (n : Nat) : List Int := (List.range n).map fun (i : Nat) => k + (i : Int)
theorem marks_len (k : Int) (n : Nat) : (marks k n).length = n := by simp [marks]
theorem marks_get (k : Int) (n i : Nat) (h : i < n) : (marks k n)[i]? = some (k + i) := by simp [marks, h]

theorem laws_eqInt64S {v1 v2 : Value} {n b1 b2 : Nat} {xs : List Int} (w : World) (h1 : w.ownsRow b1 2 1 v1 n (I64 xs)) (h2 : w.ownsRow b2 2 1 v2 n (I64 xs)) :
    Calls Tryd.prog 45 #[v1, v2] w fun e w' => e = .returned (.bool true) ∧ Below w.heap.size w w' := by
  obtain ⟨A1, c1, rfl, hl1, hn, hA1⟩ := own_shape h1
  obtain ⟨A2, c2, rfl, hl2, _, hA2⟩ := own_shape h2
  have HL : Hid (xs.length = n) := by rw [I64_len] at hl1; unfold Hid; omega
  have H1 := Hid.in_ hA1
  have H2 := Hid.in_ hA2
  clear hA1 hA2 hl1 hl2 h1 h2
  go_enter Tryd.func45, Tryd.ntmps45
  go_wp2
  go_loopw [5] (fun i wr => ∃ k : Nat, k ≤ n ∧ i = .int .i64 k ∧ ∃ q, wr = w.drewN q) (fun i _ => n - (intOf i).toNat)
  case atStart => exact ⟨0, Nat.zero_le _, rfl, 0, rfl⟩
  case round =>
    obtain ⟨k, hk, rfl, q, rfl⟩ := hrel
    by_cases hlt : k < n
    · obtain ⟨g1, rfl, _, _, hc1, _⟩ := H1.out (by omega)
      obtain ⟨g2, rfl, _, _, hc2, _⟩ := H2.out (by omega)
      obtain ⟨x, hx⟩ := get_lt xs k (by rw [HL.out]; exact hlt)
      have f1 := hc1 k _ (I64_get hx)
      have f2 := hc2 k _ (I64_get hx)
      clear hc1 hc2 hx
      go_wp2
      go_quiet (fail)
      go_wp2
      go_roundw
      case rel => exact ⟨k + 1, by omega, by go_num, _, rfl⟩
      case measure => simp [intOf]; omega
    · go_wp2
      go_ret
      exact ⟨rfl, below_drewN (Below.refl _ _) _⟩
end Go.Proofs.YtklaakhdpfgffaaDoor
