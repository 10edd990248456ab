/- The places, in rising order, at which a test holds. No program in sight but for the imports. -/
import Derived.Test.YtlelgpknkgjaeaaI64
namespace Go.Proofs.Ytlelgpknkgjaeaa
set_option linter.unusedSimpArgs false
set_option linter.unusedVariables false

def placesTo (q : Nat → Bool) : Nat → List Int
  | 0 => []
  | k + 1 => placesTo q k ++ (if q k = true then [(k : Int)] else [])
theorem placesTo_len (q : Nat → Bool) : ∀ k, (placesTo q k).length ≤ k
  | 0 => Nat.le_refl _
  | k + 1 => by
    have := placesTo_len q k
    unfold placesTo
    split <;> simp <;> omega
theorem placesTo_yes {q : Nat → Bool} {k : Nat} (h : q k = true) : placesTo q (k + 1) = placesTo q k ++ [(k : Int)] := by
  show placesTo q k ++ (if q k = true then [(k : Int)] else []) = _
  rw [if_pos h]
theorem placesTo_no {q : Nat → Bool} {k : Nat} (h : q k = false) : placesTo q (k + 1) = placesTo q k := by
  show placesTo q k ++ (if q k = true then [(k : Int)] else []) = _
  rw [if_neg (by rw [h]; decide), List.append_nil]
theorem I64_app (a b : List Int) : I64 (a ++ b) = I64 a ++ I64 b := by unfold I64; exact List.map_append
end Go.Proofs.Ytlelgpknkgjaeaa
