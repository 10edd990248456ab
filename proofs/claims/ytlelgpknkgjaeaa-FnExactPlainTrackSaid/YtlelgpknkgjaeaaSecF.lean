/- 'SectorFeatures' of the program and of the reference. -/
import Derived.Test.YtlelgpknkgjaeaaFeatsI
import Derived.Test.YtlelgpknkgjaeaaFeatsS
import Derived.Test.YtlelgpknkgjaeaaFounds
namespace Go.Proofs.Ytlelgpknkgjaeaa
open Go.ChangeShapes Go.WideShapes Go.ChangeAt Go.RowKit
set_option linter.unusedVariables false
set_option linter.unusedSimpArgs false
set_option maxRecDepth 4000

def secfR (l : List FndR) (cy hd : Int) : List FeatR × Int :=
  if okFnds l = false then ([], 1) else if (inB cy 0 255 && inB hd 0 255) = false then ([], 2) else (featsTo l cy hd l.length, 0)
theorem secf_inv {l : List FndR} {cy hd : Int} (h : okFnds l = false) : secfR l cy hd = ([], 1) := if_pos h
theorem secf_rng {l : List FndR} {cy hd : Int} (h : okFnds l = true) (h2 : (inB cy 0 255 && inB hd 0 255) = false) : secfR l cy hd = ([], 2) := by
  unfold secfR
  rw [if_neg (by rw [h]; decide), if_pos h2]
theorem secf_ok {l : List FndR} {cy hd : Int} {n : Nat} (hl : l.length = n) (h : okFnds l = true) (h2 : (inB cy 0 255 && inB hd 0 255) = true) : secfR l cy hd = (featsTo l cy hd n, 0) := by
  unfold secfR
  rw [if_neg (by rw [h]; decide), if_neg (by rw [h2]; decide), hl]
theorem fnds_len {l : List FndR} (h : okFnds l = true) : l.length ≤ 64 := by
  unfold okFnds at h
  rw [Bool.and_eq_true] at h
  exact of_decide_eq_true h.2
theorem fnds_long {l : List FndR} {n : Nat} (hl : l.length = n) (h : 64 < n) : okFnds l = false := by
  unfold okFnds
  rw [decide_eq_false (by omega), Bool.and_false]
theorem secfR_len (l : List FndR) (cy hd : Int) : (secfR l cy hd).1.length ≤ 320 := by
  cases h : okFnds l
  · rw [secf_inv h]; exact Nat.zero_le _
  · cases h2 : inB cy 0 255 && inB hd 0 255
    · rw [secf_rng h h2]; exact Nat.zero_le _
    · rw [secf_ok rfl h h2]
      have := featsTo_len l cy hd l.length
      have := fnds_len h
      show (featsTo l cy hd l.length).length ≤ 320
      omega
theorem spec_l11Track (x y : Int) (w : World) :
    Calls Try.prog 58 #[.int .i64 x, .int .i64 y] w fun e w' => e = .returned (.bool (inB x 0 255 && inB y 0 255)) ∧ w = w' := by
  cases h1 : inB x 0 255
  · go_enter Try.func58, Try.ntmps58
    go_wp2_with (go_at_call 42; refine (bool_is (spec_l00In _ _ _ _) (by assumption)).mono ?_; rintro e w' ⟨rfl, rfl⟩)
    go_ret
    exact ⟨rfl, rfl⟩
  · cases h2 : inB y 0 255
    all_goals
      go_enter Try.func58, Try.ntmps58
      go_wp2_with (go_at_call 42; refine (bool_is (spec_l00In _ _ _ _) (by assumption)).mono ?_; rintro e w' ⟨rfl, rfl⟩)
      go_ret
      exact ⟨rfl, rfl⟩
end Go.Proofs.Ytlelgpknkgjaeaa
