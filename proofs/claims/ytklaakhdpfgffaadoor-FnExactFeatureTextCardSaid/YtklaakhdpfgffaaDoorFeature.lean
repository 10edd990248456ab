/- Features of a track: 'toFeature', 'ValidFeature' of the program and of the reference. -/
import Derived.Test.YtklaakhdpfgffaaDoorInt
import Derived.Test.YtklaakhdpfgffaaDoorRec1
namespace Go.Proofs.YtklaakhdpfgffaaDoor
open Go.ChangeShapes Go.WideShapes Go.ChangeAt Go.RowKit
set_option linter.unusedSimpArgs false
set_option linter.unusedVariables false

def validFeature (k s v : Int) : Bool :=
  inB s 0 63 && (if k = 1 then inB v 0 (s - 1) else if inB k 2 6 then v == 0 else if k = 7 then inB v 1 512 else if k = 8 then s == 0 && inB v 1 8000 else false)

theorem feature_kinds (k : Int) : k = 1 ∨ k = 2 ∨ k = 3 ∨ k = 4 ∨ k = 5 ∨ k = 6 ∨ k = 7 ∨ k = 8 ∨
    (inB k 1 8 = false ∧ inB k 2 6 = false ∧ (k == 1) = false ∧ (k == 2) = false ∧ (k == 3) = false ∧ (k == 4) = false ∧ (k == 5) = false ∧ (k == 6) = false ∧ (k == 7) = false ∧ (k == 8) = false) := by
  simp only [beq_eq_false_iff_ne]
  by_cases h : 1 ≤ k ∧ k ≤ 8
  · omega
  · exact .inr (.inr (.inr (.inr (.inr (.inr (.inr (.inr ⟨inB_no (by omega), inB_no (by omega), by omega, by omega, by omega, by omega, by omega, by omega, by omega, by omega⟩)))))))

theorem impl_ValidFeature (k s v : Int) (w : World) (hs1 : (Lit.int .i64 s).wf = true) :
    Calls Tryd.prog 34 #[.agg #[.int .i64 k, .int .i64 s, .int .i64 v]] w fun e w' => e = .returned (.bool (validFeature k s v)) ∧ Below w.heap.size w w' := by
  cases h1 : inB s 0 63
  · go_enter Tryd.func34, Tryd.ntmps34
    go_wp2_with (go_at_call 59; refine (impl_within _ _ _ _).mono ?_; rintro e w' ⟨rfl, rfl⟩)
    go_ret
    exact ⟨ret_bool (by simp [validFeature, h1]), by go_grown⟩
  · obtain ⟨_, _⟩ := inB_t h1
    obtain rfl | rfl | rfl | rfl | rfl | rfl | rfl | rfl | ⟨k1, k2, e1, e2, e3, e4, e5, e6, e7, e8⟩ := feature_kinds k
    case inr.inr.inr.inr.inr.inr.inr.inl =>
      cases h2 : (s == 0)
      all_goals
        go_enter Tryd.func34, Tryd.ntmps34
        go_wp2_with (go_at_call 59; refine (impl_within _ _ _ _).mono ?_; rintro e w' ⟨rfl, rfl⟩)
        go_ret
        exact ⟨ret_bool (by unfold validFeature; rw [h1, h2]; rfl), by go_grown⟩
    case inr.inr.inr.inr.inr.inr.inr.inr =>
      go_enter Tryd.func34, Tryd.ntmps34
      go_wp2_with (go_at_call 59; refine (impl_within _ _ _ _).mono ?_; rintro e w' ⟨rfl, rfl⟩)
      go_ret
      exact ⟨ret_bool (by simp [validFeature, h1, k2, beq_eq_false_iff_ne.1 e1, beq_eq_false_iff_ne.1 e7, beq_eq_false_iff_ne.1 e8]), by go_grown⟩
    all_goals
      go_enter Tryd.func34, Tryd.ntmps34
      go_wp2_with (go_at_call 59; refine (impl_within _ _ _ _).mono ?_; rintro e w' ⟨rfl, rfl⟩)
      go_ret
      exact ⟨ret_bool (by unfold validFeature; rw [h1]; rfl), by go_grown⟩
theorem spec_l11Ok (k s v : Int) (w : World) (hs1 : (Lit.int .i64 s).wf = true) :
    Calls Tryd.prog 32 #[.agg #[.int .i64 k, .int .i64 s, .int .i64 v]] w fun e w' => e = .returned (.bool (validFeature k s v)) ∧ Below w.heap.size w w' := by
  cases h1 : inB s 0 63
  · go_enter Tryd.func32, Tryd.ntmps32
    go_wp2_with (go_at_call 56; refine (spec_l00In _ _ _ _).mono ?_; rintro e w' ⟨rfl, rfl⟩)
    go_ret
    exact ⟨ret_bool (by simp [validFeature, h1]), by go_grown⟩
  · obtain ⟨_, _⟩ := inB_t h1
    obtain rfl | rfl | rfl | rfl | rfl | rfl | rfl | rfl | ⟨k1, k2, e1, e2, e3, e4, e5, e6, e7, e8⟩ := feature_kinds k
    case inr.inr.inr.inr.inr.inr.inr.inl =>
      cases h2 : (s == 0)
      all_goals
        go_enter Tryd.func32, Tryd.ntmps32
        go_wp2_with (go_at_call 56; refine (spec_l00In _ _ _ _).mono ?_; rintro e w' ⟨rfl, rfl⟩)
        go_ret
        exact ⟨ret_bool (by unfold validFeature; rw [h1, h2]; rfl), by go_grown⟩
    case inr.inr.inr.inr.inr.inr.inr.inr =>
      go_enter Tryd.func32, Tryd.ntmps32
      go_wp2_with (go_at_call 56; refine (spec_l00In _ _ _ _).mono ?_; rintro e w' ⟨rfl, rfl⟩)
      go_ret
      exact ⟨ret_bool (by simp [validFeature, h1, k2, beq_eq_false_iff_ne.1 e1, beq_eq_false_iff_ne.1 e7, beq_eq_false_iff_ne.1 e8]), by go_grown⟩
    case inl =>
      go_enter Tryd.func32, Tryd.ntmps32
      go_wp2_with (go_at_call 56; refine (spec_l00In _ _ _ _).mono ?_; rintro e w' ⟨rfl, rfl⟩)
      go_ret
      exact ⟨ret_bool (by unfold validFeature; rw [h1]; rfl), by go_grown⟩
    case inr.inr.inr.inr.inr.inr.inl =>
      go_enter Tryd.func32, Tryd.ntmps32
      go_wp2_with (go_at_call 56; refine (spec_l00In _ _ _ _).mono ?_; rintro e w' ⟨rfl, rfl⟩)
      go_ret
      exact ⟨ret_bool (by unfold validFeature; rw [h1]; rfl), by go_grown⟩
    all_goals
      have h3 : ∀ x : Int, inB x 1 8 = decide (1 ≤ x ∧ x ≤ 8) := fun _ => rfl
      have h4 := h3 2
      have h5 := h3 3
      have h6 := h3 4
      have h7 := h3 5
      have h8 := h3 6
      simp at h4 h5 h6 h7 h8
      clear h3
      go_enter Tryd.func32, Tryd.ntmps32
      go_wp2_with (go_at_call 56; refine (spec_l00In _ _ _ _).mono ?_; rintro e w' ⟨rfl, rfl⟩)
      go_ret
      exact ⟨ret_bool (by unfold validFeature; rw [h1]; rfl), by go_grown⟩
end Go.Proofs.YtklaakhdpfgffaaDoor
