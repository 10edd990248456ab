/- 'FnExactValidFeature': for every input the law returns true, and each argument reads behind the call as it read before. No condition. -/
import Derived.Test.YtmbhehoakpicdaaLaw
import Derived.Test.YtmbhehoakpicdaaRec
import Derived.Test.YtmbhehoakpicdaaFeature
namespace Go.Proofs.Ytmbhehoakpicdaa
open Go.ChangeShapes Go.WideShapes Go.ChangeAt Go.RowKit
open Go.ChangeMaps (open_string shut_string)
set_option linter.unusedVariables false
theorem FnExactValidFeature_walk (a0 : FeatR) (w0 : a0.ok) (w : World) :
    Calls Try.prog 6 #[.agg a0.cells.toArray] w fun e w' => e = .returned (.bool true) ∧ Below w.heap.size w w' := by
  obtain ⟨k, s, v⟩ := a0
  have hs := w0.2.1
  clear w0
  show Calls Try.prog 6 #[.agg #[.int .i64 k, .int .i64 s, .int .i64 v]] w _
  go_enter Try.func6, Try.ntmps6
  go_wp2_with fail
  refine (laws_toFeature _ _ _ _).mono ?_
  rintro e w1 ⟨rfl, hb1⟩
  go_wp2_with fail
  refine (spec_ValidFeature _ _ _ _ hs).mono ?_
  rintro e w2 ⟨rfl, hb2⟩
  have hc0 := cstep hb2 (cstep hb1 (b := w.heap.size) (o := 0) (u := .int .i64 k) (by simp [go_sem]))
  have hc1 := cstep hb2 (cstep hb1 (b := w.heap.size) (o := 1) (u := .int .i64 s) (by simp [go_sem]))
  have hc2 := cstep hb2 (cstep hb1 (b := w.heap.size) (o := 2) (u := .int .i64 v) (by simp [go_sem]))
  go_wp2_with fail
  refine (laws_toFeature _ _ _ _).mono ?_
  rintro e w3 ⟨rfl, hb3⟩
  go_wp2_with fail
  refine (impl_ValidFeature _ _ _ _ hs).mono ?_
  rintro e w4 ⟨rfl, hb4⟩
  go_wp2
  go_ret
  exact ⟨rfl, bstep (bstep (bstep (bstep (balloc (Below.refl _ _) _) hb1) hb2) hb3) hb4⟩

set_option maxRecDepth 100000 in
theorem FnExactValidFeature_lifted (os : Os) (started : os.Started) (H : Type) (enc : TypeId × Value → H) :
    ReturnsInHanded {} Try.checked os 6 .any (Rows.fnExactValidFeatureSpec.pre6 enc Try.prog Try.f6 Rows.fnExactValidFeatureRow.domain false) (Rows.fnExactValidFeatureSpec.post enc Try.prog Try.f6 false true false false) := by
  refine returnsInHanded_of_change (C := Try.checked) Try.own started (by kernel_rfl) Try.func6
    (ChangeSpec.witness6 (enc := enc) (C := Try.checked) false ⟨#[], #[.agg #[.int .i64 0, .int .i64 0, .int .i64 0]], []⟩ 8 (by kernel_rfl) (by kernel_rfl) (by kernel_rfl) (by kernel_rfl)) ?_
  intro W base args ds gs before hval0 hW hcnd _
  have hval : ∀ (j : Nat) t v, Try.f6.params[j]? = some t → args[j]? = some v → Value.okWide Try.prog W .any base t v := hval0
  have hW' := hW
  obtain ⟨p, q, hA0, hV, hbe, hfz, hnd⟩ := hW
  have hA : DataW.TrodAll enc Try.prog W 0 (fun _ => true) true Try.f6.params.toList args.toList ds p := hA0
  rw [Try.params6] at hA hval
  obtain ⟨v0, vs0, d0, ds0, p0, q0, hargs, rfl, rfl, h0, r0⟩ := trodAll_cons hA
  obtain ⟨rfl, rfl, rfl⟩ := trodAll_nil r0
  obtain rfl : args = #[v0] := by cases args; simp_all
  obtain ⟨rfl, _⟩ := trodVars_none hV
  obtain ⟨a0, rfl, w0⟩ := byval_FeatR (hval 0 34 v0 rfl rfl) h0
  clear hA0 hval0
  refine (FnExactValidFeature_walk a0 w0 W).mono fun e W' ⟨he, hb⟩ => ?_
  subst he
  exact ⟨_, rfl, law_post Try.laidOut (by kernel_rfl) rfl Try.underlying4 rfl rfl hW' hb⟩

theorem FnExactValidFeature_over : Rows.fnExactValidFeatureRow.holds Try.pinned (OpenSpec.ofChange Rows.fnExactValidFeatureSpec) :=
  OpenClaim.holds_of_wide 6 Try.f6 rfl rfl rfl rfl rfl rfl rfl ⟨rfl, rfl, rfl, rfl, rfl⟩ rfl rfl rfl rfl rfl (by kernel_rfl) Try.func6 (by kernel_rfl)
    (of_decide_eq_true (by kernel_rfl)) (by unfold Func.isWrapper; first | (rw [if_pos (by decide +kernel)]; kernel_rfl) | (rw [if_neg (by decide +kernel)]; exact ⟨rfl, rfl⟩))
    (fun os started H enc _ => FnExactValidFeature_lifted os started H enc)

theorem FnExactValidFeature_proved : Rows.FnExactValidFeatureSaid := FnExactValidFeature_over
#print axioms FnExactValidFeature_proved
end Go.Proofs.Ytmbhehoakpicdaa
