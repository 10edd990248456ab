/- 'FnExactInterleave': for every input the law returns true, and each argument reads behind the call as it read before. No condition. -/
import Derived.Test.YtmbhehoakpicdaaLaw
import Derived.Test.YtmbhehoakpicdaaRec
import Derived.Test.YtmbhehoakpicdaaInter
namespace Go.Proofs.Ytmbhehoakpicdaa
open Go.ChangeShapes Go.WideShapes Go.ChangeAt Go.RowKit
open Go.ChangeMaps (open_string shut_string)
set_option linter.unusedVariables false
theorem FnExactInterleave_walk (a0 : Int) (w0 : (Lit.int .i64 a0).wf = true) (a1 : Int) (w1 : (Lit.int .i64 a1).wf = true) (w : World) :
    Calls Try.prog 9 #[.int .i64 a0, .int .i64 a1] w fun e w' => e = .returned (.bool true) ∧ Below w.heap.size w w' := by
  have hle := ilLen_le a0 a1
  have hne : ¬ ((1 : Int) + (ilLen a0 a1 : Int) < 0) := by omega
  go_enter Try.func9, Try.ntmps9
  go_wp2_with fail
  refine (spec_Interleave _ _ _).mono ?_
  rintro e w1 ⟨v1, rfl, ho1, hb1⟩
  go_wp2_with fail
  refine (impl_Interleave _ _ _).mono ?_
  rintro e w2 ⟨v2, rfl, ho2, hb2⟩
  have hB2 := bstep hb1 hb2
  go_wp2_with fail
  refine (laws_eqInt64S _ ho2 (ostep hb2 ho1)).mono ?_
  rintro e w3 ⟨rfl, hb3⟩
  have hB3 := bstep hB2 hb3
  go_wp2_with fail
  refine (laws_markInt64S 1 _ (ostep hb3 ho2) (by omega) (by omega) (by omega)).mono ?_
  rintro e w4 ⟨rfl, ho4, hg4⟩
  have hB4 := bgrown hB3 (ostep hb3 ho2) hb1.size hg4
  have hk1 := (ostep hb3 (ostep hb2 ho1)).kept hg4 (own_apart ho1 ho2 (Nat.le_refl _))
  go_wp2_with fail
  refine (laws_heldInt64S 1 _ ho4 (by omega) (by omega) (by omega)).mono ?_
  rintro e w5 ⟨rfl, rfl⟩
  go_wp2_with fail
  refine (impl_Interleave _ _ _).mono ?_
  rintro e w6 ⟨v6, rfl, ho6, hb6⟩
  have hB6 := bstep hB4 hb6
  go_wp2_with fail
  refine (laws_eqInt64S _ ho6 (ostep hb6 hk1)).mono ?_
  rintro e w7 ⟨rfl, hb7⟩
  have hB7 := bstep hB6 hb7
  go_wp2_with fail
  refine (laws_heldInt64S 1 _ (ostep hb7 (ostep hb6 ho4)) (by omega) (by omega) (by omega)).mono ?_
  rintro e w8 ⟨rfl, rfl⟩
  go_wp2
  go_ret
  exact ⟨rfl, hB7⟩

set_option maxRecDepth 100000 in
theorem FnExactInterleave_lifted (os : Os) (started : os.Started) (H : Type) (enc : TypeId × Value → H) :
    ReturnsInHanded {} Try.checked os 9 .any (Rows.fnExactInterleaveSpec.pre6 enc Try.prog Try.f9 Rows.fnExactInterleaveRow.domain false) (Rows.fnExactInterleaveSpec.post enc Try.prog Try.f9 false true false false) := by
  refine returnsInHanded_of_change (C := Try.checked) Try.own started (by kernel_rfl) Try.func9
    (ChangeSpec.witness6 (enc := enc) (C := Try.checked) false ⟨#[], #[.int .i64 0, .int .i64 0], []⟩ 8 (by kernel_rfl) (by kernel_rfl) (by kernel_rfl) (by kernel_rfl)) ?_
  intro W base args ds gs before hval0 hW hcnd _
  have hval : ∀ (j : Nat) t v, Try.f9.params[j]? = some t → args[j]? = some v → Value.okWide Try.prog W .any base t v := hval0
  have hW' := hW
  obtain ⟨p, q, hA0, hV, hbe, hfz, hnd⟩ := hW
  have hA : DataW.TrodAll enc Try.prog W 0 (fun _ => true) true Try.f9.params.toList args.toList ds p := hA0
  rw [Try.params9] at hA hval
  obtain ⟨v0, vs0, d0, ds0, p0, q0, hargs, rfl, rfl, h0, r0⟩ := trodAll_cons hA
  obtain ⟨v1, vs1, d1, ds1, p1, q1, rfl, rfl, rfl, h1, r1⟩ := trodAll_cons r0
  obtain ⟨rfl, rfl, rfl⟩ := trodAll_nil r1
  obtain rfl : args = #[v0, v1] := by cases args; simp_all
  obtain ⟨rfl, _⟩ := trodVars_none hV
  obtain ⟨a0, rfl, rfl, rfl, w0⟩ := open_int Try.underlying2 (hval 0 2 v0 rfl rfl) h0
  obtain ⟨a1, rfl, rfl, rfl, w1⟩ := open_int Try.underlying2 (hval 1 2 v1 rfl rfl) h1
  clear hA0 hval0
  refine (FnExactInterleave_walk a0 w0 a1 w1 W).mono fun e W' ⟨he, hb⟩ => ?_
  subst he
  exact ⟨_, rfl, law_post Try.laidOut (by kernel_rfl) rfl Try.underlying4 rfl rfl hW' hb⟩

theorem FnExactInterleave_over : Rows.fnExactInterleaveRow.holds Try.pinned (OpenSpec.ofChange Rows.fnExactInterleaveSpec) :=
  OpenClaim.holds_of_wide 9 Try.f9 rfl rfl rfl rfl rfl rfl rfl ⟨rfl, rfl, rfl, rfl, rfl⟩ rfl rfl rfl rfl rfl (by kernel_rfl) Try.func9 (by kernel_rfl)
    (of_decide_eq_true (by kernel_rfl)) (by unfold Func.isWrapper; first | (rw [if_pos (by decide +kernel)]; kernel_rfl) | (rw [if_neg (by decide +kernel)]; exact ⟨rfl, rfl⟩))
    (fun os started H enc _ => FnExactInterleave_lifted os started H enc)

theorem FnExactInterleave_proved : Rows.FnExactInterleaveSaid := FnExactInterleave_over
#print axioms FnExactInterleave_proved
end Go.Proofs.Ytmbhehoakpicdaa
