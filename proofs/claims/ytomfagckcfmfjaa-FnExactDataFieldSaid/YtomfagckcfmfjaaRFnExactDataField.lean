/- 'FnExactDataField': for every input the law returns true, and each argument reads behind the call as it read before. No condition. -/
import Derived.Test.YtomfagckcfmfjaaLaw
import Derived.Test.YtomfagckcfmfjaaDataField
import Derived.Test.YtomfagckcfmfjaaRec
import Derived.Test.YtomfagckcfmfjaaRows
namespace Go.Proofs.Ytomfagckcfmfjaa
open Go.ChangeShapes Go.WideShapes Go.ChangeAt Go.RowKit
open Go.ChangeMaps (open_string shut_string)
set_option linter.unusedVariables false
set_option maxHeartbeats 1000000 in
theorem FnExactDataField_walk (f : Int) (wf : (Lit.int .i64 f).wf = true) (a1 : SecR) (w1 : a1.ok) (w : World) :
    Calls Try.prog 8 #[.int .i64 f, .agg a1.cells.toArray] w fun e w' => e = .returned (.bool true) ∧ Below w.heap.size w w' := by
  obtain ⟨c, h, n, s, d, x, y, z⟩ := a1
  have hd0 : d.size ≤ maxLen := w1.2.2.2.2
  clear w1 wf
  show Calls Try.prog 8 #[.int .i64 f, .agg #[.int .i64 c, .int .i64 h, .int .i64 n, .int .i64 s, .string d, .bool x, .bool y, .bool z]] w _
  have hB0 : Hid (Box _ _ _) := Box.new w [.int .i64 c, .int .i64 h, .int .i64 n, .int .i64 s, .string d, .bool x, .bool y, .bool z] 48
  by_cases hd : (1048576 : Int) < d.size
  · go_enter Try.func8, Try.ntmps8
    go_wp2_with fail
    refine (laws_szSectorSpec _ _ _ _ _ _ _ _ _ _ hd0 (by omega) (by omega)).mono ?_
    rintro e w1 ⟨rfl, hb1⟩
    rw [szLeft_neg hd]
    go_wp2
    go_ret
    exact ⟨rfl, bstep (balloc (Below.refl _ _) _) hb1⟩
  · have hd2 : d.size ≤ 1048576 := by omega
    go_enter Try.func8, Try.ntmps8
    go_wp2_with fail
    refine (laws_szSectorSpec _ _ _ _ _ _ _ _ _ _ hd0 (by omega) (by omega)).mono ?_
    rintro e w1 ⟨rfl, hb1⟩
    rw [szLeft_pos (left := 1048576) (n := d.size) (by omega)]
    have hB1 : Hid (Box _ _ _) := Box.step hb1 hB0.out
    obtain ⟨c0, c1, c2, c3, c4, c5, c6, c7⟩ := box8 hB1.out
    go_wp2_with fail
    refine (laws_toSectorSpec _ _ _ _ _ _ _ _ _).mono ?_
    rintro e w2 ⟨rfl, hb2⟩
    go_wp2_with fail
    refine (spec_DataField _ _ _ _ _ _ _ _ _ _ hd2).mono ?_
    rintro e w3 ⟨rfl, hb3⟩
    clear c0 c1 c2 c3 c4 c5 c6 c7
    have hB3 : Hid (Box _ _ _) := Box.step hb3 (Box.step hb2 hB1.out)
    obtain ⟨c0, c1, c2, c3, c4, c5, c6, c7⟩ := box8 hB3.out
    go_wp2_with fail
    refine (laws_toSectorSpec _ _ _ _ _ _ _ _ _).mono ?_
    rintro e w4 ⟨rfl, hb4⟩
    go_wp2_with fail
    refine (impl_DataField _ _ _ _ _ _ _ _ _ _ hd2).mono ?_
    rintro e w5 ⟨rfl, hb5⟩
    have HB := Hid.in_ (bstep (bstep (bstep (bstep (bstep (balloc (Below.refl _ _) _) hb1) hb2) hb3) hb4) hb5)
    clear c0 c1 c2 c3 c4 c5 c6 c7 hb1 hb2 hb3 hb4 hb5
    generalize dataV f c h n s d x z = V
    generalize idOk f c h n s d.size = K
    cases K
    all_goals
      go_wp2
      go_ret
      exact ⟨rfl, HB.out⟩

set_option maxRecDepth 100000 in
theorem FnExactDataField_lifted (os : Os) (started : os.Started) (H : Type) (enc : TypeId × Value → H) :
    ReturnsInHanded {} Try.checked os 8 .any (Rows.fnExactDataFieldSpec.pre6 enc Try.prog Try.f8 Rows.fnExactDataFieldRow.domain false) (Rows.fnExactDataFieldSpec.post enc Try.prog Try.f8 false true false false) := by
  refine returnsInHanded_of_change (C := Try.checked) Try.own started (by kernel_rfl) Try.func8
    (ChangeSpec.witness6 (enc := enc) (C := Try.checked) false ⟨#[], #[.int .i64 0, .agg #[.int .i64 0, .int .i64 0, .int .i64 0, .int .i64 0, .string ByteArray.empty, .bool false, .bool false, .bool false]], []⟩ 8 (by kernel_rfl) (by kernel_rfl) (by kernel_rfl) (by kernel_rfl)) ?_
  intro W base args ds gs before hval0 hW hcnd _
  have hval : ∀ (j : Nat) t v, Try.f8.params[j]? = some t → args[j]? = some v → Value.okWide Try.prog W .any base t v := hval0
  have hW' := hW
  obtain ⟨p, q, hA0, hV, hbe, hfz, hnd⟩ := hW
  have hA : DataW.TrodAll enc Try.prog W 0 (fun _ => true) true Try.f8.params.toList args.toList ds p := hA0
  rw [Try.params8] at hA hval
  obtain ⟨v0, vs0, d0, ds0, p0, q0, hargs, rfl, rfl, h0, r0⟩ := trodAll_cons hA
  obtain ⟨v1, vs1, d1, ds1, p1, q1, rfl, rfl, rfl, h1, r1⟩ := trodAll_cons r0
  obtain ⟨rfl, rfl, rfl⟩ := trodAll_nil r1
  obtain rfl : args = #[v0, v1] := by cases args; simp_all
  obtain ⟨rfl, _⟩ := trodVars_none hV
  obtain ⟨a0, rfl, rfl, rfl, w0⟩ := open_int Try.underlying2 (hval 0 2 v0 rfl rfl) h0
  obtain ⟨a1, rfl, w1⟩ := byval_SecR (hval 1 48 v1 rfl rfl) h1
  clear hA0 hval0
  refine (FnExactDataField_walk a0 w0 a1 w1 W).mono fun e W' ⟨he, hb⟩ => ?_
  subst he
  exact ⟨_, rfl, law_post Try.laidOut (by kernel_rfl) rfl Try.underlying4 rfl rfl hW' hb⟩

theorem FnExactDataField_over : Rows.fnExactDataFieldRow.holds Try.pinned (OpenSpec.ofChange Rows.fnExactDataFieldSpec) :=
  OpenClaim.holds_of_wide 8 Try.f8 rfl rfl rfl rfl rfl rfl rfl ⟨rfl, rfl, rfl, rfl, rfl⟩ rfl rfl rfl rfl rfl (by kernel_rfl) Try.func8 (by kernel_rfl)
    (of_decide_eq_true (by kernel_rfl)) (by unfold Func.isWrapper; first | (rw [if_pos (by decide +kernel)]; kernel_rfl) | (rw [if_neg (by decide +kernel)]; exact ⟨rfl, rfl⟩))
    (fun os started H enc _ => FnExactDataField_lifted os started H enc)

theorem FnExactDataField_proved : Rows.FnExactDataFieldSaid := FnExactDataField_over
#print axioms FnExactDataField_proved
end Go.Proofs.Ytomfagckcfmfjaa
