/- 'FnExactValidFound': for every input the law returns true, and each argument reads behind the call as it read before. No condition. -/
import Derived.Test.YtmbhehoakpicdaaLaw
import Derived.Test.YtmbhehoakpicdaaRec
import Derived.Test.YtmbhehoakpicdaaFound
namespace Go.Proofs.Ytmbhehoakpicdaa
open Go.ChangeShapes Go.WideShapes Go.ChangeAt Go.RowKit
open Go.ChangeMaps (open_string shut_string)
set_option linter.unusedVariables false
set_option maxHeartbeats 400000 in
theorem FnExactValidFound_walk (a0 : FndR) (w0 : a0.ok) (w : World) :
    Calls Try.prog 7 #[.agg a0.cells.toArray] w fun e w' => e = .returned (.bool true) ∧ Below w.heap.size w w' := by
  obtain ⟨c, h, n, s, d, t, l, p⟩ := a0
  have hd0 : d.size ≤ maxLen := w0.2.2.2.2.1
  clear w0
  show Calls Try.prog 7 #[.agg #[.int .i64 c, .int .i64 h, .int .i64 n, .int .i64 s, .string d, .int .i64 t, .bool l, .int .i64 p]] w _
  have hB0 : Hid (Box _ _ _) := Box.new w [.int .i64 c, .int .i64 h, .int .i64 n, .int .i64 s, .string d, .int .i64 t, .bool l, .int .i64 p] 40
  by_cases hd : (1048576 : Int) < d.size
  · go_enter Try.func7, Try.ntmps7
    go_wp2_with fail
    refine (laws_szFound _ _ _ _ _ _ _ _ _ _ hd0 (by omega) (by omega)).mono ?_
    rintro e w1 ⟨rfl, hb1⟩
    rw [szLeft_neg hd]
    go_wp2
    go_ret
    exact ⟨rfl, bstep (balloc (Below.refl _ _) _) hb1⟩
  · have hd2 : d.size ≤ 1048576 := by omega
    go_enter Try.func7, Try.ntmps7
    go_wp2_with fail
    refine (laws_szFound _ _ _ _ _ _ _ _ _ _ hd0 (by omega) (by omega)).mono ?_
    rintro e w1 ⟨rfl, hb1⟩
    rw [szLeft_pos (left := 1048576) (n := d.size) (by omega)]
    have hB1 : Hid (Box _ _ _) := Box.step hb1 hB0.out
    obtain ⟨c0, c1, c2, c3, c4, c5, c6, c7⟩ := box8 hB1.out
    go_wp2_with fail
    refine (laws_toFound _ _ _ _ _ _ _ _ _).mono ?_
    rintro e w2 ⟨rfl, hb2⟩
    go_wp2_with fail
    refine (spec_ValidFound _ _ _ _ _ _ _ _ _ hd2).mono ?_
    rintro e w3 ⟨rfl, hb3⟩
    clear c0 c1 c2 c3 c4 c5 c6 c7
    have hB3 : Hid (Box _ _ _) := Box.step hb3 (Box.step hb2 hB1.out)
    obtain ⟨c0, c1, c2, c3, c4, c5, c6, c7⟩ := box8 hB3.out
    go_wp2_with fail
    refine (laws_toFound _ _ _ _ _ _ _ _ _).mono ?_
    rintro e w4 ⟨rfl, hb4⟩
    go_wp2_with fail
    refine (impl_ValidFound _ _ _ _ _ _ _ _ _ hd2).mono ?_
    rintro e w5 ⟨rfl, hb5⟩
    go_wp2
    go_ret
    exact ⟨rfl, bstep (bstep (bstep (bstep (bstep (balloc (Below.refl _ _) _) hb1) hb2) hb3) hb4) hb5⟩

set_option maxRecDepth 100000 in
theorem FnExactValidFound_lifted (os : Os) (started : os.Started) (H : Type) (enc : TypeId × Value → H) :
    ReturnsInHanded {} Try.checked os 7 .any (Rows.fnExactValidFoundSpec.pre6 enc Try.prog Try.f7 Rows.fnExactValidFoundRow.domain false) (Rows.fnExactValidFoundSpec.post enc Try.prog Try.f7 false true false false) := by
  refine returnsInHanded_of_change (C := Try.checked) Try.own started (by kernel_rfl) Try.func7
    (ChangeSpec.witness6 (enc := enc) (C := Try.checked) false ⟨#[], #[.agg #[.int .i64 0, .int .i64 0, .int .i64 0, .int .i64 0, .string ByteArray.empty, .int .i64 0, .bool false, .int .i64 0]], []⟩ 8 (by kernel_rfl) (by kernel_rfl) (by kernel_rfl) (by kernel_rfl)) ?_
  intro W base args ds gs before hval0 hW hcnd _
  have hval : ∀ (j : Nat) t v, Try.f7.params[j]? = some t → args[j]? = some v → Value.okWide Try.prog W .any base t v := hval0
  have hW' := hW
  obtain ⟨p, q, hA0, hV, hbe, hfz, hnd⟩ := hW
  have hA : DataW.TrodAll enc Try.prog W 0 (fun _ => true) true Try.f7.params.toList args.toList ds p := hA0
  rw [Try.params7] at hA hval
  obtain ⟨v0, vs0, d0, ds0, p0, q0, hargs, rfl, rfl, h0, r0⟩ := trodAll_cons hA
  obtain ⟨rfl, rfl, rfl⟩ := trodAll_nil r0
  obtain rfl : args = #[v0] := by cases args; simp_all
  obtain ⟨rfl, _⟩ := trodVars_none hV
  obtain ⟨a0, rfl, w0⟩ := byval_FndR (hval 0 40 v0 rfl rfl) h0
  clear hA0 hval0
  refine (FnExactValidFound_walk a0 w0 W).mono fun e W' ⟨he, hb⟩ => ?_
  subst he
  exact ⟨_, rfl, law_post Try.laidOut (by kernel_rfl) rfl Try.underlying4 rfl rfl hW' hb⟩

theorem FnExactValidFound_over : Rows.fnExactValidFoundRow.holds Try.pinned (OpenSpec.ofChange Rows.fnExactValidFoundSpec) :=
  OpenClaim.holds_of_wide 7 Try.f7 rfl rfl rfl rfl rfl rfl rfl ⟨rfl, rfl, rfl, rfl, rfl⟩ rfl rfl rfl rfl rfl (by kernel_rfl) Try.func7 (by kernel_rfl)
    (of_decide_eq_true (by kernel_rfl)) (by unfold Func.isWrapper; first | (rw [if_pos (by decide +kernel)]; kernel_rfl) | (rw [if_neg (by decide +kernel)]; exact ⟨rfl, rfl⟩))
    (fun os started H enc _ => FnExactValidFound_lifted os started H enc)

theorem FnExactValidFound_proved : Rows.FnExactValidFoundSaid := FnExactValidFound_over
#print axioms FnExactValidFound_proved
end Go.Proofs.Ytmbhehoakpicdaa
