/- 'FnExactNextMark': for every input the law returns true, and each argument reads behind the call as it read before. No condition. -/
import Derived.Test.YtmbhehoakpicdaaLaw
import Derived.Test.YtmbhehoakpicdaaRec
import Derived.Test.YtmbhehoakpicdaaMarks
namespace Go.Proofs.Ytmbhehoakpicdaa
open Go.ChangeShapes Go.WideShapes Go.ChangeAt Go.RowKit
open Go.ChangeMaps (open_string shut_string)
set_option linter.unusedVariables false
theorem FnExactNextMark_walk (A0 : Option Addr) (cap0 : Nat) (l0 : List MarkR) (w : World) (s0 : ArgS w A0 l0.length cap0 3 (l0.flatMap MarkR.cells)) (k0 : ∀ r ∈ l0, r.ok) (a1 : Int) (w1 : (Lit.int .i64 a1).wf = true) :
    Calls Try.prog 11 #[.slice A0 l0.length cap0, .int .i64 a1] w fun e w' => e = .returned (.bool true) ∧ Below w.heap.size w w' := by
  obtain ⟨n, hn⟩ : ∃ n, l0.length = n := ⟨_, rfl⟩
  rw [hn] at s0 ⊢
  have hm : n ≤ maxLen := Nat.le_trans s0.2.1 s0.2.2.1
  have HN := Hid.in_ hn
  have HS := Hid.in_ s0
  clear s0 k0 hn
  by_cases hd : (1048576 : Int) < n
  · go_enter Try.func11, Try.ntmps11
    go_wp2_with fail
    refine (laws_szMarkS _ _ hm (by omega) (by omega)).mono ?_
    rintro e w1 ⟨rfl, rfl⟩
    rw [szLeft_neg hd]
    go_wp2
    go_ret
    exact ⟨rfl, Below.refl _ _⟩
  · have hn2 : n ≤ 1048576 := by omega
    go_enter Try.func11, Try.ntmps11
    go_wp2_with fail
    refine (laws_szMarkS _ _ hm (by omega) (by omega)).mono ?_
    rintro e w1 ⟨rfl, rfl⟩
    rw [szLeft_pos (left := 1048576) (n := n) (by omega)]
    go_wp2_with fail
    refine (laws_toMarkS _ HS.out HN.out hn2).mono ?_
    rintro e w2 ⟨v2, rfl, ho2, hb2⟩
    go_wp2_with fail
    refine (spec_NextMark _ _ ho2).mono ?_
    rintro e w3 ⟨rfl, hb3⟩
    have hb3' := bstep hb2 hb3
    have HS3 := Hid.in_ (HS.out.below hb3')
    go_wp2_with fail
    refine (laws_toMarkS _ HS3.out HN.out hn2).mono ?_
    rintro e w4 ⟨v4, rfl, ho4, hb4⟩
    go_wp2_with fail
    refine (impl_NextMark _ _ ho4).mono ?_
    rintro e w5 ⟨rfl, hb5⟩
    have hb5' := bstep (bstep hb3' hb4) hb5
    have HS5 := Hid.in_ (HS.out.below hb5')
    go_wp2_with fail
    refine (laws_toMarkS _ HS5.out HN.out hn2).mono ?_
    rintro e w6 ⟨v6, rfl, ho6, hb6⟩
    go_wp2_with fail
    refine (laws_eqMarkS _ (ostep hb6 (ostep hb5 ho4)) ho6).mono ?_
    rintro e w7 ⟨rfl, hb7⟩
    go_wp2
    go_ret
    exact ⟨rfl, bstep (bstep hb5' hb6) hb7⟩

set_option maxRecDepth 100000 in
theorem FnExactNextMark_lifted (os : Os) (started : os.Started) (H : Type) (enc : TypeId × Value → H) :
    ReturnsInHanded {} Try.checked os 11 .any (Rows.fnExactNextMarkSpec.pre6 enc Try.prog Try.f11 Rows.fnExactNextMarkRow.domain false) (Rows.fnExactNextMarkSpec.post enc Try.prog Try.f11 false true false false) := by
  refine returnsInHanded_of_change (C := Try.checked) Try.own started (by kernel_rfl) Try.func11
    (ChangeSpec.witness6 (enc := enc) (C := Try.checked) false ⟨#[], #[.slice none 0 0, .int .i64 0], []⟩ 8 (by kernel_rfl) (by kernel_rfl) (by kernel_rfl) (by kernel_rfl)) ?_
  intro W base args ds gs before hval0 hW hcnd _
  have hval : ∀ (j : Nat) t v, Try.f11.params[j]? = some t → args[j]? = some v → Value.okWide Try.prog W .any base t v := hval0
  have hW' := hW
  obtain ⟨p, q, hA0, hV, hbe, hfz, hnd⟩ := hW
  have hA : DataW.TrodAll enc Try.prog W 0 (fun _ => true) true Try.f11.params.toList args.toList ds p := hA0
  rw [Try.params11] at hA hval
  obtain ⟨v0, vs0, d0, ds0, p0, q0, hargs, rfl, rfl, h0, r0⟩ := trodAll_cons hA
  obtain ⟨v1, vs1, d1, ds1, p1, q1, rfl, rfl, rfl, h1, r1⟩ := trodAll_cons r0
  obtain ⟨rfl, rfl, rfl⟩ := trodAll_nil r1
  obtain rfl : args = #[v0, v1] := by cases args; simp_all
  obtain ⟨rfl, _⟩ := trodVars_none hV
  obtain ⟨A0, cap0, l0, rfl, s0, k0⟩ := slice_MarkR (hval 0 51 v0 rfl rfl) h0
  obtain ⟨a1, rfl, rfl, rfl, w1⟩ := open_int Try.underlying2 (hval 1 2 v1 rfl rfl) h1
  clear hA0 hval0
  refine (FnExactNextMark_walk A0 cap0 l0 W s0 k0 a1 w1).mono fun e W' ⟨he, hb⟩ => ?_
  subst he
  exact ⟨_, rfl, law_post Try.laidOut (by kernel_rfl) rfl Try.underlying4 rfl rfl hW' hb⟩

theorem FnExactNextMark_over : Rows.fnExactNextMarkRow.holds Try.pinned (OpenSpec.ofChange Rows.fnExactNextMarkSpec) :=
  OpenClaim.holds_of_wide 11 Try.f11 rfl rfl rfl rfl rfl rfl rfl ⟨rfl, rfl, rfl, rfl, rfl⟩ rfl rfl rfl rfl rfl (by kernel_rfl) Try.func11 (by kernel_rfl)
    (of_decide_eq_true (by kernel_rfl)) (by unfold Func.isWrapper; first | (rw [if_pos (by decide +kernel)]; kernel_rfl) | (rw [if_neg (by decide +kernel)]; exact ⟨rfl, rfl⟩))
    (fun os started H enc _ => FnExactNextMark_lifted os started H enc)

theorem FnExactNextMark_proved : Rows.FnExactNextMarkSaid := FnExactNextMark_over
#print axioms FnExactNextMark_proved
end Go.Proofs.Ytmbhehoakpicdaa
