/- 'FnExactBestFound': for every input the law returns true, and each argument reads behind the call as it read before. No condition. -/
import Derived.Test.YtomfagckcfmfjaaLaw
import Derived.Test.YtomfagckcfmfjaaSame
import Derived.Test.YtomfagckcfmfjaaBest
import Derived.Test.YtomfagckcfmfjaaRecF
import Derived.Test.YtomfagckcfmfjaaRows
namespace Go.Proofs.Ytomfagckcfmfjaa
open Go.ChangeShapes Go.WideShapes Go.ChangeAt Go.RowKit
open Go.ChangeMaps (open_string shut_string)
set_option linter.unusedVariables false
theorem FnExactBestFound_walk (A0 : Option Addr) (cap0 : Nat) (l0 : List FndR) (w : World) (s0 : ArgS w A0 l0.length cap0 8 (l0.flatMap FndR.cells)) (k0 : ∀ r ∈ l0, r.ok)
    (a1 : Int) (w1 : (Lit.int .i64 a1).wf = true) (a2 : Int) (w2 : (Lit.int .i64 a2).wf = true) (a3 : Int) (w3 : (Lit.int .i64 a3).wf = true) :
    Calls Try.prog 9 #[.slice A0 l0.length cap0, .int .i64 a1, .int .i64 a2, .int .i64 a3] w fun e w' => e = .returned (.bool true) ∧ Below w.heap.size w w' := by
  obtain ⟨n, hn⟩ : ∃ n, l0.length = n := ⟨_, rfl⟩
  rw [hn] at s0 ⊢
  have HN := Hid.in_ hn
  have HS := Hid.in_ s0
  have HK0 := Hid.in_ k0
  clear s0 k0 hn w1 w2 w3
  go_enter Try.func9, Try.ntmps9
  go_wp2_with fail
  refine (laws_szFoundS _ _ HS.out HN.out HK0.out (by omega) (by omega)).mono ?_
  rintro e w1 ⟨rfl | ⟨r, rfl, hr0, hr1, hrd⟩, hb1⟩
  · go_wp2
    go_ret
    exact ⟨rfl, hb1⟩
  have HB1 := Hid.in_ hb1
  have HD : Hid (∀ x ∈ l0, x.d.size ≤ 1048576) := fun x hx => by have := hrd x hx; omega
  have hn2 : n ≤ 1048576 := by omega
  have HS1 := Hid.in_ (HS.out.below hb1)
  clear hb1 hrd
  go_wp2_with fail
  refine (laws_toFoundS _ HS1.out HN.out hn2).mono ?_
  rintro e w3 ⟨v3, rfl, ho3, hb3⟩
  have HB3 := Hid.in_ (bstep HB1.out hb3)
  go_wp2_with fail
  refine (spec_BestFound _ _ _ _ ho3 HD.out).mono ?_
  rintro e w5 ⟨⟨x, b, rfl, hx⟩, hb5⟩
  have HX := Hid.in_ hx
  have HB5 := Hid.in_ (bstep HB3.out hb5)
  have HS5 := Hid.in_ (HS.out.below HB5.out)
  clear hx ho3 hb3 hb5 HB1 HB3 HS1
  go_wp2_with fail
  refine (laws_toFoundS _ HS5.out HN.out hn2).mono ?_
  rintro e w6 ⟨v6, rfl, ho6, hb6⟩
  have HB6 := Hid.in_ (bstep HB5.out hb6)
  go_wp2_with fail
  refine (impl_BestFound _ _ _ _ ho6 HD.out).mono ?_
  rintro e w8 ⟨⟨x', b', rfl, hx'⟩, hb8⟩
  obtain ⟨rfl, rfl⟩ := HX.out.unique hx'
  have HB8 := Hid.in_ (bstep HB6.out hb8)
  have HO6 := Hid.in_ (ostep hb8 ho6)
  have HS8 := Hid.in_ (HS.out.below HB8.out)
  clear ho6 hb6 hb8 HB5 HB6 HS5 hx' HX
  cases b'
  all_goals
    go_wp2_with fail
    refine (laws_toFoundS _ HS8.out HN.out hn2).mono ?_
    rintro e w9 ⟨v9, rfl, ho9, hb9⟩
    have HB9 := Hid.in_ (bstep HB8.out hb9)
    have HO69 := Hid.in_ (ostep hb9 HO6.out)
    go_wp2_with fail
    refine (laws_eqFoundS _ HO69.out ho9).mono ?_
    rintro e w10 ⟨rfl, hb10⟩
    have HB10 := Hid.in_ (bstep HB9.out hb10)
    go_wp2
    go_ret
    exact ⟨rfl, HB10.out⟩

set_option maxRecDepth 100000 in
theorem FnExactBestFound_lifted (os : Os) (started : os.Started) (H : Type) (enc : TypeId × Value → H) :
    ReturnsInHanded {} Try.checked os 9 .any (Rows.fnExactBestFoundSpec.pre6 enc Try.prog Try.f9 Rows.fnExactBestFoundRow.domain false) (Rows.fnExactBestFoundSpec.post enc Try.prog Try.f9 false true false false) := by
  refine returnsInHanded_of_change (C := Try.checked) Try.own started (by kernel_rfl) Try.func9
    (ChangeSpec.witness6 (enc := enc) (C := Try.checked) false ⟨#[], #[.slice none 0 0, .int .i64 0, .int .i64 0, .int .i64 0], []⟩ 8 (by kernel_rfl) (by kernel_rfl) (by kernel_rfl) (by kernel_rfl)) ?_
  intro W base args ds gs before hval0 hW hcnd _
  have hval : ∀ (j : Nat) t v, Try.f9.params[j]? = some t → args[j]? = some v → Value.okWide Try.prog W .any base t v := hval0
  have hW' := hW
  obtain ⟨p, q, hA0, hV, hbe, hfz, hnd⟩ := hW
  have hA : DataW.TrodAll enc Try.prog W 0 (fun _ => true) true Try.f9.params.toList args.toList ds p := hA0
  rw [Try.params9] at hA hval
  obtain ⟨v0, vs0, d0, ds0, p0, q0, hargs, rfl, rfl, h0, r0⟩ := trodAll_cons hA
  obtain ⟨v1, vs1, d1, ds1, p1, q1, rfl, rfl, rfl, h1, r1⟩ := trodAll_cons r0
  obtain ⟨v2, vs2, d2, ds2, p2, q2, rfl, rfl, rfl, h2, r2⟩ := trodAll_cons r1
  obtain ⟨v3, vs3, d3, ds3, p3, q3, rfl, rfl, rfl, h3, r3⟩ := trodAll_cons r2
  obtain ⟨rfl, rfl, rfl⟩ := trodAll_nil r3
  obtain rfl : args = #[v0, v1, v2, v3] := by cases args; simp_all
  obtain ⟨rfl, _⟩ := trodVars_none hV
  obtain ⟨A0, cap0, l0, rfl, s0, k0⟩ := slice_FndR (hval 0 22 v0 rfl rfl) h0
  obtain ⟨a1, rfl, rfl, rfl, w1⟩ := open_int Try.underlying2 (hval 1 2 v1 rfl rfl) h1
  obtain ⟨a2, rfl, rfl, rfl, w2⟩ := open_int Try.underlying2 (hval 2 2 v2 rfl rfl) h2
  obtain ⟨a3, rfl, rfl, rfl, w3⟩ := open_int Try.underlying2 (hval 3 2 v3 rfl rfl) h3
  clear hA0 hval0
  refine (FnExactBestFound_walk A0 cap0 l0 W s0 k0 a1 w1 a2 w2 a3 w3).mono fun e W' ⟨he, hb⟩ => ?_
  subst he
  exact ⟨_, rfl, law_post Try.laidOut (by kernel_rfl) rfl Try.underlying4 rfl rfl hW' hb⟩

theorem FnExactBestFound_over : Rows.fnExactBestFoundRow.holds Try.pinned (OpenSpec.ofChange Rows.fnExactBestFoundSpec) :=
  OpenClaim.holds_of_wide 9 Try.f9 rfl rfl rfl rfl rfl rfl rfl ⟨rfl, rfl, rfl, rfl, rfl⟩ rfl rfl rfl rfl rfl (by kernel_rfl) Try.func9 (by kernel_rfl)
    (of_decide_eq_true (by kernel_rfl)) (by unfold Func.isWrapper; first | (rw [if_pos (by decide +kernel)]; kernel_rfl) | (rw [if_neg (by decide +kernel)]; exact ⟨rfl, rfl⟩))
    (fun os started H enc _ => FnExactBestFound_lifted os started H enc)

theorem FnExactBestFound_proved : Rows.FnExactBestFoundSaid := FnExactBestFound_over
#print axioms FnExactBestFound_proved
end Go.Proofs.Ytomfagckcfmfjaa
