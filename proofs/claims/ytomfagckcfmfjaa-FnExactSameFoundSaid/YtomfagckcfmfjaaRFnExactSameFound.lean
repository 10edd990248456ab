/- 'FnExactSameFound': for every input the law returns true, and each argument reads behind the call as it read before. No condition. -/
import Derived.Test.YtomfagckcfmfjaaLaw
import Derived.Test.YtomfagckcfmfjaaSame
import Derived.Test.YtomfagckcfmfjaaRecF
import Derived.Test.YtomfagckcfmfjaaRows
namespace Go.Proofs.Ytomfagckcfmfjaa
open Go.ChangeShapes Go.WideShapes Go.ChangeAt Go.RowKit
open Go.ChangeMaps (open_string shut_string)
set_option linter.unusedVariables false
theorem FnExactSameFound_walk (A0 : Option Addr) (cap0 : Nat) (l0 : List FndR) (w : World) (s0 : ArgS w A0 l0.length cap0 8 (l0.flatMap FndR.cells)) (k0 : ∀ r ∈ l0, r.ok)
    (A1 : Option Addr) (cap1 : Nat) (l1 : List FndR) (s1 : ArgS w A1 l1.length cap1 8 (l1.flatMap FndR.cells)) (k1 : ∀ r ∈ l1, r.ok) :
    Calls Try.prog 3 #[.slice A0 l0.length cap0, .slice A1 l1.length cap1] w fun e w' => e = .returned (.bool true) ∧ Below w.heap.size w w' := by
  obtain ⟨n, hn⟩ : ∃ n, l0.length = n := ⟨_, rfl⟩
  obtain ⟨m, hm⟩ : ∃ m, l1.length = m := ⟨_, rfl⟩
  rw [hn] at s0 ⊢
  rw [hm] at s1 ⊢
  have HN := Hid.in_ hn
  have HM := Hid.in_ hm
  have HS := Hid.in_ s0
  have HR := Hid.in_ s1
  have HK0 := Hid.in_ k0
  have HK1 := Hid.in_ k1
  clear s0 s1 k0 k1 hn hm
  go_enter Try.func3, Try.ntmps3
  go_wp2_with fail
  refine (laws_szFoundS _ _ HS.out HN.out HK0.out (by omega) (by omega)).mono ?_
  rintro e w1 ⟨rfl | ⟨r, rfl, hr0, hr1, _⟩, hb1⟩
  · go_wp2
    go_ret
    exact ⟨rfl, hb1⟩
  have HB1 := Hid.in_ hb1
  have HR1 := Hid.in_ (HR.out.below hb1)
  clear hb1
  go_wp2_with fail
  refine (laws_szFoundS _ _ HR1.out HM.out HK1.out hr0 (by omega)).mono ?_
  rintro e w2 ⟨rfl | ⟨t, rfl, ht0, ht1, _⟩, hb2⟩
  · have HB := Hid.in_ (bstep HB1.out hb2)
    go_wp2
    go_ret
    exact ⟨rfl, HB.out⟩
  have hn2 : n ≤ 1048576 := by omega
  have hm2 : m ≤ 1048576 := by omega
  have HB2 := Hid.in_ (bstep HB1.out hb2)
  clear HB1 HR1 hb2
  have HS2 := Hid.in_ (HS.out.below HB2.out)
  go_wp2_with fail
  refine (laws_toFoundS _ HS2.out HN.out hn2).mono ?_
  rintro e w3 ⟨v3, rfl, ho3, hb3⟩
  have HB3 := Hid.in_ (bstep HB2.out hb3)
  have HR3 := Hid.in_ (HR.out.below HB3.out)
  go_wp2_with fail
  refine (laws_toFoundS _ HR3.out HM.out hm2).mono ?_
  rintro e w4 ⟨v4, rfl, ho4, hb4⟩
  have HB4 := Hid.in_ (bstep HB3.out hb4)
  go_wp2_with fail
  refine (spec_SameFound _ (ostep hb4 ho3) ho4).mono ?_
  rintro e w5 ⟨rfl, hb5⟩
  have HB5 := Hid.in_ (bstep HB4.out hb5)
  clear HB2 HB3 HB4 HR3 HS2 ho3 ho4 hb3 hb4 hb5
  have HS5 := Hid.in_ (HS.out.below HB5.out)
  go_wp2_with fail
  refine (laws_toFoundS _ HS5.out HN.out hn2).mono ?_
  rintro e w6 ⟨v6, rfl, ho6, hb6⟩
  have HB6 := Hid.in_ (bstep HB5.out hb6)
  have HR6 := Hid.in_ (HR.out.below HB6.out)
  go_wp2_with fail
  refine (laws_toFoundS _ HR6.out HM.out hm2).mono ?_
  rintro e w7 ⟨v7, rfl, ho7, hb7⟩
  have HB7 := Hid.in_ (bstep HB6.out hb7)
  have ho6' := ostep hb7 ho6
  clear ho6
  go_wp2_with fail
  refine (impl_SameFound _ ho6' ho7).mono ?_
  rintro e w8 ⟨rfl, hb8⟩
  have HB8 := Hid.in_ (bstep HB7.out hb8)
  have HO6 := Hid.in_ (ostep hb8 ho6')
  have HO7 := Hid.in_ (ostep hb8 ho7)
  have HS8 := Hid.in_ (HS.out.below HB8.out)
  clear ho6' ho7 hb6 hb7 hb8 HB5 HB6 HB7 HR6 HS5
  generalize listSame FndR.same l0 l1 = z
  go_wp2_with fail
  refine (laws_toFoundS _ HS8.out HN.out hn2).mono ?_
  rintro e w9 ⟨v9, rfl, ho9, hb9⟩
  have HB9 := Hid.in_ (bstep HB8.out hb9)
  have HO69 := Hid.in_ (ostep hb9 HO6.out)
  have HO79 := Hid.in_ (ostep hb9 HO7.out)
  go_wp2_with fail
  refine (laws_eqFoundS _ HO69.out ho9).mono ?_
  rintro e w10 ⟨rfl, hb10⟩
  have HB10 := Hid.in_ (bstep HB9.out hb10)
  have HR10 := Hid.in_ (HR.out.below HB10.out)
  have HO710 := Hid.in_ (ostep hb10 HO79.out)
  clear ho9 hb9 hb10 HO6 HO7 HO69 HO79 HS8 HB8 HB9
  go_wp2_with fail
  refine (laws_toFoundS _ HR10.out HM.out hm2).mono ?_
  rintro e w11 ⟨v11, rfl, ho11, hb11⟩
  have HB11 := Hid.in_ (bstep HB10.out hb11)
  have HO711 := Hid.in_ (ostep hb11 HO710.out)
  go_wp2_with fail
  refine (laws_eqFoundS _ HO711.out ho11).mono ?_
  rintro e w12 ⟨rfl, hb12⟩
  have HB12 := Hid.in_ (bstep HB11.out hb12)
  clear ho11 hb11 hb12
  go_wp2
  go_ret
  exact ⟨rfl, HB12.out⟩

set_option maxRecDepth 100000 in
theorem FnExactSameFound_lifted (os : Os) (started : os.Started) (H : Type) (enc : TypeId × Value → H) :
    ReturnsInHanded {} Try.checked os 3 .any (Rows.fnExactSameFoundSpec.pre6 enc Try.prog Try.f3 Rows.fnExactSameFoundRow.domain false) (Rows.fnExactSameFoundSpec.post enc Try.prog Try.f3 false true false false) := by
  refine returnsInHanded_of_change (C := Try.checked) Try.own started (by kernel_rfl) Try.func3
    (ChangeSpec.witness6 (enc := enc) (C := Try.checked) false ⟨#[], #[.slice none 0 0, .slice none 0 0], []⟩ 8 (by kernel_rfl) (by kernel_rfl) (by kernel_rfl) (by kernel_rfl)) ?_
  intro W base args ds gs before hval0 hW hcnd _
  have hval : ∀ (j : Nat) t v, Try.f3.params[j]? = some t → args[j]? = some v → Value.okWide Try.prog W .any base t v := hval0
  have hW' := hW
  obtain ⟨p, q, hA0, hV, hbe, hfz, hnd⟩ := hW
  have hA : DataW.TrodAll enc Try.prog W 0 (fun _ => true) true Try.f3.params.toList args.toList ds p := hA0
  rw [Try.params3] at hA hval
  obtain ⟨v0, vs0, d0, ds0, p0, q0, hargs, rfl, rfl, h0, r0⟩ := trodAll_cons hA
  obtain ⟨v1, vs1, d1, ds1, p1, q1, rfl, rfl, rfl, h1, r1⟩ := trodAll_cons r0
  obtain ⟨rfl, rfl, rfl⟩ := trodAll_nil r1
  obtain rfl : args = #[v0, v1] := by cases args; simp_all
  obtain ⟨rfl, _⟩ := trodVars_none hV
  obtain ⟨A0, cap0, l0, rfl, s0, k0⟩ := slice_FndR (hval 0 22 v0 rfl rfl) h0
  obtain ⟨A1, cap1, l1, rfl, s1, k1⟩ := slice_FndR (hval 1 22 v1 rfl rfl) h1
  clear hA0 hval0
  refine (FnExactSameFound_walk A0 cap0 l0 W s0 k0 A1 cap1 l1 s1 k1).mono fun e W' ⟨he, hb⟩ => ?_
  subst he
  exact ⟨_, rfl, law_post Try.laidOut (by kernel_rfl) rfl Try.underlying4 rfl rfl hW' hb⟩

theorem FnExactSameFound_over : Rows.fnExactSameFoundRow.holds Try.pinned (OpenSpec.ofChange Rows.fnExactSameFoundSpec) :=
  OpenClaim.holds_of_wide 3 Try.f3 rfl rfl rfl rfl rfl rfl rfl ⟨rfl, rfl, rfl, rfl, rfl⟩ rfl rfl rfl rfl rfl (by kernel_rfl) Try.func3 (by kernel_rfl)
    (of_decide_eq_true (by kernel_rfl)) (by unfold Func.isWrapper; first | (rw [if_pos (by decide +kernel)]; kernel_rfl) | (rw [if_neg (by decide +kernel)]; exact ⟨rfl, rfl⟩))
    (fun os started H enc _ => FnExactSameFound_lifted os started H enc)

theorem FnExactSameFound_proved : Rows.FnExactSameFoundSaid := FnExactSameFound_over
#print axioms FnExactSameFound_proved
end Go.Proofs.Ytomfagckcfmfjaa
