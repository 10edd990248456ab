/- 'FnExactWeakFeatures': for every input the law returns true, and each argument reads behind the call as it read before. No condition. -/
import Derived.Test.YtlelgpknkgjaeaaLaw
import Derived.Test.YtlelgpknkgjaeaaWeak
import Derived.Test.YtlelgpknkgjaeaaRows
namespace Go.Proofs.Ytlelgpknkgjaeaa
open Go.ChangeShapes Go.WideShapes Go.ChangeAt Go.RowKit
open Go.ChangeMaps (open_string shut_string)
set_option linter.unusedVariables false
set_option maxHeartbeats 4000000 in
theorem FnExactWeakFeatures_walk (A0 : Option Addr) (cap0 : Nat) (l0 : List VotA) (w : World) (s0 : ArgS w A0 l0.length cap0 9 (l0.flatMap VotA.cells)) (k0 : ∀ r ∈ l0, r.ok w) :
    Calls Try.prog 6 #[.slice A0 l0.length cap0] w fun e w' => e = .returned (.bool true) ∧ Below w.heap.size w w' := by
  obtain ⟨n, hn⟩ : ∃ n, l0.length = n := ⟨_, rfl⟩
  rw [hn] at s0 ⊢
  have HN := Hid.in_ hn
  have HS := Hid.in_ s0
  have HK := Hid.in_ k0
  obtain ⟨l, hl⟩ : ∃ l, l0.map VotA.r = l := ⟨_, rfl⟩
  have HLN := Hid.in_ (show l.length = n by rw [← hl, List.length_map, hn])
  have hle := weakL_len l
  clear s0 k0 hn
  go_enter Try.func6, Try.ntmps6
  go_wp2_with fail
  refine (laws_szVotedS _ _ w HS.out HN.out HK.out (by omega) (by omega)).mono ?_
  rintro e w1 ⟨rfl | ⟨r, rfl, hr0, hr1, hr2⟩, hb1⟩
  · go_wp2
    go_ret
    exact ⟨rfl, hb1⟩
  rw [hl] at hr1
  have hn2 : n ≤ 1048576 := by omega
  have hsum : sumTo l n ≤ 1048576 := by omega
  have HZ0 := Hid.in_ (show ∀ r ∈ l0, r.r.l.length ≤ 1048576 from fun x hx => by have := (hr2 x hx).2; omega)
  have HZ := Hid.in_ (show ∀ r ∈ l, r.d.size ≤ 1048576 ∧ r.l.length ≤ 1048576 from fun x hx => by
    rw [← hl] at hx
    obtain ⟨y, hy, rfl⟩ := List.mem_map.1 hx
    have := hr2 y hy
    omega)
  have HSM := Hid.in_ hsum
  have C0 := Hid.in_ (show ∀ (w' : World), Below w.heap.size w w' → Calls Try.prog 19 #[.slice A0 n cap0] w' fun e w'' => ∃ v os, e = .returned v ∧ os.map VotO.r = l ∧ VRow w'' w'.heap.size v os ∧ Below w'.heap.size w' w'' from fun w' hw => by
    rw [← hl]
    exact laws_toVotedS w' w (HS.out.below hw) HN.out HK.out hw HZ0.out hn2)
  have hne : ¬ (((posAt 1 l n : Nat) : Int) < 0) := by omega
  have hne2 : ¬ ((1 : Int) + 3 * ((weakL l).length : Int) < 0) := by omega
  clear hr1 hr2 hsum hl
  have HB1 := Hid.in_ hb1
  clear hb1
  go_wp2_with fail
  refine (C0.out _ HB1.out).mono ?_
  rintro e w2 ⟨v2, o2, rfl, he2, ho2, hb2⟩
  have hB2 := bstep HB1.out hb2
  go_wp2_with fail
  refine (spec_WeakFeatures _ ho2 he2 HLN.out HZ.out hn2).mono ?_
  rintro e w3 ⟨v3, rfl, ho3, hb3⟩
  have hB3 := bstep hB2 hb3
  clear ho2 he2
  go_wp2_with fail
  refine (C0.out _ hB3).mono ?_
  rintro e w4 ⟨v4, o4, rfl, he4, ho4, hb4⟩
  have hB4 := bstep hB3 hb4
  have HE4 := Hid.in_ he4
  clear he4
  go_wp2_with fail
  refine (impl_WeakFeatures _ ho4 HE4.out HLN.out HZ.out hn2).mono ?_
  rintro e w5 ⟨v5, rfl, ho5, hb5⟩
  have hB5 := bstep hB4 hb5
  go_wp2_with fail
  refine (laws_eqFeatureS _ ho5 (ostep hb5 (ostep hb4 ho3))).mono ?_
  rintro e w6 ⟨rfl, hb6⟩
  have hB6 := bstep hB5 hb6
  go_wp2_with fail
  refine (C0.out _ hB6).mono ?_
  rintro e w7 ⟨v7, o7, rfl, he7, ho7, hb7⟩
  have hB7 := bstep hB6 hb7
  have HE7 := Hid.in_ he7
  clear he7
  go_wp2_with fail
  refine (laws_eqVotedS _ (VRow.step hb7 (VRow.step hb6 (VRow.step hb5 ho4))) ho7 (HE4.out.trans HE7.out.symm)).mono ?_
  rintro e w8 ⟨rfl, hb8⟩
  have hB8 := bstep hB7 hb8
  have HX8 := Hid.in_ (VRow.step hb8 (VRow.step hb7 (VRow.step hb6 (VRow.step hb5 ho4))))
  have HP8 := Hid.in_ (ostep hb8 (ostep hb7 (ostep hb6 (ostep hb5 (ostep hb4 ho3)))))
  have HQ8 := Hid.in_ (ostep hb8 (ostep hb7 (ostep hb6 ho5)))
  have HB8 := Hid.in_ hB8
  have HG3 := Hid.in_ hB3.size
  have HG4 := Hid.in_ hB4.size
  have HG34 := Hid.in_ hb4.size
  have HG38 := Hid.in_ (show w3.heap.size ≤ w8.heap.size from Nat.le_trans hb4.size (Nat.le_trans hb5.size (Nat.le_trans hb6.size (Nat.le_trans hb7.size hb8.size))))
  have HO3 := Hid.in_ ho3
  have HO5 := Hid.in_ ho5
  clear ho3 ho4 ho5 ho7 hb2 hb3 hb4 hb5 hb6 hb7 hb8 hB2 hB3 hB4 hB5 hB6 hB7 hB8 HB1
  go_wp2_with fail
  refine (show Calls Try.prog 32 #[v4, .int .i64 1] _ _ from laws_markVotedS 1 _ HX8.out HE4.out HLN.out (by omega) (by omega) hn2 HSM.out (sumTo_le HLN.out) HG38.out).mono ?_
  rintro e w9 ⟨rfl, _, hT9⟩
  have hB9 := HB8.out.trans (hT9.low.mono HG3.out)
  have p9 := hT9.own HP8.out (by decide)
  have q9 := hT9.own HQ8.out (by decide)
  have HP9 := Hid.in_ p9
  have HQ9 := Hid.in_ q9
  have HB9 := Hid.in_ hB9
  clear hT9 p9 q9 hB9 HX8 HP8 HQ8
  go_wp2_with fail
  refine (laws_eqFeatureS _ HQ9.out HP9.out).mono ?_
  rintro e w10 ⟨rfl, hb10⟩
  have hB10 := bstep HB9.out hb10
  have p10 := ostep hb10 HP9.out
  have q10 := ostep hb10 HQ9.out
  go_wp2_with fail
  refine (laws_markFeatureS 1 _ q10 (by omega) (by omega) (by omega)).mono ?_
  rintro e w11 ⟨rfl, ho11, hg11⟩
  have hB11 := bgrown hB10 q10 HG4.out hg11
  have p11 := p10.kept hg11 (own_apart HO3.out HO5.out HG34.out)
  go_wp2_with fail
  refine (laws_heldFeatureS 1 _ ho11 (by omega) (by omega) (by omega)).mono ?_
  rintro e w12 ⟨rfl, rfl⟩
  go_wp2_with fail
  refine (C0.out _ hB11).mono ?_
  rintro e w13 ⟨v13, o13, rfl, he13, ho13, hb13⟩
  have hB13 := bstep hB11 hb13
  have HE13 := Hid.in_ he13
  clear he13
  go_wp2_with fail
  refine (impl_WeakFeatures _ ho13 HE13.out HLN.out HZ.out hn2).mono ?_
  rintro e w14 ⟨v14, rfl, ho14, hb14⟩
  have hB14 := bstep hB13 hb14
  go_wp2_with fail
  refine (laws_eqFeatureS _ ho14 (ostep hb14 (ostep hb13 p11))).mono ?_
  rintro e w15 ⟨rfl, hb15⟩
  have hB15 := bstep hB14 hb15
  go_wp2_with fail
  refine (laws_heldFeatureS 1 _ (ostep hb15 (ostep hb14 (ostep hb13 ho11))) (by omega) (by omega) (by omega)).mono ?_
  rintro e w16 ⟨rfl, rfl⟩
  go_wp2
  go_ret
  exact ⟨rfl, hB15⟩

set_option maxRecDepth 100000 in
theorem FnExactWeakFeatures_lifted (os : Os) (started : os.Started) (H : Type) (enc : TypeId × Value → H) :
    ReturnsInHanded {} Try.checked os 6 .any (Rows.fnExactWeakFeaturesSpec.pre6 enc Try.prog Try.f6 Rows.fnExactWeakFeaturesRow.domain false) (Rows.fnExactWeakFeaturesSpec.post enc Try.prog Try.f6 false true false false) := by
  refine returnsInHanded_of_change (C := Try.checked) Try.own started (by kernel_rfl) Try.func6
    (ChangeSpec.witness6 (enc := enc) (C := Try.checked) false ⟨#[], #[.slice none 0 0], []⟩ 8 (by kernel_rfl) (by kernel_rfl) (by kernel_rfl) (by kernel_rfl)) ?_
  intro W base args ds gs before hval0 hW hcnd _
  have hval : ∀ (j : Nat) t v, Try.f6.params[j]? = some t → args[j]? = some v → Value.okWide Try.prog W .any base t v := hval0
  have hW' := hW
  obtain ⟨p, q, hA0, hV, hbe, hfz, hnd⟩ := hW
  have hA : DataW.TrodAll enc Try.prog W 0 (fun _ => true) true Try.f6.params.toList args.toList ds p := hA0
  rw [Try.params6] at hA hval
  obtain ⟨v0, vs0, d0, ds0, p0, q0, hargs, rfl, rfl, h0, r0⟩ := trodAll_cons hA
  obtain ⟨rfl, rfl, rfl⟩ := trodAll_nil r0
  obtain rfl : args = #[v0] := by cases args; simp_all
  obtain ⟨rfl, _⟩ := trodVars_none hV
  obtain ⟨A0, cap0, l0, rfl, s0, k0⟩ := slice_VotA (hval 0 32 v0 rfl rfl) h0
  clear hA0 hval0
  refine (FnExactWeakFeatures_walk A0 cap0 l0 W s0 k0).mono fun e W' ⟨he, hb⟩ => ?_
  subst he
  exact ⟨_, rfl, law_post Try.laidOut (by kernel_rfl) rfl Try.underlying4 rfl rfl hW' hb⟩

theorem FnExactWeakFeatures_over : Rows.fnExactWeakFeaturesRow.holds Try.pinned (OpenSpec.ofChange Rows.fnExactWeakFeaturesSpec) :=
  OpenClaim.holds_of_wide 6 Try.f6 rfl rfl rfl rfl rfl rfl rfl ⟨rfl, rfl, rfl, rfl, rfl⟩ rfl rfl rfl rfl rfl (by kernel_rfl) Try.func6 (by kernel_rfl)
    (of_decide_eq_true (by kernel_rfl)) (by unfold Func.isWrapper; first | (rw [if_pos (by decide +kernel)]; kernel_rfl) | (rw [if_neg (by decide +kernel)]; exact ⟨rfl, rfl⟩))
    (fun os started H enc _ => FnExactWeakFeatures_lifted os started H enc)

theorem FnExactWeakFeatures_proved : Rows.FnExactWeakFeaturesSaid := FnExactWeakFeatures_over
#print axioms FnExactWeakFeatures_proved
end Go.Proofs.Ytlelgpknkgjaeaa
