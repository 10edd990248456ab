/- 'FnExactSameVoted': for every input the law returns true, and each argument reads behind the call as it read before. No condition. -/
import Derived.Test.YtlelgpknkgjaeaaLaw
import Derived.Test.YtlelgpknkgjaeaaVotSame
import Derived.Test.YtlelgpknkgjaeaaRows
namespace Go.Proofs.Ytlelgpknkgjaeaa
open Go.ChangeShapes Go.WideShapes Go.ChangeAt Go.RowKit
open Go.ChangeMaps (open_string shut_string)
set_option linter.unusedVariables false
set_option maxHeartbeats 2000000 in
theorem FnExactSameVoted_walk (A0 : Option Addr) (cap0 : Nat) (l0 : List VotA) (w : World) (s0 : ArgS w A0 l0.length cap0 9 (l0.flatMap VotA.cells)) (k0 : ∀ r ∈ l0, r.ok w)
    (A1 : Option Addr) (cap1 : Nat) (l1 : List VotA) (s1 : ArgS w A1 l1.length cap1 9 (l1.flatMap VotA.cells)) (k1 : ∀ r ∈ l1, r.ok w) :
    Calls Try.prog 4 #[.slice A0 l0.length cap0, .slice A1 l1.length cap1] w fun e w' => e = .returned (.bool true) ∧ Below w.heap.size w w' := by
  obtain ⟨n, hn⟩ : ∃ n, l0.length = n := ⟨_, rfl⟩
  obtain ⟨m, hm⟩ : ∃ m, l1.length = m := ⟨_, rfl⟩
  rw [hn] at s0 ⊢
  rw [hm] at s1 ⊢
  have HN := Hid.in_ hn
  have HM := Hid.in_ hm
  have HS := Hid.in_ s0
  have HR := Hid.in_ s1
  have HK0 := Hid.in_ k0
  have HK1 := Hid.in_ k1
  clear s0 s1 k0 k1 hn hm
  go_enter Try.func4, Try.ntmps4
  go_wp2_with fail
  refine (laws_szVotedS _ _ w HS.out HN.out HK0.out (by omega) (by omega)).mono ?_
  rintro e w1 ⟨rfl | ⟨r, rfl, hr0, hr1, hr2⟩, hb1⟩
  · go_wp2
    go_ret
    exact ⟨rfl, hb1⟩
  have hr1' : r ≤ 1048576 := by omega
  have hn2 : n ≤ 1048576 := by omega
  have HZ0 := Hid.in_ (show ∀ r ∈ l0, r.r.l.length ≤ 1048576 from fun x hx => by have := (hr2 x hx).2; omega)
  have HB1 := Hid.in_ hb1
  have HR1 := Hid.in_ (HR.out.below hb1)
  clear hb1 hr1 hr2
  go_wp2_with fail
  refine (laws_szVotedS _ _ w HR1.out HM.out HK1.out hr0 (by omega)).mono ?_
  rintro e w2 ⟨rfl | ⟨t, rfl, ht0, ht1, ht2⟩, hb2⟩
  · have HB := Hid.in_ (bstep HB1.out hb2)
    go_wp2
    go_ret
    exact ⟨rfl, HB.out⟩
  have hm2 : m ≤ 1048576 := by omega
  have HZ1 := Hid.in_ (show ∀ r ∈ l1, r.r.l.length ≤ 1048576 from fun x hx => by have := (ht2 x hx).2; omega)
  have HB2 := Hid.in_ (bstep HB1.out hb2)
  have C0 := Hid.in_ (fun (w' : World) (hw : Below w.heap.size w w') => laws_toVotedS w' w (HS.out.below hw) HN.out HK0.out hw HZ0.out hn2)
  have C1 := Hid.in_ (fun (w' : World) (hw : Below w.heap.size w w') => laws_toVotedS w' w (HR.out.below hw) HM.out HK1.out hw HZ1.out hm2)
  clear HB1 HR1 hb2 HS HR ht1 ht2
  go_wp2_with fail
  refine (C0.out _ HB2.out).mono ?_
  rintro e w3 ⟨v3, o3, rfl, he3, ho3, hb3⟩
  have HB3 := Hid.in_ (bstep HB2.out hb3)
  go_wp2_with fail
  refine (C1.out _ HB3.out).mono ?_
  rintro e w4 ⟨v4, o4, rfl, he4, ho4, hb4⟩
  have HB4 := Hid.in_ (bstep HB3.out hb4)
  go_wp2_with fail
  refine (spec_SameVoted _ (VRow.step hb4 ho3) ho4).mono ?_
  rintro e w5 ⟨rfl, hb5⟩
  have HB5 := Hid.in_ (bstep HB4.out hb5)
  rw [he3, he4]
  clear HB2 HB3 HB4 ho3 ho4 hb3 hb4 hb5 he3 he4
  go_wp2_with fail
  refine (C0.out _ HB5.out).mono ?_
  rintro e w6 ⟨v6, o6, rfl, he6, ho6, hb6⟩
  have HB6 := Hid.in_ (bstep HB5.out hb6)
  go_wp2_with fail
  refine (C1.out _ HB6.out).mono ?_
  rintro e w7 ⟨v7, o7, rfl, he7, ho7, hb7⟩
  have HB7 := Hid.in_ (bstep HB6.out hb7)
  have ho6' := VRow.step hb7 ho6
  clear ho6
  go_wp2_with fail
  refine (impl_SameVoted _ ho6' ho7).mono ?_
  rintro e w8 ⟨rfl, hb8⟩
  have HB8 := Hid.in_ (bstep HB7.out hb8)
  have HO6 := Hid.in_ (VRow.step hb8 ho6')
  have HO7 := Hid.in_ (VRow.step hb8 ho7)
  rw [he6, he7]
  have HE6 := Hid.in_ he6
  have HE7 := Hid.in_ he7
  clear ho6' ho7 hb6 hb7 hb8 HB5 HB6 HB7 he6 he7
  generalize listSame VotR.same (l0.map VotA.r) (l1.map VotA.r) = z
  go_wp2_with fail
  refine (C0.out _ HB8.out).mono ?_
  rintro e w9 ⟨v9, o9, rfl, he9, ho9, hb9⟩
  have HB9 := Hid.in_ (bstep HB8.out hb9)
  have HO69 := Hid.in_ (VRow.step hb9 HO6.out)
  have HO79 := Hid.in_ (VRow.step hb9 HO7.out)
  go_wp2_with fail
  refine (laws_eqVotedS _ HO69.out ho9 (HE6.out.trans he9.symm)).mono ?_
  rintro e w10 ⟨rfl, hb10⟩
  have HB10 := Hid.in_ (bstep HB9.out hb10)
  have HO710 := Hid.in_ (VRow.step hb10 HO79.out)
  clear ho9 hb9 hb10 HO6 HO7 HO69 HO79 HB8 HB9 he9
  go_wp2_with fail
  refine (C1.out _ HB10.out).mono ?_
  rintro e w11 ⟨v11, o11, rfl, he11, ho11, hb11⟩
  have HB11 := Hid.in_ (bstep HB10.out hb11)
  have HO711 := Hid.in_ (VRow.step hb11 HO710.out)
  go_wp2_with fail
  refine (laws_eqVotedS _ HO711.out ho11 (HE7.out.trans he11.symm)).mono ?_
  rintro e w12 ⟨rfl, hb12⟩
  have HB12 := Hid.in_ (bstep HB11.out hb12)
  clear ho11 hb11 hb12
  go_wp2
  go_ret
  exact ⟨rfl, HB12.out⟩

set_option maxRecDepth 100000 in
theorem FnExactSameVoted_lifted (os : Os) (started : os.Started) (H : Type) (enc : TypeId × Value → H) :
    ReturnsInHanded {} Try.checked os 4 .any (Rows.fnExactSameVotedSpec.pre6 enc Try.prog Try.f4 Rows.fnExactSameVotedRow.domain false) (Rows.fnExactSameVotedSpec.post enc Try.prog Try.f4 false true false false) := by
  refine returnsInHanded_of_change (C := Try.checked) Try.own started (by kernel_rfl) Try.func4
    (ChangeSpec.witness6 (enc := enc) (C := Try.checked) false ⟨#[], #[.slice none 0 0, .slice none 0 0], []⟩ 8 (by kernel_rfl) (by kernel_rfl) (by kernel_rfl) (by kernel_rfl)) ?_
  intro W base args ds gs before hval0 hW hcnd _
  have hval : ∀ (j : Nat) t v, Try.f4.params[j]? = some t → args[j]? = some v → Value.okWide Try.prog W .any base t v := hval0
  have hW' := hW
  obtain ⟨p, q, hA0, hV, hbe, hfz, hnd⟩ := hW
  have hA : DataW.TrodAll enc Try.prog W 0 (fun _ => true) true Try.f4.params.toList args.toList ds p := hA0
  rw [Try.params4] at hA hval
  obtain ⟨v0, vs0, d0, ds0, p0, q0, hargs, rfl, rfl, h0, r0⟩ := trodAll_cons hA
  obtain ⟨v1, vs1, d1, ds1, p1, q1, rfl, rfl, rfl, h1, r1⟩ := trodAll_cons r0
  obtain ⟨rfl, rfl, rfl⟩ := trodAll_nil r1
  obtain rfl : args = #[v0, v1] := by cases args; simp_all
  obtain ⟨rfl, _⟩ := trodVars_none hV
  obtain ⟨A0, cap0, l0, rfl, s0, k0⟩ := slice_VotA (hval 0 32 v0 rfl rfl) h0
  obtain ⟨A1, cap1, l1, rfl, s1, k1⟩ := slice_VotA (hval 1 32 v1 rfl rfl) h1
  clear hA0 hval0
  refine (FnExactSameVoted_walk A0 cap0 l0 W s0 k0 A1 cap1 l1 s1 k1).mono fun e W' ⟨he, hb⟩ => ?_
  subst he
  exact ⟨_, rfl, law_post Try.laidOut (by kernel_rfl) rfl Try.underlying4 rfl rfl hW' hb⟩

theorem FnExactSameVoted_over : Rows.fnExactSameVotedRow.holds Try.pinned (OpenSpec.ofChange Rows.fnExactSameVotedSpec) :=
  OpenClaim.holds_of_wide 4 Try.f4 rfl rfl rfl rfl rfl rfl rfl ⟨rfl, rfl, rfl, rfl, rfl⟩ rfl rfl rfl rfl rfl (by kernel_rfl) Try.func4 (by kernel_rfl)
    (of_decide_eq_true (by kernel_rfl)) (by unfold Func.isWrapper; first | (rw [if_pos (by decide +kernel)]; kernel_rfl) | (rw [if_neg (by decide +kernel)]; exact ⟨rfl, rfl⟩))
    (fun os started H enc _ => FnExactSameVoted_lifted os started H enc)

theorem FnExactSameVoted_proved : Rows.FnExactSameVotedSaid := FnExactSameVoted_over
#print axioms FnExactSameVoted_proved
end Go.Proofs.Ytlelgpknkgjaeaa
