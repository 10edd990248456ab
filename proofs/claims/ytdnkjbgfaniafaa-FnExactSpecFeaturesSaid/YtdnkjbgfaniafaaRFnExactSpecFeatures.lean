/- 'FnExactSpecFeatures': for every input the law returns true, and each argument reads behind the call as it read before. No condition. -/
import Derived.Test.YtdnkjbgfaniafaaLaw
import Derived.Test.YtdnkjbgfaniafaaSpecFT
import Derived.Test.YtdnkjbgfaniafaaTrackArg
import Derived.Test.YtdnkjbgfaniafaaRows
namespace Go.Proofs.Ytdnkjbgfaniafaa
open Go.ChangeShapes Go.WideShapes Go.ChangeAt Go.RowKit
open Go.ChangeMaps (open_string shut_string)
set_option linter.unusedVariables false
theorem own_apart_r {w1 w2 : World} {b1 b2 : Nat} {e1 e2 : TypeId} {s1 s2 n1 n2 : Nat} {v1 v2 : Value} {xs1 xs2 : List Value} (h1 : w1.ownsRow b1 e1 s1 v1 n1 xs1) (h2 : w2.ownsRow b2 e2 s2 v2 n2 xs2) (hb : w1.heap.size ≤ b2) :
    v2.ownBlock = none ∨ v2.ownBlock ≠ v1.ownBlock := by
  cases h : v2.ownBlock with
  | none => exact .inl rfl
  | some g =>
    refine .inr fun he => ?_
    have := (h2.lt g h).1
    have := (h1.lt g he.symm).2
    omega
set_option maxRecDepth 20000 in
set_option maxHeartbeats 8000000 in
theorem FnExactSpecFeatures_walk (f0 g0 : Int) (A0 : Option Addr) (cap0 : Nat) (l0 : List SecR) (w : World) (s0 : ArgS w A0 l0.length cap0 8 (l0.flatMap SecR.cells)) (k0 : ∀ r ∈ l0, r.ok) (a1 : Int) (w1 : (Lit.int .i64 a1).wf = true) (a2 : Int) (w2 : (Lit.int .i64 a2).wf = true) :
    Calls Try.prog 8 #[.agg #[.int .i64 f0, .int .i64 g0, .slice A0 l0.length cap0], .int .i64 a1, .int .i64 a2] w fun e w' => e = .returned (.bool true) ∧ Below w.heap.size w w' := by
  obtain ⟨n, hn⟩ : ∃ n, l0.length = n := ⟨_, rfl⟩
  rw [hn] at s0 ⊢
  have HN := Hid.in_ hn
  have HS := Hid.in_ s0
  have HK0 := Hid.in_ k0
  clear s0 k0 hn w1 w2
  have hle := spcfR_len f0 g0 l0 a1 a2
  have hne : ¬ ((1 : Int) + 3 * ((spcfR f0 g0 l0 a1 a2).1.length : Int) < 0) := by omega
  have hne2 : ¬ (((1 + 8 * n : Nat) : Int) < 0) := by omega
  have HB0 := Hid.in_ (balloc (Below.refl w.heap.size w) (.cells #[.int .i64 f0, .int .i64 g0, .slice A0 n cap0] 58))
  have HT0 := Hid.in_ (TrkAt.fresh (t := 58) (f := f0) (g := g0) (v := .slice A0 n cap0) w)
  go_enter Try.func8, Try.ntmps8
  go_wp2_with fail
  generalize w.alloc (.cells #[.int .i64 f0, .int .i64 g0, .slice A0 n cap0] 58) = w0 at *
  refine (laws_szTrackSpec _ _ _ _ (HS.out.below HB0.out) HN.out HK0.out (by omega) (by omega)).mono ?_
  rintro e w2 ⟨rfl | ⟨r, rfl, hr0, hr1, hsz⟩, hb1⟩
  · have HB := Hid.in_ (bstep HB0.out hb1)
    go_wp2
    go_ret
    exact ⟨rfl, HB.out⟩
  have hn2 : n ≤ 1048576 := by omega
  have HZ := Hid.in_ (show ∀ x ∈ l0, x.d.size ≤ 1048576 from fun x hx => by have := hsz x hx; omega)
  have HB2 := Hid.in_ (bstep HB0.out hb1)
  have HT02 := Hid.in_ (HT0.out.step hb1)
  clear hb1 hsz HB0 HT0
  have C0 := Hid.in_ (show ∀ w', Below w2.heap.size w2 w' → Calls Try.prog 39 #[.agg #[.int .i64 f0, .int .i64 g0, .slice A0 n cap0]] w' fun e w'' => ∃ v, e = .returned (.agg #[.int .i64 f0, .int .i64 g0, v]) ∧ w''.ownsRow w'.heap.size 92 8 v n (l0.flatMap SecR.cells) ∧ Below w'.heap.size w' w'' from
    fun w' hw => laws_toTrackSpec _ _ w' (HS.out.below (bstep HB2.out hw)) HN.out hn2)
  obtain ⟨x0, x1, x2⟩ := HT02.out
  go_wp2_with fail
  refine (C0.out _ (Below.refl _ _)).mono ?_
  rintro e w3 ⟨v3, rfl, ho3, hb3⟩
  have HB3 := Hid.in_ hb3
  have HO3 := Hid.in_ ho3
  obtain ⟨B3, d3, hv3, _⟩ := own_shape ho3
  subst hv3
  clear ho3 hb3 x0 x1 x2
  go_wp2_with fail
  refine (spec_SpecFeatures _ _ a1 a2 _ HO3.out HZ.out hn2).mono ?_
  rintro e w4 ⟨v4, rfl, ho4, hb4⟩
  have HB4 := Hid.in_ (HB3.out.trans (hb4.mono HB3.out.size))
  have HP4 := Hid.in_ ho4
  clear hb4 HO3 ho4
  obtain ⟨x0, x1, x2⟩ := HT02.out.step HB4.out
  go_wp2_with fail
  refine (C0.out _ HB4.out).mono ?_
  rintro e w5 ⟨v5, rfl, ho5, hb5⟩
  have hB5 := HB4.out.trans (hb5.mono HB4.out.size)
  obtain ⟨B5, d5, hv5, _⟩ := own_shape ho5
  subst hv5
  have hB6 := hB5.alloc hB5.size (.cells #[.int .i64 f0, .int .i64 g0, .slice B5 n d5] 61)
  have hb56 := (Below.refl w5.heap.size w5).alloc (Nat.le_refl _) (.cells #[.int .i64 f0, .int .i64 g0, .slice B5 n d5] 61)
  have hT6 := TrkAt.fresh (t := 61) (f := f0) (g := g0) (v := .slice B5 n d5) w5
  have ho6 := ostep hb56 ho5
  have HO5 := Hid.in_ ho5
  have HS45 := Hid.in_ hb5
  have HS56 := Hid.in_ hb56
  obtain ⟨c0, c1, c2⟩ := hT6
  clear x0 x1 x2
  go_wp2_with fail
  generalize w5.alloc (.cells #[.int .i64 f0, .int .i64 g0, .slice B5 n d5] 61) = w6 at *
  refine (impl_SpecFeatures _ _ a1 a2 _ ho6 HZ.out hn2).mono ?_
  rintro e w7 ⟨v7, rfl, ho7, hb7⟩
  have HB7 := Hid.in_ (hB6.trans (hb7.mono hB6.size))
  have HT7 := Hid.in_ (TrkAt.step ⟨c0, c1, c2⟩ hb7)
  have HX7 := Hid.in_ (ostep hb7 ho6)
  have HP7 := Hid.in_ (ostep hb7 (ostep HS56.out (ostep HS45.out HP4.out)))
  have HQ7 := Hid.in_ ho7
  have HS67 := Hid.in_ hb7
  have HG6 := Hid.in_ hB6.size
  clear c0 c1 c2 ho6 hb7 hB6 hb56 hB5 hb5 ho5 ho7
  go_wp2_with fail
  refine (laws_eqFeatureS _ HQ7.out HP7.out).mono ?_
  rintro e w8 ⟨rfl, hb8⟩
  have HB8 := Hid.in_ (bstep HB7.out hb8)
  have HT8 := Hid.in_ (HT7.out.step hb8)
  have HX8 := Hid.in_ (ostep hb8 HX7.out)
  have HP8 := Hid.in_ (ostep hb8 HP7.out)
  have HQ8 := Hid.in_ (ostep hb8 HQ7.out)
  have HA8 := Hid.in_ (HT02.out.step HB8.out)
  clear hb8
  go_upto_region 10 with fail
  go_cut [53] (fun s53 wy => s53 = .bool false ∧ Hid (Below w8.heap.size w8 wy))
  case first =>
    obtain ⟨x0, x1, x2⟩ := HT8.out
    obtain ⟨b0, b1, b2⟩ := HA8.out
    go_region_with (first
      | (go_at_call 39; refine (C0.out _ ?_).mono ?_; exact HB8.out.drew; rintro e wa ⟨va, rfl, hoa, hba⟩; have hba' := ((Below.refl w8.heap.size w8).drew).trans hba; obtain ⟨b3, b4, b5⟩ := HT8.out.step hba'; have hO := ostep hba' HX8.out)
      | (go_at_call 41; refine (laws_eqTrackSpec _ _ _ hO hoa).mono ?_; rintro e we ⟨rfl, hbc⟩; have hbc' := hba'.trans (hbc.mono hba'.size)))
    all_goals
      go_wp2_with fail
      go_meet
      exact ⟨rfl, hbc'⟩
  case rest =>
    obtain ⟨rfl, HBz⟩ := hcut
    have HB9 := Hid.in_ (bstep HB8.out HBz.out)
    have HX9 := Hid.in_ (ostep HBz.out HX8.out)
    have HP9 := Hid.in_ (ostep HBz.out HP8.out)
    have HQ9 := Hid.in_ (ostep HBz.out HQ8.out)
    obtain ⟨x0, x1, x2⟩ := HT8.out.step HBz.out
    go_wp2_with fail
    refine (laws_markTrackSpec f0 g0 1 _ HX9.out (by omega) (by omega) hn2).mono ?_
    rintro e w10 ⟨rfl, ho10, hg10⟩
    have hB10 := bgrown HB9.out HX9.out HB4.out.size hg10
    have p10 := HP9.out.kept hg10 (own_apart HP4.out HO5.out (Nat.le_refl _))
    have q10 := HQ9.out.kept hg10 (own_apart_r HO5.out HQ7.out HS56.out.size)
    clear ho10 x0 x1 x2
    go_wp2_with fail
    refine (laws_eqFeatureS _ q10 p10).mono ?_
    rintro e w11 ⟨rfl, hb11⟩
    have hB11 := bstep hB10 hb11
    have p11 := ostep hb11 p10
    have q11 := ostep hb11 q10
    clear p10 q10
    go_wp2_with fail
    refine (laws_markFeatureS 1 _ q11 (by omega) (by omega) (by omega)).mono ?_
    rintro e w12 ⟨rfl, ho12, hg12⟩
    have hB12 := bgrown hB11 q11 HG6.out hg12
    have p12 := p11.kept hg12 (own_apart HP4.out HQ7.out (Nat.le_trans HS45.out.size HS56.out.size))
    go_wp2_with fail
    refine (laws_heldFeatureS 1 _ ho12 (by omega) (by omega) (by omega)).mono ?_
    rintro e w13 ⟨rfl, rfl⟩
    obtain ⟨x0, x1, x2⟩ := HT02.out.step hB12
    go_wp2_with fail
    refine (C0.out _ hB12).mono ?_
    rintro e w14 ⟨v14, rfl, ho14, hb14⟩
    have hB14 := bstep hB12 hb14
    obtain ⟨B14, d14, hv14, _⟩ := own_shape ho14
    subst hv14
    clear x0 x1 x2
    go_wp2_with fail
    refine (impl_SpecFeatures _ _ a1 a2 _ ho14 HZ.out hn2).mono ?_
    rintro e w15 ⟨v15, rfl, ho15, hb15⟩
    have hB15 := bstep hB14 hb15
    go_wp2_with fail
    refine (laws_eqFeatureS _ ho15 (ostep hb15 (ostep hb14 p12))).mono ?_
    rintro e w16 ⟨rfl, hb16⟩
    have hB16 := bstep hB15 hb16
    go_wp2_with fail
    refine (laws_heldFeatureS 1 _ (ostep hb16 (ostep hb15 (ostep hb14 ho12))) (by omega) (by omega) (by omega)).mono ?_
    rintro e w17 ⟨rfl, rfl⟩
    go_wp2
    go_ret
    exact ⟨rfl, bstep HB2.out hB16⟩

set_option maxRecDepth 100000 in
theorem FnExactSpecFeatures_lifted (os : Os) (started : os.Started) (H : Type) (enc : TypeId × Value → H) :
    ReturnsInHanded {} Try.checked os 8 .any (Rows.fnExactSpecFeaturesSpec.pre6 enc Try.prog Try.f8 Rows.fnExactSpecFeaturesRow.domain false) (Rows.fnExactSpecFeaturesSpec.post enc Try.prog Try.f8 false true false false) := by
  refine returnsInHanded_of_change (C := Try.checked) Try.own started (by kernel_rfl) Try.func8
    (ChangeSpec.witness6 (enc := enc) (C := Try.checked) false ⟨#[], #[.agg #[.int .i64 0, .int .i64 0, .slice none 0 0], .int .i64 0, .int .i64 0], []⟩ 8 (by kernel_rfl) (by kernel_rfl) (by kernel_rfl) (by kernel_rfl)) ?_
  intro W base args ds gs before hval0 hW hcnd _
  have hval : ∀ (j : Nat) t v, Try.f8.params[j]? = some t → args[j]? = some v → Value.okWide Try.prog W .any base t v := hval0
  have hW' := hW
  obtain ⟨p, q, hA0, hV, hbe, hfz, hnd⟩ := hW
  have hA : DataW.TrodAll enc Try.prog W 0 (fun _ => true) true Try.f8.params.toList args.toList ds p := hA0
  rw [Try.params8] at hA hval
  obtain ⟨v0, vs0, d0, ds0, p0, q0, hargs, rfl, rfl, h0, r0⟩ := trodAll_cons hA
  obtain ⟨v1, vs1, d1, ds1, p1, q1, rfl, rfl, rfl, h1, r1⟩ := trodAll_cons r0
  obtain ⟨v2, vs2, d2, ds2, p2, q2, rfl, rfl, rfl, h2, r2⟩ := trodAll_cons r1
  obtain ⟨rfl, rfl, rfl⟩ := trodAll_nil r2
  obtain rfl : args = #[v0, v1, v2] := by cases args; simp_all
  obtain ⟨rfl, _⟩ := trodVars_none hV
  obtain ⟨f0, g0, A0, cap0, l0, rfl, s0, k0, wf0, wg0⟩ := byval_Track (hval 0 58 v0 rfl rfl) h0
  obtain ⟨a1, rfl, rfl, rfl, w1⟩ := open_int Try.underlying2 (hval 1 2 v1 rfl rfl) h1
  obtain ⟨a2, rfl, rfl, rfl, w2⟩ := open_int Try.underlying2 (hval 2 2 v2 rfl rfl) h2
  clear hA0 hval0
  refine (FnExactSpecFeatures_walk f0 g0 A0 cap0 l0 W s0 k0 a1 w1 a2 w2).mono fun e W' ⟨he, hb⟩ => ?_
  subst he
  exact ⟨_, rfl, law_post Try.laidOut (by kernel_rfl) rfl Try.underlying4 rfl rfl hW' hb⟩

theorem FnExactSpecFeatures_over : Rows.fnExactSpecFeaturesRow.holds Try.pinned (OpenSpec.ofChange Rows.fnExactSpecFeaturesSpec) :=
  OpenClaim.holds_of_wide 8 Try.f8 rfl rfl rfl rfl rfl rfl rfl ⟨rfl, rfl, rfl, rfl, rfl⟩ rfl rfl rfl rfl rfl (by kernel_rfl) Try.func8 (by kernel_rfl)
    (of_decide_eq_true (by kernel_rfl)) (by unfold Func.isWrapper; first | (rw [if_pos (by decide +kernel)]; kernel_rfl) | (rw [if_neg (by decide +kernel)]; exact ⟨rfl, rfl⟩))
    (fun os started H enc _ => FnExactSpecFeatures_lifted os started H enc)

theorem FnExactSpecFeatures_proved : Rows.FnExactSpecFeaturesSaid := FnExactSpecFeatures_over
#print axioms FnExactSpecFeatures_proved
end Go.Proofs.Ytdnkjbgfaniafaa
