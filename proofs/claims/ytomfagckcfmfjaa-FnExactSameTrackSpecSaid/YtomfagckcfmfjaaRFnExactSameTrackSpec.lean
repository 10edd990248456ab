/- 'FnExactSameTrackSpec': for every input the law returns true, and each argument reads behind the call as it read before. No condition. -/
import Derived.Test.YtomfagckcfmfjaaLaw
import Derived.Test.YtomfagckcfmfjaaTrack
import Derived.Test.YtomfagckcfmfjaaTrackArg
import Derived.Test.YtomfagckcfmfjaaRows
namespace Go.Proofs.Ytomfagckcfmfjaa
open Go.ChangeShapes Go.WideShapes Go.ChangeAt Go.RowKit
open Go.ChangeMaps (open_string shut_string)
set_option linter.unusedVariables false
set_option maxHeartbeats 8000000 in
theorem FnExactSameTrackSpec_walk (f0 g0 : Int) (A0 : Option Addr) (cap0 : Nat) (l0 : List SecR) (w : World) (s0 : ArgS w A0 l0.length cap0 8 (l0.flatMap SecR.cells)) (k0 : ∀ r ∈ l0, r.ok)
    (f1 g1 : Int) (A1 : Option Addr) (cap1 : Nat) (l1 : List SecR) (s1 : ArgS w A1 l1.length cap1 8 (l1.flatMap SecR.cells)) (k1 : ∀ r ∈ l1, r.ok) :
    Calls Try.prog 4 #[.agg #[.int .i64 f0, .int .i64 g0, .slice A0 l0.length cap0], .agg #[.int .i64 f1, .int .i64 g1, .slice A1 l1.length cap1]] w fun e w' => e = .returned (.bool true) ∧ Below w.heap.size w w' := by
  obtain ⟨n, hn⟩ : ∃ n, l0.length = n := ⟨_, rfl⟩
  obtain ⟨m, hm⟩ : ∃ m, l1.length = m := ⟨_, rfl⟩
  rw [hn] at s0 ⊢
  rw [hm] at s1 ⊢
  have HN := Hid.in_ hn
  have HM := Hid.in_ hm
  have HS := Hid.in_ s0
  have HR := Hid.in_ s1
  have HK0 := Hid.in_ k0
  have HK1 := Hid.in_ k1
  clear s0 s1 k0 k1 hn hm
  have hb0 : Below w.heap.size w ((w.alloc (.cells #[.int .i64 f0, .int .i64 g0, .slice A0 n cap0] 30)).alloc (.cells #[.int .i64 f1, .int .i64 g1, .slice A1 m cap1] 30)) := balloc (balloc (Below.refl _ _) _) _
  have HB0 := Hid.in_ hb0
  have HT0 : Hid (TrkAt ((w.alloc (.cells #[.int .i64 f0, .int .i64 g0, .slice A0 n cap0] 30)).alloc (.cells #[.int .i64 f1, .int .i64 g1, .slice A1 m cap1] 30)) w.heap.size f0 g0 (.slice A0 n cap0)) := (TrkAt.fresh w).step (Below.alloc (Below.refl _ _) (Nat.le_refl _) _)
  have HT1 : Hid (TrkAt ((w.alloc (.cells #[.int .i64 f0, .int .i64 g0, .slice A0 n cap0] 30)).alloc (.cells #[.int .i64 f1, .int .i64 g1, .slice A1 m cap1] 30)) (w.heap.size + 1) f1 g1 (.slice A1 m cap1)) := by
    have := TrkAt.fresh (t := 30) (f := f1) (g := g1) (v := .slice A1 m cap1) (w.alloc (.cells #[.int .i64 f0, .int .i64 g0, .slice A0 n cap0] 30))
    rwa [alloc_sz] at this
  clear hb0
  go_enter Try.func4, Try.ntmps4
  go_wp2_with fail
  generalize ((w.alloc (.cells #[.int .i64 f0, .int .i64 g0, .slice A0 n cap0] 30)).alloc (.cells #[.int .i64 f1, .int .i64 g1, .slice A1 m cap1] 30)) = w0 at *
  refine (laws_szTrackSpec _ _ _ _ (HS.out.below HB0.out) HN.out HK0.out (by omega) (by omega)).mono ?_
  rintro e w1 ⟨rfl | ⟨r, rfl, hr0, hr1, _⟩, hb1⟩
  · have HB := Hid.in_ (bstep HB0.out hb1)
    go_wp2
    go_ret
    exact ⟨rfl, HB.out⟩
  have HB1 := Hid.in_ (bstep HB0.out hb1)
  have HT01 := Hid.in_ (HT0.out.step hb1)
  have HT11 := Hid.in_ (HT1.out.step hb1)
  have HR1 := Hid.in_ (HR.out.below HB1.out)
  obtain ⟨a0, a1, a2⟩ := HT11.out
  clear hb1
  go_wp2_with fail
  refine (laws_szTrackSpec _ _ _ _ HR1.out HM.out HK1.out hr0 (by omega)).mono ?_
  rintro e w2 ⟨rfl | ⟨t, rfl, ht0, ht1, _⟩, hb2⟩
  · have HB := Hid.in_ (bstep HB1.out hb2)
    go_wp2
    go_ret
    exact ⟨rfl, HB.out⟩
  have hn2 : n ≤ 1048576 := by omega
  have hm2 : m ≤ 1048576 := by omega
  have HB2 := Hid.in_ (bstep HB1.out hb2)
  have HT02 := Hid.in_ (HT01.out.step hb2)
  have HT12 := Hid.in_ (HT11.out.step hb2)
  clear hb2 HB0 HB1 HT0 HT1 HT01 HT11 HR1 a0 a1 a2
  have C0 := Hid.in_ (show ∀ w', Below w2.heap.size w2 w' → Calls Try.prog 22 #[.agg #[.int .i64 f0, .int .i64 g0, .slice A0 n cap0]] w' fun e w'' => ∃ v, e = .returned (.agg #[.int .i64 f0, .int .i64 g0, v]) ∧ w''.ownsRow w'.heap.size 52 8 v n (l0.flatMap SecR.cells) ∧ Below w'.heap.size w' w'' from
    fun w' hw => laws_toTrackSpec _ _ w' (HS.out.below (bstep HB2.out hw)) HN.out hn2)
  have C1 := Hid.in_ (show ∀ w', Below w2.heap.size w2 w' → Calls Try.prog 22 #[.agg #[.int .i64 f1, .int .i64 g1, .slice A1 m cap1]] w' fun e w'' => ∃ v, e = .returned (.agg #[.int .i64 f1, .int .i64 g1, v]) ∧ w''.ownsRow w'.heap.size 52 8 v m (l1.flatMap SecR.cells) ∧ Below w'.heap.size w' w'' from
    fun w' hw => laws_toTrackSpec _ _ w' (HR.out.below (bstep HB2.out hw)) HM.out hm2)
  go_upto_region 8 with fail
  go_cut [6] (fun s6 wx => s6 = .bool (trackSame f0 g0 l0 f1 g1 l1) ∧ Hid (Below w2.heap.size w2 wx))
  case first =>
    obtain ⟨a0, a1, a2⟩ := HT02.out
    obtain ⟨b0, b1, b2⟩ := HT12.out
    go_region_with (first
      | (go_at_call_of 22 (Value.slice A0 n cap0); refine (C0.out _ ?_).mono ?_; exact (Below.refl _ _).drew; rintro e wa ⟨va, rfl, hoa, hba⟩; have hba' := ((Below.refl w2.heap.size w2).drew).trans hba; obtain ⟨b3, b4, b5⟩ := HT12.out.step hba')
      | (go_at_call_of 22 (Value.slice A1 m cap1); refine (C1.out _ ?_).mono ?_; exact hba'; rintro e wb ⟨vb, rfl, hob, hbb⟩; have hbb' := hba'.trans (hbb.mono hba'.size))
      | (go_at_call 21; have hoa' := ostep hbb hoa; refine (spec_SameTrackSpec _ _ _ _ _ hoa' hob).mono ?_; rintro e we ⟨rfl, hbc⟩; have hbc' := hbb'.trans (hbc.mono hbb'.size)))
    all_goals
      go_wp2_with fail
      go_meet
      exact ⟨rfl, hbc'⟩
  case rest =>
    obtain ⟨rfl, HBx⟩ := hcut
    obtain ⟨a0, a1, a2⟩ := HT02.out.step HBx.out
    go_wp2_with fail
    refine (C0.out _ HBx.out).mono ?_
    rintro e w3 ⟨v3, rfl, ho3, hb3⟩
    have hB3 := HBx.out.trans (hb3.mono HBx.out.size)
    obtain ⟨B3, d3, hv3, _⟩ := own_shape ho3
    subst hv3
    have hB4 := hB3.alloc hB3.size (.cells #[.int .i64 f0, .int .i64 g0, .slice B3 n d3] 35)
    have hb34 := (Below.refl w3.heap.size w3).alloc (Nat.le_refl _) (.cells #[.int .i64 f0, .int .i64 g0, .slice B3 n d3] 35)
    obtain ⟨b0, b1, b2⟩ := HT12.out.step hB4
    have hT7 := TrkAt.fresh (t := 35) (f := f0) (g := g0) (v := .slice B3 n d3) w3
    have ho4 := ostep hb34 ho3
    clear a0 a1 a2
    go_wp2_with fail
    generalize w3.alloc (.cells #[.int .i64 f0, .int .i64 g0, .slice B3 n d3] 35) = w4 at *
    refine (C1.out _ hB4).mono ?_
    rintro e w5 ⟨v5, rfl, ho5, hb5⟩
    have hB5 := hB4.trans (hb5.mono hB4.size)
    obtain ⟨B5, d5, hv5, _⟩ := own_shape ho5
    subst hv5
    have hB6 := hB5.alloc hB5.size (.cells #[.int .i64 f1, .int .i64 g1, .slice B5 m d5] 35)
    have hb56 := (Below.refl w5.heap.size w5).alloc (Nat.le_refl _) (.cells #[.int .i64 f1, .int .i64 g1, .slice B5 m d5] 35)
    have hT8 := TrkAt.fresh (t := 35) (f := f1) (g := g1) (v := .slice B5 m d5) w5
    have ho6 := ostep hb56 ho5
    have ho46 := ostep hb56 (ostep hb5 ho4)
    have hT76 := (hT7.step hb5).step hb56
    obtain ⟨a0, a1, a2⟩ := hT76
    obtain ⟨c0, c1, c2⟩ := hT8
    clear b0 b1 b2
    go_wp2_with fail
    generalize w5.alloc (.cells #[.int .i64 f1, .int .i64 g1, .slice B5 m d5] 35) = w6 at *
    refine (impl_SameTrackSpec _ _ _ _ _ ho46 ho6).mono ?_
    rintro e w7 ⟨rfl, hb7⟩
    have HB7 := Hid.in_ (hB6.trans (hb7.mono hB6.size))
    have HT77 := Hid.in_ (TrkAt.step ⟨a0, a1, a2⟩ hb7)
    have HT87 := Hid.in_ (TrkAt.step ⟨c0, c1, c2⟩ hb7)
    have HO7 := Hid.in_ (ostep hb7 ho46)
    have HO8 := Hid.in_ (ostep hb7 ho6)
    have HA7 := Hid.in_ (HT02.out.step HB7.out)
    have HA8 := Hid.in_ (HT12.out.step HB7.out)
    clear a0 a1 a2 c0 c1 c2 ho46 ho6 hb7 hB6 hb56 hB5 hb5 ho5 ho4 hT7 hB4 hb34 hB3 hb3 ho3 HBx
    generalize trackSame f0 g0 l0 f1 g1 l1 = z
    go_upto_region 14 with fail
    go_cut [39] (fun s39 wy => s39 = .bool false ∧ Hid (Below w7.heap.size w7 wy))
    case first =>
      obtain ⟨a0, a1, a2⟩ := HT77.out
      obtain ⟨b0, b1, b2⟩ := HA7.out
      go_region_with (first
        | (go_at_call 22; refine (C0.out _ ?_).mono ?_; exact HB7.out.drew; rintro e wa ⟨va, rfl, hoa, hba⟩; have hba' := ((Below.refl w7.heap.size w7).drew).trans hba; obtain ⟨b3, b4, b5⟩ := HT77.out.step hba'; have hO := ostep hba' HO7.out)
        | (go_at_call 24; refine (laws_eqTrackSpec _ _ _ hO hoa).mono ?_; rintro e we ⟨rfl, hbc⟩; have hbc' := hba'.trans (hbc.mono hba'.size)))
      all_goals
        go_wp2_with fail
        go_meet
        exact ⟨rfl, hbc'⟩
    case rest =>
      obtain ⟨rfl, HBy⟩ := hcut
      have HB9 := Hid.in_ (HB7.out.trans (HBy.out.mono HB7.out.size))
      have HT89 := Hid.in_ (HT87.out.step HBy.out)
      have HA9 := Hid.in_ (HA8.out.step HBy.out)
      have HO9 := Hid.in_ (ostep HBy.out HO8.out)
      go_upto_region 16 with fail
      go_cut [44] (fun s44 wz => s44 = .bool false ∧ Hid (Below wc.heap.size wc wz))
      case first =>
        obtain ⟨a0, a1, a2⟩ := HT89.out
        obtain ⟨b0, b1, b2⟩ := HA9.out
        go_region_with (first
          | (go_at_call 22; refine (C1.out _ ?_).mono ?_; exact HB9.out.drew; rintro e wa ⟨va, rfl, hoa, hba⟩; have hba' := ((Below.refl wc.heap.size wc).drew).trans hba; obtain ⟨b3, b4, b5⟩ := HT89.out.step hba'; have hO := ostep hba' HO9.out)
          | (go_at_call 24; refine (laws_eqTrackSpec _ _ _ hO hoa).mono ?_; rintro e we ⟨rfl, hbc⟩; have hbc' := hba'.trans (hbc.mono hba'.size)))
        all_goals
          go_wp2_with fail
          go_meet
          exact ⟨rfl, hbc'⟩
      case rest =>
        obtain ⟨rfl, HBz⟩ := hcut
        have HBE := Hid.in_ (bstep HB2.out (HB9.out.trans (HBz.out.mono HB9.out.size)))
        go_wp2
        go_ret
        exact ⟨rfl, HBE.out⟩

set_option maxRecDepth 100000 in
theorem FnExactSameTrackSpec_lifted (os : Os) (started : os.Started) (H : Type) (enc : TypeId × Value → H) :
    ReturnsInHanded {} Try.checked os 4 .any (Rows.fnExactSameTrackSpecSpec.pre6 enc Try.prog Try.f4 Rows.fnExactSameTrackSpecRow.domain false) (Rows.fnExactSameTrackSpecSpec.post enc Try.prog Try.f4 false true false false) := by
  refine returnsInHanded_of_change (C := Try.checked) Try.own started (by kernel_rfl) Try.func4
    (ChangeSpec.witness6 (enc := enc) (C := Try.checked) false ⟨#[], #[.agg #[.int .i64 0, .int .i64 0, .slice none 0 0], .agg #[.int .i64 0, .int .i64 0, .slice none 0 0]], []⟩ 8 (by kernel_rfl) (by kernel_rfl) (by kernel_rfl) (by kernel_rfl)) ?_
  intro W base args ds gs before hval0 hW hcnd _
  have hval : ∀ (j : Nat) t v, Try.f4.params[j]? = some t → args[j]? = some v → Value.okWide Try.prog W .any base t v := hval0
  have hW' := hW
  obtain ⟨p, q, hA0, hV, hbe, hfz, hnd⟩ := hW
  have hA : DataW.TrodAll enc Try.prog W 0 (fun _ => true) true Try.f4.params.toList args.toList ds p := hA0
  rw [Try.params4] at hA hval
  obtain ⟨v0, vs0, d0, ds0, p0, q0, hargs, rfl, rfl, h0, r0⟩ := trodAll_cons hA
  obtain ⟨v1, vs1, d1, ds1, p1, q1, rfl, rfl, rfl, h1, r1⟩ := trodAll_cons r0
  obtain ⟨rfl, rfl, rfl⟩ := trodAll_nil r1
  obtain rfl : args = #[v0, v1] := by cases args; simp_all
  obtain ⟨rfl, _⟩ := trodVars_none hV
  obtain ⟨f0, g0, A0, cap0, l0, rfl, s0, k0, wf0, wg0⟩ := byval_Track (hval 0 30 v0 rfl rfl) h0
  obtain ⟨f1, g1, A1, cap1, l1, rfl, s1, k1, wf1, wg1⟩ := byval_Track (hval 1 30 v1 rfl rfl) h1
  clear hA0 hval0
  refine (FnExactSameTrackSpec_walk f0 g0 A0 cap0 l0 W s0 k0 f1 g1 A1 cap1 l1 s1 k1).mono fun e W' ⟨he, hb⟩ => ?_
  subst he
  exact ⟨_, rfl, law_post Try.laidOut (by kernel_rfl) rfl Try.underlying4 rfl rfl hW' hb⟩

theorem FnExactSameTrackSpec_over : Rows.fnExactSameTrackSpecRow.holds Try.pinned (OpenSpec.ofChange Rows.fnExactSameTrackSpecSpec) :=
  OpenClaim.holds_of_wide 4 Try.f4 rfl rfl rfl rfl rfl rfl rfl ⟨rfl, rfl, rfl, rfl, rfl⟩ rfl rfl rfl rfl rfl (by kernel_rfl) Try.func4 (by kernel_rfl)
    (of_decide_eq_true (by kernel_rfl)) (by unfold Func.isWrapper; first | (rw [if_pos (by decide +kernel)]; kernel_rfl) | (rw [if_neg (by decide +kernel)]; exact ⟨rfl, rfl⟩))
    (fun os started H enc _ => FnExactSameTrackSpec_lifted os started H enc)

theorem FnExactSameTrackSpec_proved : Rows.FnExactSameTrackSpecSaid := FnExactSameTrackSpec_over
#print axioms FnExactSameTrackSpec_proved
end Go.Proofs.Ytomfagckcfmfjaa
