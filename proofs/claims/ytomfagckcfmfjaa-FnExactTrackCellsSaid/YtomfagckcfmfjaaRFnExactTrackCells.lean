/- 'FnExactTrackCells': for every input the law returns true, and each argument reads behind the call as it read before. No condition. -/
import Derived.Test.YtomfagckcfmfjaaLaw
import Derived.Test.YtomfagckcfmfjaaTrackCells
import Derived.Test.YtomfagckcfmfjaaTrackArg
import Derived.Test.YtomfagckcfmfjaaRows
namespace Go.Proofs.Ytomfagckcfmfjaa
open Go.ChangeShapes Go.WideShapes Go.ChangeAt Go.RowKit
open Go.ChangeMaps (open_string shut_string)
set_option linter.unusedVariables false
set_option maxHeartbeats 8000000 in
theorem FnExactTrackCells_walk (f0 g0 : Int) (A0 : Option Addr) (cap0 : Nat) (l0 : List SecR) (w : World) (s0 : ArgS w A0 l0.length cap0 8 (l0.flatMap SecR.cells)) (k0 : ∀ r ∈ l0, r.ok) :
    Calls Try.prog 12 #[.agg #[.int .i64 f0, .int .i64 g0, .slice A0 l0.length cap0]] w fun e w' => e = .returned (.bool true) ∧ Below w.heap.size w w' := by
  obtain ⟨n, hn⟩ : ∃ n, l0.length = n := ⟨_, rfl⟩
  rw [hn] at s0 ⊢
  have HN := Hid.in_ hn
  have HS := Hid.in_ s0
  have HK0 := Hid.in_ k0
  clear s0 k0 hn
  have HB0 := Hid.in_ (balloc (Below.refl w.heap.size w) (.cells #[.int .i64 f0, .int .i64 g0, .slice A0 n cap0] 30))
  have HT0 := Hid.in_ (TrkAt.fresh (t := 30) (f := f0) (g := g0) (v := .slice A0 n cap0) w)
  go_enter Try.func12, Try.ntmps12
  go_wp2_with fail
  generalize w.alloc (.cells #[.int .i64 f0, .int .i64 g0, .slice A0 n cap0] 30) = w0 at *
  refine (laws_szTrackSpec _ _ _ _ (HS.out.below HB0.out) HN.out HK0.out (by omega) (by omega)).mono ?_
  rintro e w2 ⟨rfl | ⟨r, rfl, hr0, hr1, hsz⟩, hb1⟩
  · have HB := Hid.in_ (bstep HB0.out hb1)
    go_wp2
    go_ret
    exact ⟨rfl, HB.out⟩
  have hn2 : n ≤ 1048576 := by omega
  have HZ := Hid.in_ (show ∀ x ∈ l0, x.d.size ≤ 1048576 from fun x hx => by have := hsz x hx; omega)
  have HB2 := Hid.in_ (bstep HB0.out hb1)
  have HT02 := Hid.in_ (HT0.out.step hb1)
  clear hb1 hsz HB0 HT0
  have C0 := Hid.in_ (show ∀ w', Below w2.heap.size w2 w' → Calls Try.prog 22 #[.agg #[.int .i64 f0, .int .i64 g0, .slice A0 n cap0]] w' fun e w'' => ∃ v, e = .returned (.agg #[.int .i64 f0, .int .i64 g0, v]) ∧ w''.ownsRow w'.heap.size 52 8 v n (l0.flatMap SecR.cells) ∧ Below w'.heap.size w' w'' from
    fun w' hw => laws_toTrackSpec _ _ w' (HS.out.below (bstep HB2.out hw)) HN.out hn2)
  obtain ⟨a0, a1, a2⟩ := HT02.out
  go_wp2_with fail
  refine (C0.out _ (Below.refl _ _)).mono ?_
  rintro e w3 ⟨v3, rfl, ho3, hb3⟩
  have HB3 := Hid.in_ hb3
  have HO3 := Hid.in_ ho3
  obtain ⟨B3, d3, hv3, _⟩ := own_shape ho3
  subst hv3
  clear ho3 hb3 a0 a1 a2
  go_wp2_with fail
  refine (spec_TrackCells _ _ _ HO3.out HZ.out).mono ?_
  rintro e w4 ⟨rfl, hb4⟩
  have HB4 := Hid.in_ (HB3.out.trans (hb4.mono HB3.out.size))
  clear hb4 HB3 HO3
  obtain ⟨a0, a1, a2⟩ := HT02.out.step HB4.out
  go_wp2_with fail
  refine (C0.out _ HB4.out).mono ?_
  rintro e w5 ⟨v5, rfl, ho5, hb5⟩
  have hB5 := HB4.out.trans (hb5.mono HB4.out.size)
  obtain ⟨B5, d5, hv5, _⟩ := own_shape ho5
  subst hv5
  have hB6 := hB5.alloc hB5.size (.cells #[.int .i64 f0, .int .i64 g0, .slice B5 n d5] 35)
  have hb56 := (Below.refl w5.heap.size w5).alloc (Nat.le_refl _) (.cells #[.int .i64 f0, .int .i64 g0, .slice B5 n d5] 35)
  have hT6 := TrkAt.fresh (t := 35) (f := f0) (g := g0) (v := .slice B5 n d5) w5
  have ho6 := ostep hb56 ho5
  obtain ⟨c0, c1, c2⟩ := hT6
  clear a0 a1 a2
  go_wp2_with fail
  generalize w5.alloc (.cells #[.int .i64 f0, .int .i64 g0, .slice B5 n d5] 35) = w6 at *
  refine (impl_TrackCells _ _ _ ho6 HZ.out).mono ?_
  rintro e w7 ⟨rfl, hb7⟩
  have HB7 := Hid.in_ (hB6.trans (hb7.mono hB6.size))
  have HT7 := Hid.in_ (TrkAt.step ⟨c0, c1, c2⟩ hb7)
  have HO7 := Hid.in_ (ostep hb7 ho6)
  have HA7 := Hid.in_ (HT02.out.step HB7.out)
  clear c0 c1 c2 ho6 hb7 hB6 hb56 hB5 hb5 ho5
  generalize trackTotal f0 g0 l0 = z
  go_upto_region 10 with fail
  go_cut [26] (fun s26 wy => s26 = .bool false ∧ Hid (Below w7.heap.size w7 wy))
  case first =>
    obtain ⟨a0, a1, a2⟩ := HT7.out
    obtain ⟨b0, b1, b2⟩ := HA7.out
    go_region_with (first
      | (go_at_call 22; refine (C0.out _ ?_).mono ?_; exact HB7.out.drew; rintro e wa ⟨va, rfl, hoa, hba⟩; have hba' := ((Below.refl w7.heap.size w7).drew).trans hba; obtain ⟨b3, b4, b5⟩ := HT7.out.step hba'; have hO := ostep hba' HO7.out)
      | (go_at_call 24; refine (laws_eqTrackSpec _ _ _ hO hoa).mono ?_; rintro e we ⟨rfl, hbc⟩; have hbc' := hba'.trans (hbc.mono hba'.size)))
    all_goals
      go_wp2_with fail
      go_meet
      exact ⟨rfl, hbc'⟩
  case rest =>
    obtain ⟨rfl, HBz⟩ := hcut
    have HBE := Hid.in_ (bstep HB2.out (HB7.out.trans (HBz.out.mono HB7.out.size)))
    go_wp2
    go_ret
    exact ⟨rfl, HBE.out⟩

set_option maxRecDepth 100000 in
theorem FnExactTrackCells_lifted (os : Os) (started : os.Started) (H : Type) (enc : TypeId × Value → H) :
    ReturnsInHanded {} Try.checked os 12 .any (Rows.fnExactTrackCellsSpec.pre6 enc Try.prog Try.f12 Rows.fnExactTrackCellsRow.domain false) (Rows.fnExactTrackCellsSpec.post enc Try.prog Try.f12 false true false false) := by
  refine returnsInHanded_of_change (C := Try.checked) Try.own started (by kernel_rfl) Try.func12
    (ChangeSpec.witness6 (enc := enc) (C := Try.checked) false ⟨#[], #[.agg #[.int .i64 0, .int .i64 0, .slice none 0 0]], []⟩ 8 (by kernel_rfl) (by kernel_rfl) (by kernel_rfl) (by kernel_rfl)) ?_
  intro W base args ds gs before hval0 hW hcnd _
  have hval : ∀ (j : Nat) t v, Try.f12.params[j]? = some t → args[j]? = some v → Value.okWide Try.prog W .any base t v := hval0
  have hW' := hW
  obtain ⟨p, q, hA0, hV, hbe, hfz, hnd⟩ := hW
  have hA : DataW.TrodAll enc Try.prog W 0 (fun _ => true) true Try.f12.params.toList args.toList ds p := hA0
  rw [Try.params12] at hA hval
  obtain ⟨v0, vs0, d0, ds0, p0, q0, hargs, rfl, rfl, h0, r0⟩ := trodAll_cons hA
  obtain ⟨rfl, rfl, rfl⟩ := trodAll_nil r0
  obtain rfl : args = #[v0] := by cases args; simp_all
  obtain ⟨rfl, _⟩ := trodVars_none hV
  obtain ⟨f0, g0, A0, cap0, l0, rfl, s0, k0, wf0, wg0⟩ := byval_Track (hval 0 30 v0 rfl rfl) h0
  clear hA0 hval0
  refine (FnExactTrackCells_walk f0 g0 A0 cap0 l0 W s0 k0).mono fun e W' ⟨he, hb⟩ => ?_
  subst he
  exact ⟨_, rfl, law_post Try.laidOut (by kernel_rfl) rfl Try.underlying4 rfl rfl hW' hb⟩

theorem FnExactTrackCells_over : Rows.fnExactTrackCellsRow.holds Try.pinned (OpenSpec.ofChange Rows.fnExactTrackCellsSpec) :=
  OpenClaim.holds_of_wide 12 Try.f12 rfl rfl rfl rfl rfl rfl rfl ⟨rfl, rfl, rfl, rfl, rfl⟩ rfl rfl rfl rfl rfl (by kernel_rfl) Try.func12 (by kernel_rfl)
    (of_decide_eq_true (by kernel_rfl)) (by unfold Func.isWrapper; first | (rw [if_pos (by decide +kernel)]; kernel_rfl) | (rw [if_neg (by decide +kernel)]; exact ⟨rfl, rfl⟩))
    (fun os started H enc _ => FnExactTrackCells_lifted os started H enc)

theorem FnExactTrackCells_proved : Rows.FnExactTrackCellsSaid := FnExactTrackCells_over
#print axioms FnExactTrackCells_proved
end Go.Proofs.Ytomfagckcfmfjaa
