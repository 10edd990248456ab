/- 'FnExactValidVoted': for every input the law returns true, and each argument reads behind the call as it read before. No condition. -/
import Derived.Test.YtfmlobfgkinngabLaw
import Derived.Test.YtfmlobfgkinngabVotedS
import Derived.Test.YtfmlobfgkinngabRows
namespace Go.Proofs.Ytfmlobfgkinngab
open Go.ChangeShapes Go.WideShapes Go.ChangeAt Go.RowKit
open Go.ChangeMaps (open_string shut_string)
set_option linter.unusedVariables false
set_option maxHeartbeats 2000000 in
theorem FnExactValidVoted_walk (c h n s : Int) (d : ByteArray) (t : Int) (x : Bool) (A0 : Option Addr) (cap0 : Nat) (l0 : List Int) (vo : Int) (w : World) (s0 : ArgS w A0 l0.length cap0 1 (I64 l0)) (wd : d.size ≤ maxLen) :
    Calls Try.prog 3 #[.agg #[.int .i64 c, .int .i64 h, .int .i64 n, .int .i64 s, .string d, .int .i64 t, .bool x, .slice A0 l0.length cap0, .int .i64 vo]] w fun e w' => e = .returned (.bool true) ∧ Below w.heap.size w w' := by
  obtain ⟨N, hN⟩ : ∃ N, l0.length = N := ⟨_, rfl⟩
  rw [hN] at s0 ⊢
  have HN := Hid.in_ hN
  have hm : N ≤ 9223372036854775807 := Nat.le_trans s0.2.1 s0.2.2.1
  have HB1 := Hid.in_ (balloc (Below.refl w.heap.size w) (.cells #[.int .i64 c, .int .i64 h, .int .i64 n, .int .i64 s, .string d, .int .i64 t, .bool x, .slice A0 N cap0, .int .i64 vo] 24))
  have HX1 := Hid.in_ (Box.new w [.int .i64 c, .int .i64 h, .int .i64 n, .int .i64 s, .string d, .int .i64 t, .bool x, .slice A0 N cap0, .int .i64 vo] 24)
  have HS := Hid.in_ s0
  clear s0 hN
  go_enter Try.func3, Try.ntmps3
  go_wp2_with fail
  refine (laws_szVoted _ _ _ _ _ _ _ _ _ _ wd hm (by omega) (by omega)).mono ?_
  rintro e w2 ⟨rfl | ⟨r, rfl, hr0, hr1, hr2⟩, hb2⟩
  · have HB := Hid.in_ (bstep HB1.out hb2)
    clear hb2
    go_wp2
    go_ret
    exact ⟨rfl, HB.out⟩
  have HB2 := Hid.in_ (bstep HB1.out hb2)
  have HX2 := Hid.in_ (HX1.out.step hb2)
  have hd : d.size ≤ 1048576 := by omega
  have hn2 : N ≤ 1048576 := by omega
  clear hb2
  obtain ⟨a0, a1, a2, a3, a4, a5, a6, a7, a8⟩ := box9 HX2.out
  go_wp2_with fail
  refine (laws_toVoted _ _ _ _ _ _ _ _ _ (HS.out.below HB2.out) HN.out hn2).mono ?_
  rintro e w3 ⟨v3, rfl, ho3, hb3⟩
  have HB3 := Hid.in_ (bstep HB2.out hb3)
  go_wp2_with fail
  refine (spec_ValidVoted _ _ _ _ _ _ _ _ _ ho3 hd hn2).mono ?_
  rintro e w4 ⟨rfl, hb4⟩
  have HB4 := Hid.in_ (bstep HB3.out hb4)
  have HX4 := Hid.in_ ((HX2.out.step hb3).step hb4)
  clear a0 a1 a2 a3 a4 a5 a6 a7 a8 hb3 hb4 ho3
  obtain ⟨a0, a1, a2, a3, a4, a5, a6, a7, a8⟩ := box9 HX4.out
  go_wp2_with fail
  refine (laws_toVoted _ _ _ _ _ _ _ _ _ (HS.out.below HB4.out) HN.out hn2).mono ?_
  rintro e w5 ⟨v5, rfl, ho5, hb5⟩
  obtain ⟨A5, c5, rfl, _, _, _⟩ := own_shape ho5
  have HB6 := Hid.in_ (balloc (bstep HB4.out hb5) (.cells #[.int .i64 c, .int .i64 h, .int .i64 n, .int .i64 s, .string d, .int .i64 t, .bool x, .slice A5 N c5, .int .i64 vo] 27))
  have HX6 := Hid.in_ ((HX4.out.step hb5).step (balloc (Below.refl w5.heap.size w5) (.cells #[.int .i64 c, .int .i64 h, .int .i64 n, .int .i64 s, .string d, .int .i64 t, .bool x, .slice A5 N c5, .int .i64 vo] 27)))
  have HY6 := Hid.in_ (Box.new w5 [.int .i64 c, .int .i64 h, .int .i64 n, .int .i64 s, .string d, .int .i64 t, .bool x, .slice A5 N c5, .int .i64 vo] 27)
  have HO6 := Hid.in_ (ho5.alloc (.cells #[.int .i64 c, .int .i64 h, .int .i64 n, .int .i64 s, .string d, .int .i64 t, .bool x, .slice A5 N c5, .int .i64 vo] 27))
  clear a0 a1 a2 a3 a4 a5 a6 a7 a8 hb5 ho5
  go_wp2_with fail
  refine (impl_ValidVoted _ _ _ _ _ _ _ _ _ HO6.out hd hn2).mono ?_
  rintro e w7 ⟨rfl, hb7⟩
  have HB7 := Hid.in_ (bstep HB6.out hb7)
  have HX7 := Hid.in_ (HX6.out.step hb7)
  have HY7 := Hid.in_ (HY6.out.step hb7)
  have HO7 := Hid.in_ (ostep hb7 HO6.out)
  have HA7 := Hid.in_ (HS.out.below HB7.out)
  clear hb7 HB6 HX6 HY6 HO6
  obtain ⟨a0, a1, a2, a3, a4, a5, a6, a7, a8⟩ := box9 HX7.out
  obtain ⟨b0, b1, b2, b3, b4, b5, b6, b7, b8⟩ := box9 HY7.out
  have C0 := Hid.in_ (fun (w' : World) (hw : Below w7.heap.size w7 w') => laws_toVoted c h n s d t x vo w' (HA7.out.below hw) HN.out hn2)
  go_wp2_with fail
  go_region_with (first
    | (go_at_call 6; refine (C0.out _ ?_).mono ?_; exact (Below.refl _ _).drew; rintro e wa ⟨va, rfl, hoa, hba⟩; have hba' := ((Below.refl w7.heap.size w7).drew).trans hba; obtain ⟨b0, b1, b2, b3, b4, b5, b6, b7, b8⟩ := box9 (HY7.out.step hba'); have hO := ostep hba' HO7.out)
    | (go_at_call 8; refine (laws_eqVoted _ _ _ _ _ _ _ _ _ hO hoa).mono ?_; rintro e we ⟨rfl, hbc⟩; have hbc' := hba'.trans (hbc.mono hba'.size)))
  all_goals
    go_wp2
    go_ret
    exact ⟨rfl, bstep HB7.out hbc'⟩

set_option maxRecDepth 100000 in
theorem FnExactValidVoted_lifted (os : Os) (started : os.Started) (H : Type) (enc : TypeId × Value → H) :
    ReturnsInHanded {} Try.checked os 3 .any (Rows.fnExactValidVotedSpec.pre6 enc Try.prog Try.f3 Rows.fnExactValidVotedRow.domain false) (Rows.fnExactValidVotedSpec.post enc Try.prog Try.f3 false true false false) := by
  refine returnsInHanded_of_change (C := Try.checked) Try.own started (by kernel_rfl) Try.func3
    (ChangeSpec.witness6 (enc := enc) (C := Try.checked) false ⟨#[], #[.agg #[.int .i64 0, .int .i64 0, .int .i64 0, .int .i64 0, .string ByteArray.empty, .int .i64 0, .bool false, .slice none 0 0, .int .i64 0]], []⟩ 8 (by kernel_rfl) (by kernel_rfl) (by kernel_rfl) (by kernel_rfl)) ?_
  intro W base args ds gs before hval0 hW hcnd _
  have hval : ∀ (j : Nat) t v, Try.f3.params[j]? = some t → args[j]? = some v → Value.okWide Try.prog W .any base t v := hval0
  have hW' := hW
  obtain ⟨p, q, hA0, hV, hbe, hfz, hnd⟩ := hW
  have hA : DataW.TrodAll enc Try.prog W 0 (fun _ => true) true Try.f3.params.toList args.toList ds p := hA0
  rw [Try.params3] at hA hval
  obtain ⟨v0, vs0, d0, ds0, p0, q0, hargs, rfl, rfl, h0, r0⟩ := trodAll_cons hA
  obtain ⟨rfl, rfl, rfl⟩ := trodAll_nil r0
  obtain rfl : args = #[v0] := by cases args; simp_all
  obtain ⟨rfl, _⟩ := trodVars_none hV
  obtain ⟨cc0, hh0, nn0, ss0, dd0, tt0, xx0, A0, cap0, l0, vv0, rfl, sa0, wd0⟩ := byval_Voted (hval 0 24 v0 rfl rfl) h0
  clear hA0 hval0
  refine (FnExactValidVoted_walk cc0 hh0 nn0 ss0 dd0 tt0 xx0 A0 cap0 l0 vv0 W sa0 wd0).mono fun e W' ⟨he, hb⟩ => ?_
  subst he
  exact ⟨_, rfl, law_post Try.laidOut (by kernel_rfl) rfl Try.underlying4 rfl rfl hW' hb⟩

theorem FnExactValidVoted_over : Rows.fnExactValidVotedRow.holds Try.pinned (OpenSpec.ofChange Rows.fnExactValidVotedSpec) :=
  OpenClaim.holds_of_wide 3 Try.f3 rfl rfl rfl rfl rfl rfl rfl ⟨rfl, rfl, rfl, rfl, rfl⟩ rfl rfl rfl rfl rfl (by kernel_rfl) Try.func3 (by kernel_rfl)
    (of_decide_eq_true (by kernel_rfl)) (by unfold Func.isWrapper; first | (rw [if_pos (by decide +kernel)]; kernel_rfl) | (rw [if_neg (by decide +kernel)]; exact ⟨rfl, rfl⟩))
    (fun os started H enc _ => FnExactValidVoted_lifted os started H enc)

theorem FnExactValidVoted_proved : Rows.FnExactValidVotedSaid := FnExactValidVoted_over
#print axioms FnExactValidVoted_proved
end Go.Proofs.Ytfmlobfgkinngab
