/- 'FnExactVotedText': for every input the law returns true, and each argument reads behind the call as it read before. No condition. -/
import Derived.Test.YtklaakhdpfgffaaDoorDoor
import Derived.Test.YtklaakhdpfgffaaDoorVotT
import Derived.Test.YtklaakhdpfgffaaDoorCards
import Derived.Test.YtklaakhdpfgffaaDoorTie
namespace Go.Proofs.YtklaakhdpfgffaaDoor
open Go.ChangeShapes Go.WideShapes Go.ChangeAt Go.RowKit
open Go.ChangeMaps (open_string shut_string)
set_option linter.unusedVariables false
set_option maxHeartbeats 2000000 in
theorem FnExactVotedText_walk (c h n s : Int) (d : ByteArray) (t : Int) (x : Bool) (A0 : Option Addr) (cap0 : Nat) (l0 : List Int) (vo : Int) (w : World) (s0 : ArgS w A0 l0.length cap0 1 (I64 l0)) (wd : d.size ≤ maxLen) (hP : PowT w) :
    Calls Tryd.prog 5 #[.agg #[.int .i64 c, .int .i64 h, .int .i64 n, .int .i64 s, .string d, .int .i64 t, .bool x, .slice A0 l0.length cap0, .int .i64 vo]] w fun e w' => e = .returned (.bool true) ∧ Below w.heap.size w w' := by
  obtain ⟨N, hN⟩ : ∃ N, l0.length = N := ⟨_, rfl⟩
  rw [hN] at s0 ⊢
  have HN := Hid.in_ hN
  have hm : N ≤ 9223372036854775807 := Nat.le_trans s0.2.1 s0.2.2.1
  have HB1 := Hid.in_ (balloc (Below.refl w.heap.size w) (.cells #[.int .i64 c, .int .i64 h, .int .i64 n, .int .i64 s, .string d, .int .i64 t, .bool x, .slice A0 N cap0, .int .i64 vo] 37))
  have HX1 := Hid.in_ (Box.new w [.int .i64 c, .int .i64 h, .int .i64 n, .int .i64 s, .string d, .int .i64 t, .bool x, .slice A0 N cap0, .int .i64 vo] 37)
  have HS := Hid.in_ s0
  have HP := Hid.in_ hP
  clear hP
  clear s0 hN
  go_enter Tryd.func5, Tryd.ntmps5
  go_wp2_with fail
  refine (laws_szVoted _ _ _ _ _ _ _ _ _ _ wd hm (by omega) (by omega)).mono ?_
  rintro e w2 ⟨rfl | ⟨r, rfl, hr0, hr1, hr2⟩, hb2⟩
  · have HB := Hid.in_ (bstep HB1.out hb2)
    clear hb2
    go_wp2
    go_ret
    exact ⟨rfl, HB.out⟩
  have HB2 := Hid.in_ (bstep HB1.out hb2)
  have HX2 := Hid.in_ (HX1.out.step hb2)
  have hd : d.size ≤ 1048576 := by omega
  have hn2 : N ≤ 1048576 := by omega
  clear hb2
  obtain ⟨a0, a1, a2, a3, a4, a5, a6, a7, a8⟩ := box9 HX2.out
  go_wp2_with fail
  refine (laws_toVoted _ _ _ _ _ _ _ _ _ (HS.out.below HB2.out) HN.out hn2).mono ?_
  rintro e w3 ⟨v3, rfl, ho3, hb3⟩
  have HB3 := Hid.in_ (bstep HB2.out hb3)
  go_wp2_with fail
  refine (spec_VotedText _ _ _ _ _ _ _ _ _ ho3 hd hn2).mono ?_
  rintro e w4 ⟨rfl, hb4⟩
  have HB4 := Hid.in_ (bstep HB3.out hb4)
  have HX4 := Hid.in_ ((HX2.out.step hb3).step hb4)
  clear a0 a1 a2 a3 a4 a5 a6 a7 a8 hb3 hb4 ho3
  obtain ⟨a0, a1, a2, a3, a4, a5, a6, a7, a8⟩ := box9 HX4.out
  go_wp2_with fail
  refine (laws_toVoted _ _ _ _ _ _ _ _ _ (HS.out.below HB4.out) HN.out hn2).mono ?_
  rintro e w5 ⟨v5, rfl, ho5, hb5⟩
  obtain ⟨A5, c5, rfl, _, _, _⟩ := own_shape ho5
  have HB6 := Hid.in_ (balloc (bstep HB4.out hb5) (.cells #[.int .i64 c, .int .i64 h, .int .i64 n, .int .i64 s, .string d, .int .i64 t, .bool x, .slice A5 N c5, .int .i64 vo] 40))
  have HX6 := Hid.in_ ((HX4.out.step hb5).step (balloc (Below.refl w5.heap.size w5) (.cells #[.int .i64 c, .int .i64 h, .int .i64 n, .int .i64 s, .string d, .int .i64 t, .bool x, .slice A5 N c5, .int .i64 vo] 40)))
  have HY6 := Hid.in_ (Box.new w5 [.int .i64 c, .int .i64 h, .int .i64 n, .int .i64 s, .string d, .int .i64 t, .bool x, .slice A5 N c5, .int .i64 vo] 40)
  have HO6 := Hid.in_ (ho5.alloc (.cells #[.int .i64 c, .int .i64 h, .int .i64 n, .int .i64 s, .string d, .int .i64 t, .bool x, .slice A5 N c5, .int .i64 vo] 40))
  clear a0 a1 a2 a3 a4 a5 a6 a7 a8 hb5 ho5
  go_wp2_with fail
  refine (impl_VotedText _ _ _ _ _ _ _ _ _ HO6.out hd hn2 (tab_step HP.out HB6.out)).mono ?_
  rintro e w7 ⟨rfl, hb7⟩
  have HB7 := Hid.in_ (bstep HB6.out hb7)
  have HX7 := Hid.in_ (HX6.out.step hb7)
  have HY7 := Hid.in_ (HY6.out.step hb7)
  have HO7 := Hid.in_ (ostep hb7 HO6.out)
  have HA7 := Hid.in_ (HS.out.below HB7.out)
  clear hb7 HB6 HX6 HY6 HO6
  obtain ⟨a0, a1, a2, a3, a4, a5, a6, a7, a8⟩ := box9 HX7.out
  obtain ⟨b0, b1, b2, b3, b4, b5, b6, b7, b8⟩ := box9 HY7.out
  generalize votedText c h n s d t x l0 vo = z at *
  have C0 := Hid.in_ (fun (w' : World) (hw : Below w7.heap.size w7 w') => laws_toVoted c h n s d t x vo w' (HA7.out.below hw) HN.out hn2)
  go_wp2_with fail
  go_region_with (first
    | (go_at_call 17; refine (C0.out _ ?_).mono ?_; exact (Below.refl _ _).drew; rintro e wa ⟨va, rfl, hoa, hba⟩; have hba' := ((Below.refl w7.heap.size w7).drew).trans hba; obtain ⟨b0, b1, b2, b3, b4, b5, b6, b7, b8⟩ := box9 (HY7.out.step hba'); have hO := ostep hba' HO7.out)
    | (go_at_call 19; refine (laws_eqVoted _ _ _ _ _ _ _ _ _ hO hoa).mono ?_; rintro e we ⟨rfl, hbc⟩; have hbc' := hba'.trans (hbc.mono hba'.size)))
  all_goals
    go_wp2
    go_ret
    exact ⟨rfl, bstep HB7.out hbc'⟩

set_option maxRecDepth 100000 in
theorem FnExactVotedText_contract (H : Type) (enc : TypeId × Value → H) (W : World) (base : Nat) (args : Array Value) (ds gs : List (DataW H)) (before : List MemPlace)
    (hval : ∀ (j : Nat) t v, Tryd.f5.params[j]? = some t → args[j]? = some v → Value.okWide Tryd.prog W .any base t v)
    (hW : DataW.Whole enc Tryd.prog Tryd.f5.params.toList Rows.fnExactVotedTextSpec.vars false W args.toList ds gs before) (hL : laidMetH Tryd.prog Rows.fnExactVotedTextRow.laid W) :
    Calls Tryd.prog 5 args W fun e W' => ∃ v, e = .returned v ∧ Rows.fnExactVotedTextSpec.post enc Tryd.prog Tryd.f5 false true false false W args v W' := by
  have hW' := hW
  obtain ⟨p, q, hA0, hV, hbe, hfz, hnd⟩ := hW
  have hA : DataW.TrodAll enc Tryd.prog W 0 (fun _ => true) true Tryd.f5.params.toList args.toList ds p := hA0
  rw [Tryd.params5] at hA hval
  obtain ⟨v0, vs0, d0, ds0, p0, q0, hargs, rfl, rfl, h0, r0⟩ := trodAll_cons hA
  obtain ⟨rfl, rfl, rfl⟩ := trodAll_nil r0
  obtain rfl : args = #[v0] := by cases args; simp_all
  obtain ⟨rfl, _⟩ := trodVars_none hV
  obtain ⟨cc0, hh0, nn0, ss0, dd0, tt0, xx0, A0, cap0, l0, vv0, rfl, sa0, wd0⟩ := byval_Voted (hval 0 37 v0 rfl rfl) h0
  clear hA0
  have hP : PowT W := tab_name (by kernel_rfl) (tab_laid (Rows.fnExactVotedTextRow.laid[2]) (k := .u64) (zs := Lib.pow10Tab) (g := 3) (by kernel_rfl) (by kernel_rfl) Tryd.underlying125 Tryd.underlying87 (by kernel_rfl) (by kernel_rfl) (by kernel_rfl) (List.mem_filter.2 ⟨List.getElem_mem _, by kernel_rfl⟩) hL)
  refine (FnExactVotedText_walk cc0 hh0 nn0 ss0 dd0 tt0 xx0 A0 cap0 l0 vv0 W sa0 wd0 hP).mono fun e W' ⟨he, hb⟩ => ?_
  subst he
  exact ⟨_, rfl, law_post Tryd.laidOut (by kernel_rfl) rfl Tryd.underlying4 rfl rfl hW' hb⟩

theorem FnExactVotedText_laid (os : Os) : laidMet Tryd.prog Rows.fnExactVotedTextRow.laid ((laidWorld Tryd.prog os Rows.fnExactVotedTextRow.laid).forCall (fun _ _ => 0) ⟨#[], #[.agg #[.int .i64 0, .int .i64 0, .int .i64 0, .int .i64 0, .string ByteArray.empty, .int .i64 0, .bool false, .slice none 0 0, .int .i64 0]], []⟩).memory := laidMet_of_run' 8 (by kernel_rfl) (by kernel_rfl)
theorem FnExactVotedText_reads (os : Os) {H : Type} (enc : TypeId × Value → H) : (DataW.whole enc Tryd.prog ((laidWorld Tryd.prog os Rows.fnExactVotedTextRow.laid).forCall (fun _ _ => 0) ⟨#[], #[.agg #[.int .i64 0, .int .i64 0, .int .i64 0, .int .i64 0, .string ByteArray.empty, .int .i64 0, .bool false, .slice none 0 0, .int .i64 0]], []⟩).memory Tryd.f5.params.toList Rows.fnExactVotedTextSpec.vars false #[.agg #[.int .i64 0, .int .i64 0, .int .i64 0, .int .i64 0, .string ByteArray.empty, .int .i64 0, .bool false, .slice none 0 0, .int .i64 0]].toList 8).isSome = true := by kernel_rfl
set_option maxRecDepth 100000 in
theorem FnExactVotedText_lifted (os : Os) (started : os.Started) (H : Type) (enc : TypeId × Value → H) (F : Stop.Interp) :
    ReturnsInHanded {} Tryd.checked os 5 .any ((OpenSpec.ofChange Rows.fnExactVotedTextSpec).preRow enc Tryd.prog Tryd.f5 Rows.fnExactVotedTextRow.domain false Rows.fnExactVotedTextRow.laid) (((OpenSpec.ofChange Rows.fnExactVotedTextSpec).at F).post enc Tryd.prog Tryd.f5 false true false false) := by
  have hx := (Option.some_get (FnExactVotedText_reads os enc)).symm
  refine returnsInHanded_of_row (C := Tryd.checked) (s := OpenSpec.ofChange Rows.fnExactVotedTextSpec) Tryd.own started (by kernel_rfl) Tryd.func5
    (witness_row_at (enc := enc) (C := Tryd.checked) false (laidWorld Tryd.prog os Rows.fnExactVotedTextRow.laid) #[.agg #[.int .i64 0, .int .i64 0, .int .i64 0, .int .i64 0, .string ByteArray.empty, .int .i64 0, .bool false, .slice none 0 0, .int .i64 0]] (laidWorld_os _ _ _) (by kernel_rfl) (by kernel_rfl) (by kernel_rfl)
      (OpenSpec.preRow_of_cond 8 hx rfl (fun k hk => by cases hk) (by kernel_rfl) (FnExactVotedText_laid os))) ?_
  intro W base args ds gs before hval hW _ _ _ hL _ _
  exact FnExactVotedText_contract H enc W base args ds gs before hval hW hL

theorem FnExactVotedText_said : Rows.FnExactVotedTextSaid :=
  OpenClaim.holds_of_cond 5 Tryd.f5 rfl rfl rfl rfl rfl rfl rfl ⟨rfl, rfl, rfl, rfl, rfl⟩ rfl rfl rfl rfl rfl (by kernel_rfl) Tryd.func5 (by kernel_rfl)
    (of_decide_eq_true (by kernel_rfl)) (by unfold Func.isWrapper; first | (rw [if_pos (by decide +kernel)]; kernel_rfl) | (rw [if_neg (by decide +kernel)]; exact ⟨rfl, rfl⟩))
    (fun os started H enc _ F => by rw [OpenClaim.pre_eq_preRow]; exact FnExactVotedText_lifted os started H enc F)
theorem FnExactVotedText_plain (f : FuncId) (fn : Func) (hf : Tryd.pinned.checked.prog.funcNamed Rows.fnExactVotedTextRow.func = some f) (hfn : Tryd.pinned.checked.prog.funcs[f]? = some fn) :
    false = Tryd.pinned.checked.prog.looks [] ∧ ∀ (j : Nat) t, fn.params[j]? = some t → Tryd.pinned.checked.prog.wantsStandIn t = false := by
  obtain rfl : f = 5 := Option.some.inj ((show Tryd.prog.funcNamed Rows.fnExactVotedTextRow.func = some 5 by kernel_rfl).symm.trans hf) |>.symm
  obtain rfl : fn = Tryd.f5 := (Option.some.inj (Tryd.func5.symm.trans hfn)).symm
  exact ⟨by kernel_rfl, fun j t ht => noStandIn (P := Tryd.prog) (fn := Tryd.f5) (by kernel_rfl) j t ht⟩
theorem FnExactVotedText_proved : Rows.FnExactVotedTextCardSaid :=
  Claim7.holds_tied_plain_at .later [] _ _ _ _ FnExactVotedText_said (fun _ h => by cases h) (by kernel_rfl) (fun _ h => by cases h) fnExactVotedText_row_tie rfl ⟨rfl, rfl⟩ (by kernel_rfl) rfl FnExactVotedText_plain (by kernel_rfl)
#print axioms FnExactVotedText_proved
end Go.Proofs.YtklaakhdpfgffaaDoor
