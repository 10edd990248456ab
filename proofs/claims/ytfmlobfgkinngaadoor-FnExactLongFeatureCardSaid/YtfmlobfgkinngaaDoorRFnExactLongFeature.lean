/- 'FnExactLongFeature': for every input the law returns true, and each argument reads behind the call as it read before. No condition. -/
import Derived.Test.YtfmlobfgkinngaaDoorDoor
import Derived.Test.YtfmlobfgkinngaaDoorLong
import Derived.Test.YtfmlobfgkinngaaDoorCards
import Derived.Test.YtfmlobfgkinngaaDoorTie
namespace Go.Proofs.YtfmlobfgkinngaaDoor
open Go.ChangeShapes Go.WideShapes Go.ChangeAt Go.RowKit
open Go.ChangeMaps (open_string shut_string)
set_option linter.unusedVariables false
set_option maxHeartbeats 1000000 in
theorem FnExactLongFeature_walk (a0 : ByteArray) (w0 : a0.size ≤ maxLen) (a1 : Int) (w1 : (Lit.int .i64 a1).wf = true) (w : World) :
    Calls Tryd.prog 9 #[.string a0, .int .i64 a1] w fun e w' => e = .returned (.bool true) ∧ Below w.heap.size w w' := by
  unfold maxLen at w0
  by_cases h0 : (1048576 : Int) < a0.size
  · go_enter Tryd.func9, Tryd.ntmps9
    go_wp2
    go_ret
    exact ⟨rfl, Below.refl _ _⟩
  have HS := Hid.in_ (show a0.size ≤ 1048576 by omega)
  have HW := Hid.in_ w1
  clear w1
  go_enter Tryd.func9, Tryd.ntmps9
  go_wp2_with fail
  refine (spec_LongFeature _ _ _ HS.out HW.out).mono ?_
  rintro e w1 ⟨rfl, hb1⟩
  unfold longR
  go_wp2_with fail
  refine (impl_LongFeature _ _ _ HS.out HW.out).mono ?_
  rintro e w2 ⟨rfl, hb2⟩
  unfold longR
  obtain ⟨c0, c1, c2, _, _, _, hb3⟩ := fresh3 hb2
  have HB := Hid.in_ (bstep hb1 hb3)
  clear hb1 hb2 hb3
  generalize longK a0 a1 = x at *
  generalize longV a0 a1 = z at *
  generalize longOk a0 a1 = y at *
  have d0 := cstep (balloc (Below.refl _ _) (.cells #[.int .i64 x, .int .i64 0, .int .i64 z] 47)) c0
  have d1 := cstep (balloc (Below.refl _ _) (.cells #[.int .i64 x, .int .i64 0, .int .i64 z] 47)) c1
  have d2 := cstep (balloc (Below.refl _ _) (.cells #[.int .i64 x, .int .i64 0, .int .i64 z] 47)) c2
  have HB2 := Hid.in_ (balloc HB.out (.cells #[.int .i64 x, .int .i64 0, .int .i64 z] 47))
  clear c0 c1 c2
  cases y
  all_goals
    go_wp2_with fail
    refine (laws_eqFeature _ _ _ _).mono ?_
    rintro e w3 ⟨rfl, hb3⟩
    have HB3 := Hid.in_ (bstep HB2.out hb3)
    clear hb3
    go_wp2
    go_ret
    exact ⟨rfl, HB3.out⟩

set_option maxRecDepth 100000 in
theorem FnExactLongFeature_contract (H : Type) (enc : TypeId × Value → H) (W : World) (base : Nat) (args : Array Value) (ds gs : List (DataW H)) (before : List MemPlace)
    (hval : ∀ (j : Nat) t v, Tryd.f9.params[j]? = some t → args[j]? = some v → Value.okWide Tryd.prog W .any base t v)
    (hW : DataW.Whole enc Tryd.prog Tryd.f9.params.toList Rows.fnExactLongFeatureSpec.vars false W args.toList ds gs before) (hL : laidMetH Tryd.prog Rows.fnExactLongFeatureRow.laid W) :
    Calls Tryd.prog 9 args W fun e W' => ∃ v, e = .returned v ∧ Rows.fnExactLongFeatureSpec.post enc Tryd.prog Tryd.f9 false true false false W args v W' := by
  have hW' := hW
  obtain ⟨p, q, hA0, hV, hbe, hfz, hnd⟩ := hW
  have hA : DataW.TrodAll enc Tryd.prog W 0 (fun _ => true) true Tryd.f9.params.toList args.toList ds p := hA0
  rw [Tryd.params9] at hA hval
  obtain ⟨v0, vs0, d0, ds0, p0, q0, hargs, rfl, rfl, h0, r0⟩ := trodAll_cons hA
  obtain ⟨v1, vs1, d1, ds1, p1, q1, rfl, rfl, rfl, h1, r1⟩ := trodAll_cons r0
  obtain ⟨rfl, rfl, rfl⟩ := trodAll_nil r1
  obtain rfl : args = #[v0, v1] := by cases args; simp_all
  obtain ⟨rfl, _⟩ := trodVars_none hV
  obtain ⟨a0, rfl, rfl, rfl, w0⟩ := open_string Tryd.underlying9 (hval 0 9 v0 rfl rfl) h0
  obtain ⟨a1, rfl, rfl, rfl, w1⟩ := open_int Tryd.underlying2 (hval 1 2 v1 rfl rfl) h1
  clear hA0
  refine (FnExactLongFeature_walk a0 w0 a1 w1 W).mono fun e W' ⟨he, hb⟩ => ?_
  subst he
  exact ⟨_, rfl, law_post Tryd.laidOut (by kernel_rfl) rfl Tryd.underlying4 rfl rfl hW' hb⟩

theorem FnExactLongFeature_laid (os : Os) : laidMet Tryd.prog Rows.fnExactLongFeatureRow.laid ((laidWorld Tryd.prog os Rows.fnExactLongFeatureRow.laid).forCall (fun _ _ => 0) ⟨#[], #[.string ByteArray.empty, .int .i64 0], []⟩).memory := laidMet_of_run' 8 (by kernel_rfl) (by kernel_rfl)
theorem FnExactLongFeature_reads (os : Os) {H : Type} (enc : TypeId × Value → H) : (DataW.whole enc Tryd.prog ((laidWorld Tryd.prog os Rows.fnExactLongFeatureRow.laid).forCall (fun _ _ => 0) ⟨#[], #[.string ByteArray.empty, .int .i64 0], []⟩).memory Tryd.f9.params.toList Rows.fnExactLongFeatureSpec.vars false #[.string ByteArray.empty, .int .i64 0].toList 8).isSome = true := by kernel_rfl
set_option maxRecDepth 100000 in
theorem FnExactLongFeature_lifted (os : Os) (started : os.Started) (H : Type) (enc : TypeId × Value → H) (F : Stop.Interp) :
    ReturnsInHanded {} Tryd.checked os 9 .any ((OpenSpec.ofChange Rows.fnExactLongFeatureSpec).preRow enc Tryd.prog Tryd.f9 Rows.fnExactLongFeatureRow.domain false Rows.fnExactLongFeatureRow.laid) (((OpenSpec.ofChange Rows.fnExactLongFeatureSpec).at F).post enc Tryd.prog Tryd.f9 false true false false) := by
  have hx := (Option.some_get (FnExactLongFeature_reads os enc)).symm
  refine returnsInHanded_of_row (C := Tryd.checked) (s := OpenSpec.ofChange Rows.fnExactLongFeatureSpec) Tryd.own started (by kernel_rfl) Tryd.func9
    (witness_row_at (enc := enc) (C := Tryd.checked) false (laidWorld Tryd.prog os Rows.fnExactLongFeatureRow.laid) #[.string ByteArray.empty, .int .i64 0] (laidWorld_os _ _ _) (by kernel_rfl) (by kernel_rfl) (by kernel_rfl)
      (OpenSpec.preRow_of_cond 8 hx rfl (fun k hk => by cases hk) (by kernel_rfl) (FnExactLongFeature_laid os))) ?_
  intro W base args ds gs before hval hW _ _ _ hL _ _
  exact FnExactLongFeature_contract H enc W base args ds gs before hval hW hL

theorem FnExactLongFeature_said : Rows.FnExactLongFeatureSaid :=
  OpenClaim.holds_of_cond 9 Tryd.f9 rfl rfl rfl rfl rfl rfl rfl ⟨rfl, rfl, rfl, rfl, rfl⟩ rfl rfl rfl rfl rfl (by kernel_rfl) Tryd.func9 (by kernel_rfl)
    (of_decide_eq_true (by kernel_rfl)) (by unfold Func.isWrapper; first | (rw [if_pos (by decide +kernel)]; kernel_rfl) | (rw [if_neg (by decide +kernel)]; exact ⟨rfl, rfl⟩))
    (fun os started H enc _ F => by rw [OpenClaim.pre_eq_preRow]; exact FnExactLongFeature_lifted os started H enc F)
theorem FnExactLongFeature_plain (f : FuncId) (fn : Func) (hf : Tryd.pinned.checked.prog.funcNamed Rows.fnExactLongFeatureRow.func = some f) (hfn : Tryd.pinned.checked.prog.funcs[f]? = some fn) :
    false = Tryd.pinned.checked.prog.looks [] ∧ ∀ (j : Nat) t, fn.params[j]? = some t → Tryd.pinned.checked.prog.wantsStandIn t = false := by
  obtain rfl : f = 9 := Option.some.inj ((show Tryd.prog.funcNamed Rows.fnExactLongFeatureRow.func = some 9 by kernel_rfl).symm.trans hf) |>.symm
  obtain rfl : fn = Tryd.f9 := (Option.some.inj (Tryd.func9.symm.trans hfn)).symm
  exact ⟨by kernel_rfl, fun j t ht => noStandIn (P := Tryd.prog) (fn := Tryd.f9) (by kernel_rfl) j t ht⟩
theorem FnExactLongFeature_proved : Rows.FnExactLongFeatureCardSaid :=
  Claim7.holds_tied_plain_at .later [] _ _ _ _ FnExactLongFeature_said (fun _ h => by cases h) (by kernel_rfl) (fun _ h => by cases h) fnExactLongFeature_row_tie rfl ⟨rfl, rfl⟩ (by kernel_rfl) rfl FnExactLongFeature_plain (by kernel_rfl)
#print axioms FnExactLongFeature_proved
end Go.Proofs.YtfmlobfgkinngaaDoor
