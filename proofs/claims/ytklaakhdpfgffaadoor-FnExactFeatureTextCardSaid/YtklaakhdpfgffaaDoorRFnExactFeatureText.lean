/- 'FnExactFeatureText': for every input the law returns true, and each argument reads behind the call as it read before. No condition. -/
import Derived.Test.YtklaakhdpfgffaaDoorDoor
import Derived.Test.YtklaakhdpfgffaaDoorFeatT
import Derived.Test.YtklaakhdpfgffaaDoorRec
import Derived.Test.YtklaakhdpfgffaaDoorCards
import Derived.Test.YtklaakhdpfgffaaDoorTie
namespace Go.Proofs.YtklaakhdpfgffaaDoor
open Go.ChangeShapes Go.WideShapes Go.ChangeAt Go.RowKit
open Go.ChangeMaps (open_string shut_string)
set_option linter.unusedVariables false
set_option maxHeartbeats 2000000 in
theorem FnExactFeatureText_walk (a0 : FeatR) (w0 : a0.ok) (w : World) (hF : FeatT w) (hP : PowT w) :
    Calls Tryd.prog 3 #[.agg a0.cells.toArray] w fun e w' => e = .returned (.bool true) ∧ Below w.heap.size w w' := by
  obtain ⟨k, s, v⟩ := a0
  have hs := w0.2.1
  clear w0
  show Calls Tryd.prog 3 #[.agg #[.int .i64 k, .int .i64 s, .int .i64 v]] w _
  have hB := Hid.in_ (Box.new w [.int .i64 k, .int .i64 s, .int .i64 v] 23)
  have HB0 := Hid.in_ (balloc (Below.refl w.heap.size w) (.cells #[.int .i64 k, .int .i64 s, .int .i64 v] 23))
  have HF := Hid.in_ (FeatT.step HB0.out hF)
  have HP := Hid.in_ (tab_step hP HB0.out)
  clear hF hP
  obtain ⟨c0, c1, c2⟩ := box3 hB.out
  go_enter Tryd.func3, Tryd.ntmps3
  go_wp2_with fail
  refine (laws_toFeature _ _ _ _).mono ?_
  rintro e w1 ⟨rfl, hb1⟩
  go_wp2_with fail
  refine (spec_FeatureText _ _ _ _ hs).mono ?_
  rintro e w2 ⟨rfl, hb2⟩
  have HB2 := Hid.in_ (bstep hb1 hb2)
  clear hb1 hb2 c0 c1 c2
  obtain ⟨d0, d1, d2⟩ := box3 (Box.step HB2.out hB.out)
  go_wp2_with fail
  refine (laws_toFeature _ _ _ _).mono ?_
  rintro e w3 ⟨rfl, hb3⟩
  have HB3 := Hid.in_ (bstep HB2.out hb3)
  clear hb3
  go_wp2_with fail
  refine (impl_FeatureText _ _ _ _ hs (FeatT.step HB3.out HF.out) (tab_step HP.out HB3.out)).mono ?_
  rintro e w4 ⟨rfl, hb4⟩
  have HB4 := Hid.in_ (bstep HB0.out (bstep HB3.out hb4))
  clear hb4
  generalize featS k s v = x
  go_wp2
  go_ret
  exact ⟨rfl, HB4.out⟩

set_option maxRecDepth 100000 in
theorem FnExactFeatureText_contract (H : Type) (enc : TypeId × Value → H) (W : World) (base : Nat) (args : Array Value) (ds gs : List (DataW H)) (before : List MemPlace)
    (hval : ∀ (j : Nat) t v, Tryd.f3.params[j]? = some t → args[j]? = some v → Value.okWide Tryd.prog W .any base t v)
    (hW : DataW.Whole enc Tryd.prog Tryd.f3.params.toList Rows.fnExactFeatureTextSpec.vars false W args.toList ds gs before) (hL : laidMetH Tryd.prog Rows.fnExactFeatureTextRow.laid W) :
    Calls Tryd.prog 3 args W fun e W' => ∃ v, e = .returned v ∧ Rows.fnExactFeatureTextSpec.post enc Tryd.prog Tryd.f3 false true false false W args v W' := by
  have hW' := hW
  obtain ⟨p, q, hA0, hV, hbe, hfz, hnd⟩ := hW
  have hA : DataW.TrodAll enc Tryd.prog W 0 (fun _ => true) true Tryd.f3.params.toList args.toList ds p := hA0
  rw [Tryd.params3] at hA hval
  obtain ⟨v0, vs0, d0, ds0, p0, q0, hargs, rfl, rfl, h0, r0⟩ := trodAll_cons hA
  obtain ⟨rfl, rfl, rfl⟩ := trodAll_nil r0
  obtain rfl : args = #[v0] := by cases args; simp_all
  obtain ⟨gl, hgl⟩ : ∃ l : List (DataW H), l = gs := ⟨_, rfl⟩
  obtain ⟨g0, hgs⟩ : ∃ g0, gs = [g0] := vars_1 hV
  subst hgs
  obtain ⟨a0, rfl, w0⟩ := byval_FeatR (hval 0 23 v0 rfl rfl) h0
  clear hA0
  have hF : FeatT W := strs_laid (Rows.fnExactFeatureTextRow.laid[3]) (g := 0) (by kernel_rfl) (by kernel_rfl) Tryd.underlying57 Tryd.underlying9 (by kernel_rfl) (by kernel_rfl) rfl (List.mem_filter.2 ⟨List.getElem_mem _, by kernel_rfl⟩) hL (by decide)
  have hP : PowT W := tab_name (by kernel_rfl) (tab_laid (Rows.fnExactFeatureTextRow.laid[2]) (k := .u64) (zs := Lib.pow10Tab) (g := 3) (by kernel_rfl) (by kernel_rfl) Tryd.underlying125 Tryd.underlying87 (by kernel_rfl) (by kernel_rfl) (by kernel_rfl) (List.mem_filter.2 ⟨List.getElem_mem _, by kernel_rfl⟩) hL)
  refine (FnExactFeatureText_walk a0 w0 W hF hP).mono fun e W' ⟨he, hb⟩ => ?_
  subst he
  exact ⟨_, rfl, law_post_vars Tryd.laidOut (by kernel_rfl) (by kernel_rfl) rfl Tryd.underlying4 rfl hW' hb⟩

theorem FnExactFeatureText_laid (os : Os) : laidMet Tryd.prog Rows.fnExactFeatureTextRow.laid ((laidWorld Tryd.prog os Rows.fnExactFeatureTextRow.laid).forCall (fun _ _ => 0) ⟨#[], #[.agg #[.int .i64 0, .int .i64 0, .int .i64 0]], []⟩).memory := laidMet_of_run' 8 (by kernel_rfl) (by kernel_rfl)
theorem FnExactFeatureText_reads (os : Os) {H : Type} (enc : TypeId × Value → H) : (DataW.whole enc Tryd.prog ((laidWorld Tryd.prog os Rows.fnExactFeatureTextRow.laid).forCall (fun _ _ => 0) ⟨#[], #[.agg #[.int .i64 0, .int .i64 0, .int .i64 0]], []⟩).memory Tryd.f3.params.toList Rows.fnExactFeatureTextSpec.vars false #[.agg #[.int .i64 0, .int .i64 0, .int .i64 0]].toList 8).isSome = true := by kernel_rfl
set_option maxRecDepth 100000 in
theorem FnExactFeatureText_lifted (os : Os) (started : os.Started) (H : Type) (enc : TypeId × Value → H) (F : Stop.Interp) :
    ReturnsInHanded {} Tryd.checked os 3 .any ((OpenSpec.ofChange Rows.fnExactFeatureTextSpec).preRow enc Tryd.prog Tryd.f3 Rows.fnExactFeatureTextRow.domain false Rows.fnExactFeatureTextRow.laid) (((OpenSpec.ofChange Rows.fnExactFeatureTextSpec).at F).post enc Tryd.prog Tryd.f3 false true false false) := by
  have hx := (Option.some_get (FnExactFeatureText_reads os enc)).symm
  refine returnsInHanded_of_row (C := Tryd.checked) (s := OpenSpec.ofChange Rows.fnExactFeatureTextSpec) Tryd.own started (by kernel_rfl) Tryd.func3
    (witness_row_at (enc := enc) (C := Tryd.checked) false (laidWorld Tryd.prog os Rows.fnExactFeatureTextRow.laid) #[.agg #[.int .i64 0, .int .i64 0, .int .i64 0]] (laidWorld_os _ _ _) (by kernel_rfl) (by kernel_rfl) (by kernel_rfl)
      (OpenSpec.preRow_of_cond 8 hx rfl (fun k hk => by cases hk) (by kernel_rfl) (FnExactFeatureText_laid os))) ?_
  intro W base args ds gs before hval hW _ _ _ hL _ _
  exact FnExactFeatureText_contract H enc W base args ds gs before hval hW hL

theorem FnExactFeatureText_said : Rows.FnExactFeatureTextSaid :=
  OpenClaim.holds_of_cond 3 Tryd.f3 rfl rfl rfl rfl rfl rfl rfl ⟨rfl, rfl, rfl, rfl, rfl⟩ rfl rfl rfl rfl rfl (by kernel_rfl) Tryd.func3 (by kernel_rfl)
    (of_decide_eq_true (by kernel_rfl)) (by unfold Func.isWrapper; first | (rw [if_pos (by decide +kernel)]; kernel_rfl) | (rw [if_neg (by decide +kernel)]; exact ⟨rfl, rfl⟩))
    (fun os started H enc _ F => by rw [OpenClaim.pre_eq_preRow]; exact FnExactFeatureText_lifted os started H enc F)
theorem FnExactFeatureText_plain (f : FuncId) (fn : Func) (hf : Tryd.pinned.checked.prog.funcNamed Rows.fnExactFeatureTextRow.func = some f) (hfn : Tryd.pinned.checked.prog.funcs[f]? = some fn) :
    false = Tryd.pinned.checked.prog.looks [] ∧ ∀ (j : Nat) t, fn.params[j]? = some t → Tryd.pinned.checked.prog.wantsStandIn t = false := by
  obtain rfl : f = 3 := Option.some.inj ((show Tryd.prog.funcNamed Rows.fnExactFeatureTextRow.func = some 3 by kernel_rfl).symm.trans hf) |>.symm
  obtain rfl : fn = Tryd.f3 := (Option.some.inj (Tryd.func3.symm.trans hfn)).symm
  exact ⟨by kernel_rfl, fun j t ht => noStandIn (P := Tryd.prog) (fn := Tryd.f3) (by kernel_rfl) j t ht⟩
theorem FnExactFeatureText_proved : Rows.FnExactFeatureTextCardSaid :=
  Claim7.holds_tied_plain_at .later [] _ _ _ _ FnExactFeatureText_said (fun _ h => by cases h) (by kernel_rfl) (fun _ h => by cases h) fnExactFeatureText_row_tie rfl ⟨rfl, rfl⟩ (by kernel_rfl) rfl FnExactFeatureText_plain (by kernel_rfl)
#print axioms FnExactFeatureText_proved
end Go.Proofs.YtklaakhdpfgffaaDoor
