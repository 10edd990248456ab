/- 'FnExactSliceCells': for every input the law returns true, and each argument reads behind the call as it read before. No condition. -/
import Derived.Test.YtfmlobfgkinngaaDoorDoor
import Derived.Test.YtfmlobfgkinngaaDoorSlice
import Derived.Test.YtfmlobfgkinngaaDoorCards
import Derived.Test.YtfmlobfgkinngaaDoorTie
namespace Go.Proofs.YtfmlobfgkinngaaDoor
open Go.ChangeShapes Go.WideShapes Go.ChangeAt Go.RowKit
open Go.ChangeMaps (open_string shut_string)
set_option linter.unusedVariables false
set_option maxHeartbeats 1000000 in
theorem FnExactSliceCells_walk (a0 : ByteArray) (w0 : a0.size ≤ maxLen) (a1 : Int) (w1 : (Lit.int .i64 a1).wf = true) (a2 : Int) (w2 : (Lit.int .i64 a2).wf = true) (w : World) :
    Calls Tryd.prog 10 #[.string a0, .int .i64 a1, .int .i64 a2] w fun e w' => e = .returned (.bool true) ∧ Below w.heap.size w w' := by
  unfold maxLen at w0
  by_cases h0 : (1048576 : Int) < a0.size
  · go_enter Tryd.func10, Tryd.ntmps10
    go_wp2
    go_ret
    exact ⟨rfl, Below.refl _ _⟩
  have HS := Hid.in_ (show a0.size ≤ 1048576 by omega)
  go_enter Tryd.func10, Tryd.ntmps10
  go_wp2_with fail
  refine (spec_SliceCells _ _ _ _ HS.out).mono ?_
  rintro e w1 ⟨rfl, hb1⟩
  go_wp2_with fail
  refine (impl_SliceCells _ _ _ _ HS.out).mono ?_
  rintro e w2 ⟨rfl, hb2⟩
  have HB := Hid.in_ (bstep hb1 hb2)
  generalize sliceV a0 a1 a2 = x
  generalize sliceOk a0 a1 a2 = y
  cases y
  all_goals
    go_wp2
    go_ret
    exact ⟨rfl, HB.out⟩

set_option maxRecDepth 100000 in
theorem FnExactSliceCells_contract (H : Type) (enc : TypeId × Value → H) (W : World) (base : Nat) (args : Array Value) (ds gs : List (DataW H)) (before : List MemPlace)
    (hval : ∀ (j : Nat) t v, Tryd.f10.params[j]? = some t → args[j]? = some v → Value.okWide Tryd.prog W .any base t v)
    (hW : DataW.Whole enc Tryd.prog Tryd.f10.params.toList Rows.fnExactSliceCellsSpec.vars false W args.toList ds gs before) (hL : laidMetH Tryd.prog Rows.fnExactSliceCellsRow.laid W) :
    Calls Tryd.prog 10 args W fun e W' => ∃ v, e = .returned v ∧ Rows.fnExactSliceCellsSpec.post enc Tryd.prog Tryd.f10 false true false false W args v W' := by
  have hW' := hW
  obtain ⟨p, q, hA0, hV, hbe, hfz, hnd⟩ := hW
  have hA : DataW.TrodAll enc Tryd.prog W 0 (fun _ => true) true Tryd.f10.params.toList args.toList ds p := hA0
  rw [Tryd.params10] at hA hval
  obtain ⟨v0, vs0, d0, ds0, p0, q0, hargs, rfl, rfl, h0, r0⟩ := trodAll_cons hA
  obtain ⟨v1, vs1, d1, ds1, p1, q1, rfl, rfl, rfl, h1, r1⟩ := trodAll_cons r0
  obtain ⟨v2, vs2, d2, ds2, p2, q2, rfl, rfl, rfl, h2, r2⟩ := trodAll_cons r1
  obtain ⟨rfl, rfl, rfl⟩ := trodAll_nil r2
  obtain rfl : args = #[v0, v1, v2] := by cases args; simp_all
  obtain ⟨rfl, _⟩ := trodVars_none hV
  obtain ⟨a0, rfl, rfl, rfl, w0⟩ := open_string Tryd.underlying9 (hval 0 9 v0 rfl rfl) h0
  obtain ⟨a1, rfl, rfl, rfl, w1⟩ := open_int Tryd.underlying2 (hval 1 2 v1 rfl rfl) h1
  obtain ⟨a2, rfl, rfl, rfl, w2⟩ := open_int Tryd.underlying2 (hval 2 2 v2 rfl rfl) h2
  clear hA0
  refine (FnExactSliceCells_walk a0 w0 a1 w1 a2 w2 W).mono fun e W' ⟨he, hb⟩ => ?_
  subst he
  exact ⟨_, rfl, law_post Tryd.laidOut (by kernel_rfl) rfl Tryd.underlying4 rfl rfl hW' hb⟩

theorem FnExactSliceCells_laid (os : Os) : laidMet Tryd.prog Rows.fnExactSliceCellsRow.laid ((laidWorld Tryd.prog os Rows.fnExactSliceCellsRow.laid).forCall (fun _ _ => 0) ⟨#[], #[.string ByteArray.empty, .int .i64 0, .int .i64 0], []⟩).memory := laidMet_of_run' 8 (by kernel_rfl) (by kernel_rfl)
theorem FnExactSliceCells_reads (os : Os) {H : Type} (enc : TypeId × Value → H) : (DataW.whole enc Tryd.prog ((laidWorld Tryd.prog os Rows.fnExactSliceCellsRow.laid).forCall (fun _ _ => 0) ⟨#[], #[.string ByteArray.empty, .int .i64 0, .int .i64 0], []⟩).memory Tryd.f10.params.toList Rows.fnExactSliceCellsSpec.vars false #[.string ByteArray.empty, .int .i64 0, .int .i64 0].toList 8).isSome = true := by kernel_rfl
set_option maxRecDepth 100000 in
theorem FnExactSliceCells_lifted (os : Os) (started : os.Started) (H : Type) (enc : TypeId × Value → H) (F : Stop.Interp) :
    ReturnsInHanded {} Tryd.checked os 10 .any ((OpenSpec.ofChange Rows.fnExactSliceCellsSpec).preRow enc Tryd.prog Tryd.f10 Rows.fnExactSliceCellsRow.domain false Rows.fnExactSliceCellsRow.laid) (((OpenSpec.ofChange Rows.fnExactSliceCellsSpec).at F).post enc Tryd.prog Tryd.f10 false true false false) := by
  have hx := (Option.some_get (FnExactSliceCells_reads os enc)).symm
  refine returnsInHanded_of_row (C := Tryd.checked) (s := OpenSpec.ofChange Rows.fnExactSliceCellsSpec) Tryd.own started (by kernel_rfl) Tryd.func10
    (witness_row_at (enc := enc) (C := Tryd.checked) false (laidWorld Tryd.prog os Rows.fnExactSliceCellsRow.laid) #[.string ByteArray.empty, .int .i64 0, .int .i64 0] (laidWorld_os _ _ _) (by kernel_rfl) (by kernel_rfl) (by kernel_rfl)
      (OpenSpec.preRow_of_cond 8 hx rfl (fun k hk => by cases hk) (by kernel_rfl) (FnExactSliceCells_laid os))) ?_
  intro W base args ds gs before hval hW _ _ _ hL _ _
  exact FnExactSliceCells_contract H enc W base args ds gs before hval hW hL

theorem FnExactSliceCells_said : Rows.FnExactSliceCellsSaid :=
  OpenClaim.holds_of_cond 10 Tryd.f10 rfl rfl rfl rfl rfl rfl rfl ⟨rfl, rfl, rfl, rfl, rfl⟩ rfl rfl rfl rfl rfl (by kernel_rfl) Tryd.func10 (by kernel_rfl)
    (of_decide_eq_true (by kernel_rfl)) (by unfold Func.isWrapper; first | (rw [if_pos (by decide +kernel)]; kernel_rfl) | (rw [if_neg (by decide +kernel)]; exact ⟨rfl, rfl⟩))
    (fun os started H enc _ F => by rw [OpenClaim.pre_eq_preRow]; exact FnExactSliceCells_lifted os started H enc F)
theorem FnExactSliceCells_plain (f : FuncId) (fn : Func) (hf : Tryd.pinned.checked.prog.funcNamed Rows.fnExactSliceCellsRow.func = some f) (hfn : Tryd.pinned.checked.prog.funcs[f]? = some fn) :
    false = Tryd.pinned.checked.prog.looks [] ∧ ∀ (j : Nat) t, fn.params[j]? = some t → Tryd.pinned.checked.prog.wantsStandIn t = false := by
  obtain rfl : f = 10 := Option.some.inj ((show Tryd.prog.funcNamed Rows.fnExactSliceCellsRow.func = some 10 by kernel_rfl).symm.trans hf) |>.symm
  obtain rfl : fn = Tryd.f10 := (Option.some.inj (Tryd.func10.symm.trans hfn)).symm
  exact ⟨by kernel_rfl, fun j t ht => noStandIn (P := Tryd.prog) (fn := Tryd.f10) (by kernel_rfl) j t ht⟩
theorem FnExactSliceCells_proved : Rows.FnExactSliceCellsCardSaid :=
  Claim7.holds_tied_plain_at .later [] _ _ _ _ FnExactSliceCells_said (fun _ h => by cases h) (by kernel_rfl) (fun _ h => by cases h) fnExactSliceCells_row_tie rfl ⟨rfl, rfl⟩ (by kernel_rfl) rfl FnExactSliceCells_plain (by kernel_rfl)
#print axioms FnExactSliceCells_proved
end Go.Proofs.YtfmlobfgkinngaaDoor
