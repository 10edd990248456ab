/- 'FnExactSyncRuns': for every input the law returns true, and each argument reads behind the call as it read before. No condition. -/
import Derived.Test.YtfmlobfgkinngabDoorDoor
import Derived.Test.YtfmlobfgkinngabDoorSync
import Derived.Test.YtfmlobfgkinngabDoorCards
import Derived.Test.YtfmlobfgkinngabDoorTie
namespace Go.Proofs.YtfmlobfgkinngabDoor
open Go.ChangeShapes Go.WideShapes Go.ChangeAt Go.RowKit
open Go.ChangeMaps (open_string shut_string)
set_option linter.unusedVariables false
set_option maxHeartbeats 1000000 in
theorem FnExactSyncRuns_walk (a0 : ByteArray) (w0 : a0.size ≤ maxLen) (w : World) :
    Calls Tryd.prog 3 #[.string a0] w fun e w' => e = .returned (.bool true) ∧ Below w.heap.size w w' := by
  unfold maxLen at w0
  by_cases h0 : (1048576 : Int) < a0.size
  · go_enter Tryd.func3, Tryd.ntmps3
    go_wp2
    go_ret
    exact ⟨rfl, Below.refl _ _⟩
  have HS := Hid.in_ (show a0.size ≤ 1048576 by omega)
  have hle : (syncV a0).length ≤ 1048576 := by
    have := syncV_len a0
    omega
  have hne : ¬ ((1 : Int) + 2 * ((syncV a0).length : Int) < 0) := by omega
  go_enter Tryd.func3, Tryd.ntmps3
  go_wp2_with fail
  refine (spec_SyncRuns _ _ HS.out).mono ?_
  rintro e w1 ⟨v1, rfl, ho1, hb1⟩
  go_wp2_with fail
  refine (impl_SyncRuns _ _ HS.out).mono ?_
  rintro e w2 ⟨v2, rfl, ho2, hb2⟩
  have hB2 := bstep hb1 hb2
  go_wp2_with fail
  refine (laws_eqCellRunS _ ho2 (ostep hb2 ho1)).mono ?_
  rintro e w3 ⟨rfl, hb3⟩
  have hB3 := bstep hB2 hb3
  go_wp2_with fail
  refine (laws_markCellRunS 1 _ (ostep hb3 ho2) (by omega) (by omega) (by omega)).mono ?_
  rintro e w4 ⟨rfl, ho4, hg4⟩
  have hB4 := bgrown hB3 (ostep hb3 ho2) hb1.size hg4
  have hk1 := (ostep hb3 (ostep hb2 ho1)).kept hg4 (own_apart ho1 ho2 (Nat.le_refl _))
  go_wp2_with fail
  refine (laws_heldCellRunS 1 _ ho4 (by omega) (by omega) (by omega)).mono ?_
  rintro e w5 ⟨rfl, rfl⟩
  go_wp2_with fail
  refine (impl_SyncRuns _ _ HS.out).mono ?_
  rintro e w6 ⟨v6, rfl, ho6, hb6⟩
  have hB6 := bstep hB4 hb6
  go_wp2_with fail
  refine (laws_eqCellRunS _ ho6 (ostep hb6 hk1)).mono ?_
  rintro e w7 ⟨rfl, hb7⟩
  have hB7 := bstep hB6 hb7
  go_wp2_with fail
  refine (laws_heldCellRunS 1 _ (ostep hb7 (ostep hb6 ho4)) (by omega) (by omega) (by omega)).mono ?_
  rintro e w8 ⟨rfl, rfl⟩
  go_wp2
  go_ret
  exact ⟨rfl, hB7⟩

set_option maxRecDepth 100000 in
theorem FnExactSyncRuns_contract (H : Type) (enc : TypeId × Value → H) (W : World) (base : Nat) (args : Array Value) (ds gs : List (DataW H)) (before : List MemPlace)
    (hval : ∀ (j : Nat) t v, Tryd.f3.params[j]? = some t → args[j]? = some v → Value.okWide Tryd.prog W .any base t v)
    (hW : DataW.Whole enc Tryd.prog Tryd.f3.params.toList Rows.fnExactSyncRunsSpec.vars false W args.toList ds gs before) (hL : laidMetH Tryd.prog Rows.fnExactSyncRunsRow.laid W) :
    Calls Tryd.prog 3 args W fun e W' => ∃ v, e = .returned v ∧ Rows.fnExactSyncRunsSpec.post enc Tryd.prog Tryd.f3 false true false false W args v W' := by
  have hW' := hW
  obtain ⟨p, q, hA0, hV, hbe, hfz, hnd⟩ := hW
  have hA : DataW.TrodAll enc Tryd.prog W 0 (fun _ => true) true Tryd.f3.params.toList args.toList ds p := hA0
  rw [Tryd.params3] at hA hval
  obtain ⟨v0, vs0, d0, ds0, p0, q0, hargs, rfl, rfl, h0, r0⟩ := trodAll_cons hA
  obtain ⟨rfl, rfl, rfl⟩ := trodAll_nil r0
  obtain rfl : args = #[v0] := by cases args; simp_all
  obtain ⟨rfl, _⟩ := trodVars_none hV
  obtain ⟨a0, rfl, rfl, rfl, w0⟩ := open_string Tryd.underlying9 (hval 0 9 v0 rfl rfl) h0
  clear hA0
  refine (FnExactSyncRuns_walk a0 w0 W).mono fun e W' ⟨he, hb⟩ => ?_
  subst he
  exact ⟨_, rfl, law_post Tryd.laidOut (by kernel_rfl) rfl Tryd.underlying4 rfl rfl hW' hb⟩

theorem FnExactSyncRuns_laid (os : Os) : laidMet Tryd.prog Rows.fnExactSyncRunsRow.laid ((laidWorld Tryd.prog os Rows.fnExactSyncRunsRow.laid).forCall (fun _ _ => 0) ⟨#[], #[.string ByteArray.empty], []⟩).memory := laidMet_of_run' 8 (by kernel_rfl) (by kernel_rfl)
theorem FnExactSyncRuns_reads (os : Os) {H : Type} (enc : TypeId × Value → H) : (DataW.whole enc Tryd.prog ((laidWorld Tryd.prog os Rows.fnExactSyncRunsRow.laid).forCall (fun _ _ => 0) ⟨#[], #[.string ByteArray.empty], []⟩).memory Tryd.f3.params.toList Rows.fnExactSyncRunsSpec.vars false #[.string ByteArray.empty].toList 8).isSome = true := by kernel_rfl
set_option maxRecDepth 100000 in
theorem FnExactSyncRuns_lifted (os : Os) (started : os.Started) (H : Type) (enc : TypeId × Value → H) (F : Stop.Interp) :
    ReturnsInHanded {} Tryd.checked os 3 .any ((OpenSpec.ofChange Rows.fnExactSyncRunsSpec).preRow enc Tryd.prog Tryd.f3 Rows.fnExactSyncRunsRow.domain false Rows.fnExactSyncRunsRow.laid) (((OpenSpec.ofChange Rows.fnExactSyncRunsSpec).at F).post enc Tryd.prog Tryd.f3 false true false false) := by
  have hx := (Option.some_get (FnExactSyncRuns_reads os enc)).symm
  refine returnsInHanded_of_row (C := Tryd.checked) (s := OpenSpec.ofChange Rows.fnExactSyncRunsSpec) Tryd.own started (by kernel_rfl) Tryd.func3
    (witness_row_at (enc := enc) (C := Tryd.checked) false (laidWorld Tryd.prog os Rows.fnExactSyncRunsRow.laid) #[.string ByteArray.empty] (laidWorld_os _ _ _) (by kernel_rfl) (by kernel_rfl) (by kernel_rfl)
      (OpenSpec.preRow_of_cond 8 hx rfl (fun k hk => by cases hk) (by kernel_rfl) (FnExactSyncRuns_laid os))) ?_
  intro W base args ds gs before hval hW _ _ _ hL _ _
  exact FnExactSyncRuns_contract H enc W base args ds gs before hval hW hL

theorem FnExactSyncRuns_said : Rows.FnExactSyncRunsSaid :=
  OpenClaim.holds_of_cond 3 Tryd.f3 rfl rfl rfl rfl rfl rfl rfl ⟨rfl, rfl, rfl, rfl, rfl⟩ rfl rfl rfl rfl rfl (by kernel_rfl) Tryd.func3 (by kernel_rfl)
    (of_decide_eq_true (by kernel_rfl)) (by unfold Func.isWrapper; first | (rw [if_pos (by decide +kernel)]; kernel_rfl) | (rw [if_neg (by decide +kernel)]; exact ⟨rfl, rfl⟩))
    (fun os started H enc _ F => by rw [OpenClaim.pre_eq_preRow]; exact FnExactSyncRuns_lifted os started H enc F)
theorem FnExactSyncRuns_plain (f : FuncId) (fn : Func) (hf : Tryd.pinned.checked.prog.funcNamed Rows.fnExactSyncRunsRow.func = some f) (hfn : Tryd.pinned.checked.prog.funcs[f]? = some fn) :
    false = Tryd.pinned.checked.prog.looks [] ∧ ∀ (j : Nat) t, fn.params[j]? = some t → Tryd.pinned.checked.prog.wantsStandIn t = false := by
  obtain rfl : f = 3 := Option.some.inj ((show Tryd.prog.funcNamed Rows.fnExactSyncRunsRow.func = some 3 by kernel_rfl).symm.trans hf) |>.symm
  obtain rfl : fn = Tryd.f3 := (Option.some.inj (Tryd.func3.symm.trans hfn)).symm
  exact ⟨by kernel_rfl, fun j t ht => noStandIn (P := Tryd.prog) (fn := Tryd.f3) (by kernel_rfl) j t ht⟩
theorem FnExactSyncRuns_proved : Rows.FnExactSyncRunsCardSaid :=
  Claim7.holds_tied_plain_at .later [] _ _ _ _ FnExactSyncRuns_said (fun _ h => by cases h) (by kernel_rfl) (fun _ h => by cases h) fnExactSyncRuns_row_tie rfl ⟨rfl, rfl⟩ (by kernel_rfl) rfl FnExactSyncRuns_plain (by kernel_rfl)
#print axioms FnExactSyncRuns_proved
end Go.Proofs.YtfmlobfgkinngabDoor
