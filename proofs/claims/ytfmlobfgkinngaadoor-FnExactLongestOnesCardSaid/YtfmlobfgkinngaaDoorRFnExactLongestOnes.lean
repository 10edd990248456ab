/- 'FnExactLongestOnes': for every input the law returns true, and each argument reads behind the call as it read before. No condition. -/
import Derived.Test.YtfmlobfgkinngaaDoorDoor
import Derived.Test.YtfmlobfgkinngaaDoorOnes
import Derived.Test.YtfmlobfgkinngaaDoorCards
import Derived.Test.YtfmlobfgkinngaaDoorTie
namespace Go.Proofs.YtfmlobfgkinngaaDoor
open Go.ChangeShapes Go.WideShapes Go.ChangeAt Go.RowKit
open Go.ChangeMaps (open_string shut_string)
set_option linter.unusedVariables false
set_option maxHeartbeats 1000000 in
theorem FnExactLongestOnes_walk (a0 : ByteArray) (w0 : a0.size ≤ maxLen) (w : World) :
    Calls Tryd.prog 6 #[.string a0] w fun e w' => e = .returned (.bool true) ∧ Below w.heap.size w w' := by
  unfold maxLen at w0
  by_cases h0 : (1048576 : Int) < a0.size
  · go_enter Tryd.func6, Tryd.ntmps6
    go_wp2
    go_ret
    exact ⟨rfl, Below.refl _ _⟩
  have HS := Hid.in_ (show a0.size ≤ 1048576 by omega)
  go_enter Tryd.func6, Tryd.ntmps6
  go_wp2_with fail
  refine (spec_LongestOnes _ _ HS.out).mono ?_
  rintro e w1 ⟨rfl, hb1⟩
  go_wp2_with fail
  refine (impl_LongestOnes _ _ HS.out).mono ?_
  rintro e w2 ⟨rfl, hb2⟩
  have HB := Hid.in_ (bstep hb1 hb2)
  generalize longest a0 = x
  go_wp2
  go_ret
  exact ⟨rfl, HB.out⟩

set_option maxRecDepth 100000 in
theorem FnExactLongestOnes_contract (H : Type) (enc : TypeId × Value → H) (W : World) (base : Nat) (args : Array Value) (ds gs : List (DataW H)) (before : List MemPlace)
    (hval : ∀ (j : Nat) t v, Tryd.f6.params[j]? = some t → args[j]? = some v → Value.okWide Tryd.prog W .any base t v)
    (hW : DataW.Whole enc Tryd.prog Tryd.f6.params.toList Rows.fnExactLongestOnesSpec.vars false W args.toList ds gs before) (hL : laidMetH Tryd.prog Rows.fnExactLongestOnesRow.laid W) :
    Calls Tryd.prog 6 args W fun e W' => ∃ v, e = .returned v ∧ Rows.fnExactLongestOnesSpec.post enc Tryd.prog Tryd.f6 false true false false W args v W' := by
  have hW' := hW
  obtain ⟨p, q, hA0, hV, hbe, hfz, hnd⟩ := hW
  have hA : DataW.TrodAll enc Tryd.prog W 0 (fun _ => true) true Tryd.f6.params.toList args.toList ds p := hA0
  rw [Tryd.params6] at hA hval
  obtain ⟨v0, vs0, d0, ds0, p0, q0, hargs, rfl, rfl, h0, r0⟩ := trodAll_cons hA
  obtain ⟨rfl, rfl, rfl⟩ := trodAll_nil r0
  obtain rfl : args = #[v0] := by cases args; simp_all
  obtain ⟨rfl, _⟩ := trodVars_none hV
  obtain ⟨a0, rfl, rfl, rfl, w0⟩ := open_string Tryd.underlying9 (hval 0 9 v0 rfl rfl) h0
  clear hA0
  refine (FnExactLongestOnes_walk a0 w0 W).mono fun e W' ⟨he, hb⟩ => ?_
  subst he
  exact ⟨_, rfl, law_post Tryd.laidOut (by kernel_rfl) rfl Tryd.underlying4 rfl rfl hW' hb⟩

theorem FnExactLongestOnes_laid (os : Os) : laidMet Tryd.prog Rows.fnExactLongestOnesRow.laid ((laidWorld Tryd.prog os Rows.fnExactLongestOnesRow.laid).forCall (fun _ _ => 0) ⟨#[], #[.string ByteArray.empty], []⟩).memory := laidMet_of_run' 8 (by kernel_rfl) (by kernel_rfl)
theorem FnExactLongestOnes_reads (os : Os) {H : Type} (enc : TypeId × Value → H) : (DataW.whole enc Tryd.prog ((laidWorld Tryd.prog os Rows.fnExactLongestOnesRow.laid).forCall (fun _ _ => 0) ⟨#[], #[.string ByteArray.empty], []⟩).memory Tryd.f6.params.toList Rows.fnExactLongestOnesSpec.vars false #[.string ByteArray.empty].toList 8).isSome = true := by kernel_rfl
set_option maxRecDepth 100000 in
theorem FnExactLongestOnes_lifted (os : Os) (started : os.Started) (H : Type) (enc : TypeId × Value → H) (F : Stop.Interp) :
    ReturnsInHanded {} Tryd.checked os 6 .any ((OpenSpec.ofChange Rows.fnExactLongestOnesSpec).preRow enc Tryd.prog Tryd.f6 Rows.fnExactLongestOnesRow.domain false Rows.fnExactLongestOnesRow.laid) (((OpenSpec.ofChange Rows.fnExactLongestOnesSpec).at F).post enc Tryd.prog Tryd.f6 false true false false) := by
  have hx := (Option.some_get (FnExactLongestOnes_reads os enc)).symm
  refine returnsInHanded_of_row (C := Tryd.checked) (s := OpenSpec.ofChange Rows.fnExactLongestOnesSpec) Tryd.own started (by kernel_rfl) Tryd.func6
    (witness_row_at (enc := enc) (C := Tryd.checked) false (laidWorld Tryd.prog os Rows.fnExactLongestOnesRow.laid) #[.string ByteArray.empty] (laidWorld_os _ _ _) (by kernel_rfl) (by kernel_rfl) (by kernel_rfl)
      (OpenSpec.preRow_of_cond 8 hx rfl (fun k hk => by cases hk) (by kernel_rfl) (FnExactLongestOnes_laid os))) ?_
  intro W base args ds gs before hval hW _ _ _ hL _ _
  exact FnExactLongestOnes_contract H enc W base args ds gs before hval hW hL

theorem FnExactLongestOnes_said : Rows.FnExactLongestOnesSaid :=
  OpenClaim.holds_of_cond 6 Tryd.f6 rfl rfl rfl rfl rfl rfl rfl ⟨rfl, rfl, rfl, rfl, rfl⟩ rfl rfl rfl rfl rfl (by kernel_rfl) Tryd.func6 (by kernel_rfl)
    (of_decide_eq_true (by kernel_rfl)) (by unfold Func.isWrapper; first | (rw [if_pos (by decide +kernel)]; kernel_rfl) | (rw [if_neg (by decide +kernel)]; exact ⟨rfl, rfl⟩))
    (fun os started H enc _ F => by rw [OpenClaim.pre_eq_preRow]; exact FnExactLongestOnes_lifted os started H enc F)
theorem FnExactLongestOnes_plain (f : FuncId) (fn : Func) (hf : Tryd.pinned.checked.prog.funcNamed Rows.fnExactLongestOnesRow.func = some f) (hfn : Tryd.pinned.checked.prog.funcs[f]? = some fn) :
    false = Tryd.pinned.checked.prog.looks [] ∧ ∀ (j : Nat) t, fn.params[j]? = some t → Tryd.pinned.checked.prog.wantsStandIn t = false := by
  obtain rfl : f = 6 := Option.some.inj ((show Tryd.prog.funcNamed Rows.fnExactLongestOnesRow.func = some 6 by kernel_rfl).symm.trans hf) |>.symm
  obtain rfl : fn = Tryd.f6 := (Option.some.inj (Tryd.func6.symm.trans hfn)).symm
  exact ⟨by kernel_rfl, fun j t ht => noStandIn (P := Tryd.prog) (fn := Tryd.f6) (by kernel_rfl) j t ht⟩
theorem FnExactLongestOnes_proved : Rows.FnExactLongestOnesCardSaid :=
  Claim7.holds_tied_plain_at .later [] _ _ _ _ FnExactLongestOnes_said (fun _ h => by cases h) (by kernel_rfl) (fun _ h => by cases h) fnExactLongestOnes_row_tie rfl ⟨rfl, rfl⟩ (by kernel_rfl) rfl FnExactLongestOnes_plain (by kernel_rfl)
#print axioms FnExactLongestOnes_proved
end Go.Proofs.YtfmlobfgkinngaaDoor
