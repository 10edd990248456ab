/- 'FnExactGcrDistance': for every input the law returns true, and each argument reads behind the call as it read before. No condition. -/
import Derived.Test.YtkbkinnecmfclaaDoorDoor
import Derived.Test.YtkbkinnecmfclaaDoorDist
import Derived.Test.YtkbkinnecmfclaaDoorCards
import Derived.Test.YtkbkinnecmfclaaDoorTie
namespace Go.Proofs.YtkbkinnecmfclaaDoor
open Go.ChangeShapes Go.WideShapes Go.ChangeAt Go.RowKit
open Go.ChangeMaps (open_string shut_string)
set_option linter.unusedVariables false
set_option maxHeartbeats 1000000 in
theorem FnExactGcrDistance_walk (a0 : ByteArray) (w0 : a0.size ≤ maxLen) (a1 : ByteArray) (w1 : a1.size ≤ maxLen) (w : World) :
    Calls Tryd.prog 5 #[.string a0, .string a1] w fun e w' => e = .returned (.bool true) ∧ Below w.heap.size w w' := by
  unfold maxLen at w0 w1
  by_cases h0 : (1048576 : Int) < a0.size
  · go_enter Tryd.func5, Tryd.ntmps5
    go_wp2
    go_ret
    exact ⟨rfl, Below.refl _ _⟩
  by_cases h1 : (1048576 : Int) < a1.size
  · go_enter Tryd.func5, Tryd.ntmps5
    go_wp2
    go_ret
    exact ⟨rfl, Below.refl _ _⟩
  have HS := Hid.in_ (show a0.size ≤ 1048576 by omega)
  have HT := Hid.in_ (show a1.size ≤ 1048576 by omega)
  go_enter Tryd.func5, Tryd.ntmps5
  go_wp2_with fail
  refine (spec_GcrDistance _ _ _ HS.out HT.out).mono ?_
  rintro e w1 ⟨rfl, hb1⟩
  go_wp2_with fail
  refine (impl_GcrDistance _ _ _ HS.out HT.out).mono ?_
  rintro e w2 ⟨rfl, hb2⟩
  have HB := Hid.in_ (bstep hb1 hb2)
  go_wp2
  go_ret
  exact ⟨rfl, HB.out⟩

set_option maxRecDepth 100000 in
theorem FnExactGcrDistance_contract (H : Type) (enc : TypeId × Value → H) (W : World) (base : Nat) (args : Array Value) (ds gs : List (DataW H)) (before : List MemPlace)
    (hval : ∀ (j : Nat) t v, Tryd.f5.params[j]? = some t → args[j]? = some v → Value.okWide Tryd.prog W .any base t v)
    (hW : DataW.Whole enc Tryd.prog Tryd.f5.params.toList Rows.fnExactGcrDistanceSpec.vars false W args.toList ds gs before) (hL : laidMetH Tryd.prog Rows.fnExactGcrDistanceRow.laid W) :
    Calls Tryd.prog 5 args W fun e W' => ∃ v, e = .returned v ∧ Rows.fnExactGcrDistanceSpec.post enc Tryd.prog Tryd.f5 false true false false W args v W' := by
  have hW' := hW
  obtain ⟨p, q, hA0, hV, hbe, hfz, hnd⟩ := hW
  have hA : DataW.TrodAll enc Tryd.prog W 0 (fun _ => true) true Tryd.f5.params.toList args.toList ds p := hA0
  rw [Tryd.params5] at hA hval
  obtain ⟨v0, vs0, d0, ds0, p0, q0, hargs, rfl, rfl, h0, r0⟩ := trodAll_cons hA
  obtain ⟨v1, vs1, d1, ds1, p1, q1, rfl, rfl, rfl, h1, r1⟩ := trodAll_cons r0
  obtain ⟨rfl, rfl, rfl⟩ := trodAll_nil r1
  obtain rfl : args = #[v0, v1] := by cases args; simp_all
  obtain ⟨rfl, _⟩ := trodVars_none hV
  obtain ⟨a0, rfl, rfl, rfl, w0⟩ := open_string Tryd.underlying9 (hval 0 9 v0 rfl rfl) h0
  obtain ⟨a1, rfl, rfl, rfl, w1⟩ := open_string Tryd.underlying9 (hval 1 9 v1 rfl rfl) h1
  clear hA0
  refine (FnExactGcrDistance_walk a0 w0 a1 w1 W).mono fun e W' ⟨he, hb⟩ => ?_
  subst he
  exact ⟨_, rfl, law_post Tryd.laidOut (by kernel_rfl) rfl Tryd.underlying4 rfl rfl hW' hb⟩

theorem FnExactGcrDistance_laid (os : Os) : laidMet Tryd.prog Rows.fnExactGcrDistanceRow.laid ((laidWorld Tryd.prog os Rows.fnExactGcrDistanceRow.laid).forCall (fun _ _ => 0) ⟨#[], #[.string ByteArray.empty, .string ByteArray.empty], []⟩).memory := laidMet_of_run' 8 (by kernel_rfl) (by kernel_rfl)
theorem FnExactGcrDistance_reads (os : Os) {H : Type} (enc : TypeId × Value → H) : (DataW.whole enc Tryd.prog ((laidWorld Tryd.prog os Rows.fnExactGcrDistanceRow.laid).forCall (fun _ _ => 0) ⟨#[], #[.string ByteArray.empty, .string ByteArray.empty], []⟩).memory Tryd.f5.params.toList Rows.fnExactGcrDistanceSpec.vars false #[.string ByteArray.empty, .string ByteArray.empty].toList 8).isSome = true := by kernel_rfl
set_option maxRecDepth 100000 in
theorem FnExactGcrDistance_lifted (os : Os) (started : os.Started) (H : Type) (enc : TypeId × Value → H) (F : Stop.Interp) :
    ReturnsInHanded {} Tryd.checked os 5 .any ((OpenSpec.ofChange Rows.fnExactGcrDistanceSpec).preRow enc Tryd.prog Tryd.f5 Rows.fnExactGcrDistanceRow.domain false Rows.fnExactGcrDistanceRow.laid) (((OpenSpec.ofChange Rows.fnExactGcrDistanceSpec).at F).post enc Tryd.prog Tryd.f5 false true false false) := by
  have hx := (Option.some_get (FnExactGcrDistance_reads os enc)).symm
  refine returnsInHanded_of_row (C := Tryd.checked) (s := OpenSpec.ofChange Rows.fnExactGcrDistanceSpec) Tryd.own started (by kernel_rfl) Tryd.func5
    (witness_row_at (enc := enc) (C := Tryd.checked) false (laidWorld Tryd.prog os Rows.fnExactGcrDistanceRow.laid) #[.string ByteArray.empty, .string ByteArray.empty] (laidWorld_os _ _ _) (by kernel_rfl) (by kernel_rfl) (by kernel_rfl)
      (OpenSpec.preRow_of_cond 8 hx rfl (fun k hk => by cases hk) (by kernel_rfl) (FnExactGcrDistance_laid os))) ?_
  intro W base args ds gs before hval hW _ _ _ hL _ _
  exact FnExactGcrDistance_contract H enc W base args ds gs before hval hW hL

theorem FnExactGcrDistance_said : Rows.FnExactGcrDistanceSaid :=
  OpenClaim.holds_of_cond 5 Tryd.f5 rfl rfl rfl rfl rfl rfl rfl ⟨rfl, rfl, rfl, rfl, rfl⟩ rfl rfl rfl rfl rfl (by kernel_rfl) Tryd.func5 (by kernel_rfl)
    (of_decide_eq_true (by kernel_rfl)) (by unfold Func.isWrapper; first | (rw [if_pos (by decide +kernel)]; kernel_rfl) | (rw [if_neg (by decide +kernel)]; exact ⟨rfl, rfl⟩))
    (fun os started H enc _ F => by rw [OpenClaim.pre_eq_preRow]; exact FnExactGcrDistance_lifted os started H enc F)
theorem FnExactGcrDistance_plain (f : FuncId) (fn : Func) (hf : Tryd.pinned.checked.prog.funcNamed Rows.fnExactGcrDistanceRow.func = some f) (hfn : Tryd.pinned.checked.prog.funcs[f]? = some fn) :
    false = Tryd.pinned.checked.prog.looks [] ∧ ∀ (j : Nat) t, fn.params[j]? = some t → Tryd.pinned.checked.prog.wantsStandIn t = false := by
  obtain rfl : f = 5 := Option.some.inj ((show Tryd.prog.funcNamed Rows.fnExactGcrDistanceRow.func = some 5 by kernel_rfl).symm.trans hf) |>.symm
  obtain rfl : fn = Tryd.f5 := (Option.some.inj (Tryd.func5.symm.trans hfn)).symm
  exact ⟨by kernel_rfl, fun j t ht => noStandIn (P := Tryd.prog) (fn := Tryd.f5) (by kernel_rfl) j t ht⟩
theorem FnExactGcrDistance_proved : Rows.FnExactGcrDistanceCardSaid :=
  Claim7.holds_tied_plain_at .later [] _ _ _ _ FnExactGcrDistance_said (fun _ h => by cases h) (by kernel_rfl) (fun _ h => by cases h) fnExactGcrDistance_row_tie rfl ⟨rfl, rfl⟩ (by kernel_rfl) rfl FnExactGcrDistance_plain (by kernel_rfl)
#print axioms FnExactGcrDistance_proved
end Go.Proofs.YtkbkinnecmfclaaDoor
