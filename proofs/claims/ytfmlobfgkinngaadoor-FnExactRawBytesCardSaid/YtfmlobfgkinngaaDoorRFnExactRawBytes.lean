/- 'FnExactRawBytes': for every input the law returns true, and each argument reads behind the call as it read before. No condition. -/
import Derived.Test.YtfmlobfgkinngaaDoorDoor
import Derived.Test.YtfmlobfgkinngaaDoorRawB
import Derived.Test.YtfmlobfgkinngaaDoorCards
import Derived.Test.YtfmlobfgkinngaaDoorTie
namespace Go.Proofs.YtfmlobfgkinngaaDoor
open Go.ChangeShapes Go.WideShapes Go.ChangeAt Go.RowKit
open Go.ChangeMaps (open_string shut_string)
set_option linter.unusedVariables false
set_option maxHeartbeats 1000000 in
theorem FnExactRawBytes_walk (a0 : Int) (w0 : (Lit.int .i64 a0).wf = true) (a1 : ByteArray) (w1 : a1.size ≤ maxLen) (w : World) (hT : Tab w) :
    Calls Tryd.prog 4 #[.int .i64 a0, .string a1] w fun e w' => e = .returned (.bool true) ∧ Below w.heap.size w w' := by
  have HT := Hid.in_ hT
  clear hT
  unfold maxLen at w1
  by_cases h0 : (1048576 : Int) < a1.size
  · go_enter Tryd.func4, Tryd.ntmps4
    go_wp2
    go_ret
    exact ⟨rfl, Below.refl _ _⟩
  have HS := Hid.in_ (show a1.size ≤ 1048576 by omega)
  go_enter Tryd.func4, Tryd.ntmps4
  go_wp2_with fail
  refine (spec_RawBytes _ _ _ HS.out).mono ?_
  rintro e w1 ⟨rfl, hb1⟩
  go_wp2_with fail
  refine (impl_RawBytes _ _ _ (Tab.step hb1 HT.out) HS.out).mono ?_
  rintro e w2 ⟨rfl, hb2⟩
  have HB := Hid.in_ (bstep hb1 hb2)
  generalize rawRV a0 a1 = x
  generalize rawRB a0 a1 = y
  cases y
  all_goals
    go_wp2
    go_ret
    exact ⟨rfl, HB.out⟩

set_option maxRecDepth 100000 in
theorem FnExactRawBytes_contract (H : Type) (enc : TypeId × Value → H) (W : World) (base : Nat) (args : Array Value) (ds gs : List (DataW H)) (before : List MemPlace)
    (hval : ∀ (j : Nat) t v, Tryd.f4.params[j]? = some t → args[j]? = some v → Value.okWide Tryd.prog W .any base t v)
    (hW : DataW.Whole enc Tryd.prog Tryd.f4.params.toList Rows.fnExactRawBytesSpec.vars false W args.toList ds gs before) (hL : laidMetH Tryd.prog Rows.fnExactRawBytesRow.laid W) :
    Calls Tryd.prog 4 args W fun e W' => ∃ v, e = .returned v ∧ Rows.fnExactRawBytesSpec.post enc Tryd.prog Tryd.f4 false true false false W args v W' := by
  have hW' := hW
  obtain ⟨p, q, hA0, hV, hbe, hfz, hnd⟩ := hW
  have hA : DataW.TrodAll enc Tryd.prog W 0 (fun _ => true) true Tryd.f4.params.toList args.toList ds p := hA0
  rw [Tryd.params4] at hA hval
  obtain ⟨v0, vs0, d0, ds0, p0, q0, hargs, rfl, rfl, h0, r0⟩ := trodAll_cons hA
  obtain ⟨v1, vs1, d1, ds1, p1, q1, rfl, rfl, rfl, h1, r1⟩ := trodAll_cons r0
  obtain ⟨rfl, rfl, rfl⟩ := trodAll_nil r1
  obtain rfl : args = #[v0, v1] := by cases args; simp_all
  obtain ⟨gl, hgl⟩ : ∃ l : List (DataW H), l = gs := ⟨_, rfl⟩
  obtain ⟨g0, hgs⟩ : ∃ g0, gs = [g0] := vars_1 hV
  subst hgs
  obtain ⟨a0, rfl, rfl, rfl, w0⟩ := open_int Tryd.underlying2 (hval 0 2 v0 rfl rfl) h0
  obtain ⟨a1, rfl, rfl, rfl, w1⟩ := open_string Tryd.underlying9 (hval 1 9 v1 rfl rfl) h1
  clear hA0
  have hT : Tab W := strs_laid (Rows.fnExactRawBytesRow.laid[1]) (g := 0) (by kernel_rfl) (by kernel_rfl) Tryd.underlying69 Tryd.underlying9 (by kernel_rfl) (by kernel_rfl) rfl (List.mem_filter.2 ⟨List.getElem_mem _, by kernel_rfl⟩) hL (by decide)
  refine (FnExactRawBytes_walk a0 w0 a1 w1 W hT).mono fun e W' ⟨he, hb⟩ => ?_
  subst he
  exact ⟨_, rfl, law_post_vars Tryd.laidOut (by kernel_rfl) (by kernel_rfl) rfl Tryd.underlying4 rfl hW' hb⟩

theorem FnExactRawBytes_laid (os : Os) : laidMet Tryd.prog Rows.fnExactRawBytesRow.laid ((laidWorld Tryd.prog os Rows.fnExactRawBytesRow.laid).forCall (fun _ _ => 0) ⟨#[], #[.int .i64 0, .string ByteArray.empty], []⟩).memory := laidMet_of_run' 8 (by kernel_rfl) (by kernel_rfl)
theorem FnExactRawBytes_reads (os : Os) {H : Type} (enc : TypeId × Value → H) : (DataW.whole enc Tryd.prog ((laidWorld Tryd.prog os Rows.fnExactRawBytesRow.laid).forCall (fun _ _ => 0) ⟨#[], #[.int .i64 0, .string ByteArray.empty], []⟩).memory Tryd.f4.params.toList Rows.fnExactRawBytesSpec.vars false #[.int .i64 0, .string ByteArray.empty].toList 8).isSome = true := by kernel_rfl
set_option maxRecDepth 100000 in
theorem FnExactRawBytes_lifted (os : Os) (started : os.Started) (H : Type) (enc : TypeId × Value → H) (F : Stop.Interp) :
    ReturnsInHanded {} Tryd.checked os 4 .any ((OpenSpec.ofChange Rows.fnExactRawBytesSpec).preRow enc Tryd.prog Tryd.f4 Rows.fnExactRawBytesRow.domain false Rows.fnExactRawBytesRow.laid) (((OpenSpec.ofChange Rows.fnExactRawBytesSpec).at F).post enc Tryd.prog Tryd.f4 false true false false) := by
  have hx := (Option.some_get (FnExactRawBytes_reads os enc)).symm
  refine returnsInHanded_of_row (C := Tryd.checked) (s := OpenSpec.ofChange Rows.fnExactRawBytesSpec) Tryd.own started (by kernel_rfl) Tryd.func4
    (witness_row_at (enc := enc) (C := Tryd.checked) false (laidWorld Tryd.prog os Rows.fnExactRawBytesRow.laid) #[.int .i64 0, .string ByteArray.empty] (laidWorld_os _ _ _) (by kernel_rfl) (by kernel_rfl) (by kernel_rfl)
      (OpenSpec.preRow_of_cond 8 hx rfl (fun k hk => by cases hk) (by kernel_rfl) (FnExactRawBytes_laid os))) ?_
  intro W base args ds gs before hval hW _ _ _ hL _ _
  exact FnExactRawBytes_contract H enc W base args ds gs before hval hW hL

theorem FnExactRawBytes_said : Rows.FnExactRawBytesSaid :=
  OpenClaim.holds_of_cond 4 Tryd.f4 rfl rfl rfl rfl rfl rfl rfl ⟨rfl, rfl, rfl, rfl, rfl⟩ rfl rfl rfl rfl rfl (by kernel_rfl) Tryd.func4 (by kernel_rfl)
    (of_decide_eq_true (by kernel_rfl)) (by unfold Func.isWrapper; first | (rw [if_pos (by decide +kernel)]; kernel_rfl) | (rw [if_neg (by decide +kernel)]; exact ⟨rfl, rfl⟩))
    (fun os started H enc _ F => by rw [OpenClaim.pre_eq_preRow]; exact FnExactRawBytes_lifted os started H enc F)
theorem FnExactRawBytes_plain (f : FuncId) (fn : Func) (hf : Tryd.pinned.checked.prog.funcNamed Rows.fnExactRawBytesRow.func = some f) (hfn : Tryd.pinned.checked.prog.funcs[f]? = some fn) :
    false = Tryd.pinned.checked.prog.looks [] ∧ ∀ (j : Nat) t, fn.params[j]? = some t → Tryd.pinned.checked.prog.wantsStandIn t = false := by
  obtain rfl : f = 4 := Option.some.inj ((show Tryd.prog.funcNamed Rows.fnExactRawBytesRow.func = some 4 by kernel_rfl).symm.trans hf) |>.symm
  obtain rfl : fn = Tryd.f4 := (Option.some.inj (Tryd.func4.symm.trans hfn)).symm
  exact ⟨by kernel_rfl, fun j t ht => noStandIn (P := Tryd.prog) (fn := Tryd.f4) (by kernel_rfl) j t ht⟩
theorem FnExactRawBytes_proved : Rows.FnExactRawBytesCardSaid :=
  Claim7.holds_tied_plain_at .later [] _ _ _ _ FnExactRawBytes_said (fun _ h => by cases h) (by kernel_rfl) (fun _ h => by cases h) fnExactRawBytes_row_tie rfl ⟨rfl, rfl⟩ (by kernel_rfl) rfl FnExactRawBytes_plain (by kernel_rfl)
#print axioms FnExactRawBytes_proved
end Go.Proofs.YtfmlobfgkinngaaDoor
