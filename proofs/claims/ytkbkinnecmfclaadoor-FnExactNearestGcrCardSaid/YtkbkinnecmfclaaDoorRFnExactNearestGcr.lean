/- 'FnExactNearestGcr': for every input the law returns true, and each argument reads behind the call as it read before. No condition. -/
import Derived.Test.YtkbkinnecmfclaaDoorDoor
import Derived.Test.YtkbkinnecmfclaaDoorNear
import Derived.Test.YtkbkinnecmfclaaDoorCards
import Derived.Test.YtkbkinnecmfclaaDoorTie
namespace Go.Proofs.YtkbkinnecmfclaaDoor
open Go.ChangeShapes Go.WideShapes Go.ChangeAt Go.RowKit
open Go.ChangeMaps (open_string shut_string)
set_option linter.unusedVariables false
set_option maxHeartbeats 1000000 in
theorem FnExactNearestGcr_walk (a0 : ByteArray) (w0 : a0.size ≤ maxLen) (w : World) (hT : Tab w) :
    Calls Tryd.prog 8 #[.string a0] w fun e w' => e = .returned (.bool true) ∧ Below w.heap.size w w' := by
  have HT := Hid.in_ hT
  clear hT
  unfold maxLen at w0
  by_cases h0 : (1048576 : Int) < a0.size
  · go_enter Tryd.func8, Tryd.ntmps8
    go_wp2
    go_ret
    exact ⟨rfl, Below.refl _ _⟩
  have HS := Hid.in_ (show a0.size ≤ 1048576 by omega)
  have hle : (nearest a0).length ≤ 1048576 := by
    have := nearest_len a0
    omega
  have hne : ¬ ((1 : Int) + ((nearest a0).length : Int) < 0) := by omega
  go_enter Tryd.func8, Tryd.ntmps8
  go_wp2_with fail
  refine (spec_NearestGcr _ _ HS.out).mono ?_
  rintro e w1 ⟨v1, rfl, ho1, hb1⟩
  go_wp2_with fail
  refine (impl_NearestGcr _ _ HS.out (Tab.step hb1 HT.out)).mono ?_
  rintro e w2 ⟨v2, rfl, ho2, hb2⟩
  have hB2 := bstep hb1 hb2
  go_wp2_with fail
  refine (laws_eqInt64S _ ho2 (ostep hb2 ho1)).mono ?_
  rintro e w3 ⟨rfl, hb3⟩
  have hB3 := bstep hB2 hb3
  go_wp2_with fail
  refine (laws_markInt64S 1 _ (ostep hb3 ho2) (by omega) (by omega) (by omega)).mono ?_
  rintro e w4 ⟨rfl, ho4, hg4⟩
  have hB4 := bgrown hB3 (ostep hb3 ho2) hb1.size hg4
  have hk1 := (ostep hb3 (ostep hb2 ho1)).kept hg4 (own_apart ho1 ho2 (Nat.le_refl _))
  go_wp2_with fail
  refine (laws_heldInt64S 1 _ ho4 (by omega) (by omega) (by omega)).mono ?_
  rintro e w5 ⟨rfl, rfl⟩
  go_wp2_with fail
  refine (impl_NearestGcr _ _ HS.out (Tab.step hB4 HT.out)).mono ?_
  rintro e w6 ⟨v6, rfl, ho6, hb6⟩
  have hB6 := bstep hB4 hb6
  go_wp2_with fail
  refine (laws_eqInt64S _ ho6 (ostep hb6 hk1)).mono ?_
  rintro e w7 ⟨rfl, hb7⟩
  have hB7 := bstep hB6 hb7
  go_wp2_with fail
  refine (laws_heldInt64S 1 _ (ostep hb7 (ostep hb6 ho4)) (by omega) (by omega) (by omega)).mono ?_
  rintro e w8 ⟨rfl, rfl⟩
  go_wp2
  go_ret
  exact ⟨rfl, hB7⟩

set_option maxRecDepth 100000 in
theorem FnExactNearestGcr_contract (H : Type) (enc : TypeId × Value → H) (W : World) (base : Nat) (args : Array Value) (ds gs : List (DataW H)) (before : List MemPlace)
    (hval : ∀ (j : Nat) t v, Tryd.f8.params[j]? = some t → args[j]? = some v → Value.okWide Tryd.prog W .any base t v)
    (hW : DataW.Whole enc Tryd.prog Tryd.f8.params.toList Rows.fnExactNearestGcrSpec.vars false W args.toList ds gs before) (hL : laidMetH Tryd.prog Rows.fnExactNearestGcrRow.laid W) :
    Calls Tryd.prog 8 args W fun e W' => ∃ v, e = .returned v ∧ Rows.fnExactNearestGcrSpec.post enc Tryd.prog Tryd.f8 false true false false W args v W' := by
  have hW' := hW
  obtain ⟨p, q, hA0, hV, hbe, hfz, hnd⟩ := hW
  have hA : DataW.TrodAll enc Tryd.prog W 0 (fun _ => true) true Tryd.f8.params.toList args.toList ds p := hA0
  rw [Tryd.params8] at hA hval
  obtain ⟨v0, vs0, d0, ds0, p0, q0, hargs, rfl, rfl, h0, r0⟩ := trodAll_cons hA
  obtain ⟨rfl, rfl, rfl⟩ := trodAll_nil r0
  obtain rfl : args = #[v0] := by cases args; simp_all
  obtain ⟨gl, hgl⟩ : ∃ l : List (DataW H), l = gs := ⟨_, rfl⟩
  obtain ⟨g0, hgs⟩ : ∃ g0, gs = [g0] := vars_1 hV
  subst hgs
  obtain ⟨a0, rfl, rfl, rfl, w0⟩ := open_string Tryd.underlying9 (hval 0 9 v0 rfl rfl) h0
  clear hA0
  have hT : Tab W := strs_laid (Rows.fnExactNearestGcrRow.laid[1]) (g := 0) (by kernel_rfl) (by kernel_rfl) Tryd.underlying58 Tryd.underlying9 (by kernel_rfl) (by kernel_rfl) rfl (List.mem_filter.2 ⟨List.getElem_mem _, by kernel_rfl⟩) hL (by decide)
  refine (FnExactNearestGcr_walk a0 w0 W hT).mono fun e W' ⟨he, hb⟩ => ?_
  subst he
  exact ⟨_, rfl, law_post_vars Tryd.laidOut (by kernel_rfl) (by kernel_rfl) rfl Tryd.underlying4 rfl hW' hb⟩

theorem FnExactNearestGcr_laid (os : Os) : laidMet Tryd.prog Rows.fnExactNearestGcrRow.laid ((laidWorld Tryd.prog os Rows.fnExactNearestGcrRow.laid).forCall (fun _ _ => 0) ⟨#[], #[.string ByteArray.empty], []⟩).memory := laidMet_of_run' 8 (by kernel_rfl) (by kernel_rfl)
theorem FnExactNearestGcr_reads (os : Os) {H : Type} (enc : TypeId × Value → H) : (DataW.whole enc Tryd.prog ((laidWorld Tryd.prog os Rows.fnExactNearestGcrRow.laid).forCall (fun _ _ => 0) ⟨#[], #[.string ByteArray.empty], []⟩).memory Tryd.f8.params.toList Rows.fnExactNearestGcrSpec.vars false #[.string ByteArray.empty].toList 8).isSome = true := by kernel_rfl
set_option maxRecDepth 100000 in
theorem FnExactNearestGcr_lifted (os : Os) (started : os.Started) (H : Type) (enc : TypeId × Value → H) (F : Stop.Interp) :
    ReturnsInHanded {} Tryd.checked os 8 .any ((OpenSpec.ofChange Rows.fnExactNearestGcrSpec).preRow enc Tryd.prog Tryd.f8 Rows.fnExactNearestGcrRow.domain false Rows.fnExactNearestGcrRow.laid) (((OpenSpec.ofChange Rows.fnExactNearestGcrSpec).at F).post enc Tryd.prog Tryd.f8 false true false false) := by
  have hx := (Option.some_get (FnExactNearestGcr_reads os enc)).symm
  refine returnsInHanded_of_row (C := Tryd.checked) (s := OpenSpec.ofChange Rows.fnExactNearestGcrSpec) Tryd.own started (by kernel_rfl) Tryd.func8
    (witness_row_at (enc := enc) (C := Tryd.checked) false (laidWorld Tryd.prog os Rows.fnExactNearestGcrRow.laid) #[.string ByteArray.empty] (laidWorld_os _ _ _) (by kernel_rfl) (by kernel_rfl) (by kernel_rfl)
      (OpenSpec.preRow_of_cond 8 hx rfl (fun k hk => by cases hk) (by kernel_rfl) (FnExactNearestGcr_laid os))) ?_
  intro W base args ds gs before hval hW _ _ _ hL _ _
  exact FnExactNearestGcr_contract H enc W base args ds gs before hval hW hL

theorem FnExactNearestGcr_said : Rows.FnExactNearestGcrSaid :=
  OpenClaim.holds_of_cond 8 Tryd.f8 rfl rfl rfl rfl rfl rfl rfl ⟨rfl, rfl, rfl, rfl, rfl⟩ rfl rfl rfl rfl rfl (by kernel_rfl) Tryd.func8 (by kernel_rfl)
    (of_decide_eq_true (by kernel_rfl)) (by unfold Func.isWrapper; first | (rw [if_pos (by decide +kernel)]; kernel_rfl) | (rw [if_neg (by decide +kernel)]; exact ⟨rfl, rfl⟩))
    (fun os started H enc _ F => by rw [OpenClaim.pre_eq_preRow]; exact FnExactNearestGcr_lifted os started H enc F)
theorem FnExactNearestGcr_plain (f : FuncId) (fn : Func) (hf : Tryd.pinned.checked.prog.funcNamed Rows.fnExactNearestGcrRow.func = some f) (hfn : Tryd.pinned.checked.prog.funcs[f]? = some fn) :
    false = Tryd.pinned.checked.prog.looks [] ∧ ∀ (j : Nat) t, fn.params[j]? = some t → Tryd.pinned.checked.prog.wantsStandIn t = false := by
  obtain rfl : f = 8 := Option.some.inj ((show Tryd.prog.funcNamed Rows.fnExactNearestGcrRow.func = some 8 by kernel_rfl).symm.trans hf) |>.symm
  obtain rfl : fn = Tryd.f8 := (Option.some.inj (Tryd.func8.symm.trans hfn)).symm
  exact ⟨by kernel_rfl, fun j t ht => noStandIn (P := Tryd.prog) (fn := Tryd.f8) (by kernel_rfl) j t ht⟩
theorem FnExactNearestGcr_proved : Rows.FnExactNearestGcrCardSaid :=
  Claim7.holds_tied_plain_at .later [] _ _ _ _ FnExactNearestGcr_said (fun _ h => by cases h) (by kernel_rfl) (fun _ h => by cases h) fnExactNearestGcr_row_tie rfl ⟨rfl, rfl⟩ (by kernel_rfl) rfl FnExactNearestGcr_plain (by kernel_rfl)
#print axioms FnExactNearestGcr_proved
end Go.Proofs.YtkbkinnecmfclaaDoor
