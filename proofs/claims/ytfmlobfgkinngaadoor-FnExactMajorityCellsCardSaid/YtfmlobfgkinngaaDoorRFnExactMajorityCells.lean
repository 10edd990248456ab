/- 'FnExactMajorityCells': for every input the law returns true, and each argument reads behind the call as it read before. No condition. -/
import Derived.Test.YtfmlobfgkinngaaDoorDoor
import Derived.Test.YtfmlobfgkinngaaDoorMajI
import Derived.Test.YtfmlobfgkinngaaDoorCards
import Derived.Test.YtfmlobfgkinngaaDoorTie
namespace Go.Proofs.YtfmlobfgkinngaaDoor
open Go.ChangeShapes Go.WideShapes Go.ChangeAt Go.RowKit
open Go.ChangeMaps (open_string shut_string)
set_option linter.unusedVariables false
set_option maxHeartbeats 1000000 in
theorem FnExactMajorityCells_walk (A0 : Option Addr) (cap0 : Nat) (l0 : List ByteArray) (w : World) (s0 : ArgS w A0 l0.length cap0 1 (Strs l0)) (k0 : ∀ r ∈ l0, r.size ≤ maxLen) :
    Calls Tryd.prog 13 #[.slice A0 l0.length cap0] w fun e w' => e = .returned (.bool true) ∧ Below w.heap.size w w' := by
  obtain ⟨n, hn⟩ : ∃ n, l0.length = n := ⟨_, rfl⟩
  rw [hn] at s0 ⊢
  have HN := Hid.in_ hn
  have HS := Hid.in_ s0
  have HK := Hid.in_ k0
  clear s0 k0 hn
  go_enter Tryd.func13, Tryd.ntmps13
  go_wp2_with fail
  refine (laws_szStringS _ _ HS.out HN.out HK.out (by omega) (by omega)).mono ?_
  rintro e w1 ⟨rfl | ⟨r, rfl, hr0, hr1, hr2⟩, hb1⟩
  · go_wp2
    go_ret
    exact ⟨rfl, hb1⟩
  have HZ := Hid.in_ (show ∀ s ∈ l0, s.size ≤ 9223372036854775807 from fun s hs => by have := hr2 s hs; omega)
  have hn2 : n ≤ 1048576 := by omega
  have HS1 := Hid.in_ (HS.out.below hb1)
  go_wp2_with fail
  refine (laws_toStringS _ HS1.out HN.out hn2).mono ?_
  rintro e w2 ⟨v2, rfl, ho2, hb2⟩
  have hB2 := bstep hb1 hb2
  go_wp2_with fail
  refine (spec_MajorityCells _ ho2 HZ.out hn2).mono ?_
  rintro e w3 ⟨rfl, hb3⟩
  have hB3 := bstep hB2 hb3
  have HS3 := Hid.in_ (HS.out.below hB3)
  go_wp2_with fail
  refine (laws_toStringS _ HS3.out HN.out hn2).mono ?_
  rintro e w4 ⟨v4, rfl, ho4, hb4⟩
  have hB4 := bstep hB3 hb4
  go_wp2_with fail
  refine (impl_MajorityCells _ ho4 HZ.out).mono ?_
  rintro e w5 ⟨rfl, hb5⟩
  have hB5 := bstep hB4 hb5
  have HS5 := Hid.in_ (HS.out.below hB5)
  go_wp2_with fail
  refine (laws_toStringS _ HS5.out HN.out hn2).mono ?_
  rintro e w6 ⟨v6, rfl, ho6, hb6⟩
  have hB6 := bstep hB5 hb6
  go_wp2_with fail
  refine (laws_eqStringS _ (ostep hb6 (ostep hb5 ho4)) ho6).mono ?_
  rintro e w7 ⟨rfl, hb7⟩
  go_wp2
  go_ret
  exact ⟨rfl, bstep hB6 hb7⟩

set_option maxRecDepth 100000 in
theorem FnExactMajorityCells_contract (H : Type) (enc : TypeId × Value → H) (W : World) (base : Nat) (args : Array Value) (ds gs : List (DataW H)) (before : List MemPlace)
    (hval : ∀ (j : Nat) t v, Tryd.f13.params[j]? = some t → args[j]? = some v → Value.okWide Tryd.prog W .any base t v)
    (hW : DataW.Whole enc Tryd.prog Tryd.f13.params.toList Rows.fnExactMajorityCellsSpec.vars false W args.toList ds gs before) (hL : laidMetH Tryd.prog Rows.fnExactMajorityCellsRow.laid W) :
    Calls Tryd.prog 13 args W fun e W' => ∃ v, e = .returned v ∧ Rows.fnExactMajorityCellsSpec.post enc Tryd.prog Tryd.f13 false true false false W args v W' := by
  have hW' := hW
  obtain ⟨p, q, hA0, hV, hbe, hfz, hnd⟩ := hW
  have hA : DataW.TrodAll enc Tryd.prog W 0 (fun _ => true) true Tryd.f13.params.toList args.toList ds p := hA0
  rw [Tryd.params13] at hA hval
  obtain ⟨v0, vs0, d0, ds0, p0, q0, hargs, rfl, rfl, h0, r0⟩ := trodAll_cons hA
  obtain ⟨rfl, rfl, rfl⟩ := trodAll_nil r0
  obtain rfl : args = #[v0] := by cases args; simp_all
  obtain ⟨rfl, _⟩ := trodVars_none hV
  obtain ⟨A0, cap0, l0, rfl, s0, k0⟩ := slice_Strs (hval 0 56 v0 rfl rfl) h0
  clear hA0
  refine (FnExactMajorityCells_walk A0 cap0 l0 W s0 k0).mono fun e W' ⟨he, hb⟩ => ?_
  subst he
  exact ⟨_, rfl, law_post Tryd.laidOut (by kernel_rfl) rfl Tryd.underlying4 rfl rfl hW' hb⟩

theorem FnExactMajorityCells_laid (os : Os) : laidMet Tryd.prog Rows.fnExactMajorityCellsRow.laid ((laidWorld Tryd.prog os Rows.fnExactMajorityCellsRow.laid).forCall (fun _ _ => 0) ⟨#[], #[.slice none 0 0], []⟩).memory := laidMet_of_run' 8 (by kernel_rfl) (by kernel_rfl)
theorem FnExactMajorityCells_reads (os : Os) {H : Type} (enc : TypeId × Value → H) : (DataW.whole enc Tryd.prog ((laidWorld Tryd.prog os Rows.fnExactMajorityCellsRow.laid).forCall (fun _ _ => 0) ⟨#[], #[.slice none 0 0], []⟩).memory Tryd.f13.params.toList Rows.fnExactMajorityCellsSpec.vars false #[.slice none 0 0].toList 8).isSome = true := by kernel_rfl
set_option maxRecDepth 100000 in
theorem FnExactMajorityCells_lifted (os : Os) (started : os.Started) (H : Type) (enc : TypeId × Value → H) (F : Stop.Interp) :
    ReturnsInHanded {} Tryd.checked os 13 .any ((OpenSpec.ofChange Rows.fnExactMajorityCellsSpec).preRow enc Tryd.prog Tryd.f13 Rows.fnExactMajorityCellsRow.domain false Rows.fnExactMajorityCellsRow.laid) (((OpenSpec.ofChange Rows.fnExactMajorityCellsSpec).at F).post enc Tryd.prog Tryd.f13 false true false false) := by
  have hx := (Option.some_get (FnExactMajorityCells_reads os enc)).symm
  refine returnsInHanded_of_row (C := Tryd.checked) (s := OpenSpec.ofChange Rows.fnExactMajorityCellsSpec) Tryd.own started (by kernel_rfl) Tryd.func13
    (witness_row_at (enc := enc) (C := Tryd.checked) false (laidWorld Tryd.prog os Rows.fnExactMajorityCellsRow.laid) #[.slice none 0 0] (laidWorld_os _ _ _) (by kernel_rfl) (by kernel_rfl) (by kernel_rfl)
      (OpenSpec.preRow_of_cond 8 hx rfl (fun k hk => by cases hk) (by kernel_rfl) (FnExactMajorityCells_laid os))) ?_
  intro W base args ds gs before hval hW _ _ _ hL _ _
  exact FnExactMajorityCells_contract H enc W base args ds gs before hval hW hL

theorem FnExactMajorityCells_said : Rows.FnExactMajorityCellsSaid :=
  OpenClaim.holds_of_cond 13 Tryd.f13 rfl rfl rfl rfl rfl rfl rfl ⟨rfl, rfl, rfl, rfl, rfl⟩ rfl rfl rfl rfl rfl (by kernel_rfl) Tryd.func13 (by kernel_rfl)
    (of_decide_eq_true (by kernel_rfl)) (by unfold Func.isWrapper; first | (rw [if_pos (by decide +kernel)]; kernel_rfl) | (rw [if_neg (by decide +kernel)]; exact ⟨rfl, rfl⟩))
    (fun os started H enc _ F => by rw [OpenClaim.pre_eq_preRow]; exact FnExactMajorityCells_lifted os started H enc F)
theorem FnExactMajorityCells_plain (f : FuncId) (fn : Func) (hf : Tryd.pinned.checked.prog.funcNamed Rows.fnExactMajorityCellsRow.func = some f) (hfn : Tryd.pinned.checked.prog.funcs[f]? = some fn) :
    false = Tryd.pinned.checked.prog.looks [] ∧ ∀ (j : Nat) t, fn.params[j]? = some t → Tryd.pinned.checked.prog.wantsStandIn t = false := by
  obtain rfl : f = 13 := Option.some.inj ((show Tryd.prog.funcNamed Rows.fnExactMajorityCellsRow.func = some 13 by kernel_rfl).symm.trans hf) |>.symm
  obtain rfl : fn = Tryd.f13 := (Option.some.inj (Tryd.func13.symm.trans hfn)).symm
  exact ⟨by kernel_rfl, fun j t ht => noStandIn (P := Tryd.prog) (fn := Tryd.f13) (by kernel_rfl) j t ht⟩
theorem FnExactMajorityCells_proved : Rows.FnExactMajorityCellsCardSaid :=
  Claim7.holds_tied_plain_at .later [] _ _ _ _ FnExactMajorityCells_said (fun _ h => by cases h) (by kernel_rfl) (fun _ h => by cases h) fnExactMajorityCells_row_tie rfl ⟨rfl, rfl⟩ (by kernel_rfl) rfl FnExactMajorityCells_plain (by kernel_rfl)
#print axioms FnExactMajorityCells_proved
end Go.Proofs.YtfmlobfgkinngaaDoor
