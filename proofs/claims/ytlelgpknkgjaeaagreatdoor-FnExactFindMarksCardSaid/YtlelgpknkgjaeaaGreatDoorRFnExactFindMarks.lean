/- 'FnExactFindMarks': for every input the law returns true, and each argument reads behind the call as it read before. No condition. -/
import Derived.Test.YtlelgpknkgjaeaaGreatDoorDoor
import Derived.Test.YtlelgpknkgjaeaaGreatDoorFmI
import Derived.Test.YtlelgpknkgjaeaaGreatDoorCards
import Derived.Test.YtlelgpknkgjaeaaGreatDoorTie
namespace Go.Proofs.YtlelgpknkgjaeaaGreatDoor
open Go.ChangeShapes Go.WideShapes Go.ChangeAt Go.RowKit
open Go.ChangeMaps (open_string shut_string)
set_option linter.unusedVariables false
set_option maxHeartbeats 1000000 in
theorem FnExactFindMarks_walk (a0 : ByteArray) (w0 : a0.size ≤ maxLen) (a1 : Int) (w1 : (Lit.int .i64 a1).wf = true) (w : World) (hT : Tab w) :
    Calls Tryz.prog 3 #[.string a0, .int .i64 a1] w fun e w' => e = .returned (.bool true) ∧ Below w.heap.size w w' := by
  unfold maxLen at w0
  have HT := Hid.in_ hT
  clear hT w1
  by_cases h0 : (1048576 : Int) < a0.size
  · go_enter Tryz.func3, Tryz.ntmps3
    go_wp2
    go_ret
    exact ⟨rfl, Below.refl _ _⟩
  have HS := Hid.in_ (show a0.size ≤ 1048576 by omega)
  have hle : (fmVal a0 a1).length ≤ 64 := fmVal_len a0 a1
  have hne : ¬ ((1 : Int) + 3 * ((fmVal a0 a1).length : Int) < 0) := by omega
  go_enter Tryz.func3, Tryz.ntmps3
  go_wp2_with fail
  refine (spec_FindMarks _ _ _ HS.out).mono ?_
  rintro e w1 ⟨v1, rfl, ho1, hb1⟩
  go_wp2_with fail
  refine (impl_FindMarks _ _ _ HS.out (Tab.step hb1 HT.out)).mono ?_
  rintro e w2 ⟨v2, rfl, ho2, hb2⟩
  have hB2 := bstep hb1 hb2
  go_wp2_with fail
  refine (laws_eqMarkS _ ho2 (ostep hb2 ho1)).mono ?_
  rintro e w3 ⟨rfl, hb3⟩
  have hB3 := bstep hB2 hb3
  go_wp2_with fail
  refine (laws_markMarkS 1 _ (ostep hb3 ho2) (by omega) (by omega) (by omega)).mono ?_
  rintro e w4 ⟨rfl, ho4, hg4⟩
  have hB4 := bgrown hB3 (ostep hb3 ho2) hb1.size hg4
  have hk1 := (ostep hb3 (ostep hb2 ho1)).kept hg4 (own_apart ho1 ho2 (Nat.le_refl _))
  go_wp2_with fail
  refine (laws_heldMarkS 1 _ ho4 (by omega) (by omega) (by omega)).mono ?_
  rintro e w5 ⟨rfl, rfl⟩
  go_wp2_with fail
  refine (impl_FindMarks _ _ _ HS.out (Tab.step hB4 HT.out)).mono ?_
  rintro e w6 ⟨v6, rfl, ho6, hb6⟩
  have hB6 := bstep hB4 hb6
  go_wp2_with fail
  refine (laws_eqMarkS _ ho6 (ostep hb6 hk1)).mono ?_
  rintro e w7 ⟨rfl, hb7⟩
  have hB7 := bstep hB6 hb7
  go_wp2_with fail
  refine (laws_heldMarkS 1 _ (ostep hb7 (ostep hb6 ho4)) (by omega) (by omega) (by omega)).mono ?_
  rintro e w8 ⟨rfl, rfl⟩
  go_wp2
  go_ret
  exact ⟨rfl, hB7⟩

set_option maxRecDepth 100000 in
theorem FnExactFindMarks_contract (H : Type) (enc : TypeId × Value → H) (W : World) (base : Nat) (args : Array Value) (ds gs : List (DataW H)) (before : List MemPlace)
    (hval : ∀ (j : Nat) t v, Tryz.f3.params[j]? = some t → args[j]? = some v → Value.okWide Tryz.prog W .any base t v)
    (hW : DataW.Whole enc Tryz.prog Tryz.f3.params.toList Rows.fnExactFindMarksSpec.vars false W args.toList ds gs before) (hL : laidMetH Tryz.prog Rows.fnExactFindMarksRow.laid W) :
    Calls Tryz.prog 3 args W fun e W' => ∃ v, e = .returned v ∧ Rows.fnExactFindMarksSpec.post enc Tryz.prog Tryz.f3 false true false false W args v W' := by
  have hW' := hW
  obtain ⟨p, q, hA0, hV, hbe, hfz, hnd⟩ := hW
  have hA : DataW.TrodAll enc Tryz.prog W 0 (fun _ => true) true Tryz.f3.params.toList args.toList ds p := hA0
  rw [Tryz.params3] at hA hval
  obtain ⟨v0, vs0, d0, ds0, p0, q0, hargs, rfl, rfl, h0, r0⟩ := trodAll_cons hA
  obtain ⟨v1, vs1, d1, ds1, p1, q1, rfl, rfl, rfl, h1, r1⟩ := trodAll_cons r0
  obtain ⟨rfl, rfl, rfl⟩ := trodAll_nil r1
  obtain rfl : args = #[v0, v1] := by cases args; simp_all
  obtain ⟨gl, hgl⟩ : ∃ l : List (DataW H), l = gs := ⟨_, rfl⟩
  obtain ⟨g0, hgs⟩ : ∃ g0, gs = [g0] := vars_1 hV
  subst hgs
  obtain ⟨a0, rfl, rfl, rfl, w0⟩ := open_string Tryz.underlying9 (hval 0 9 v0 rfl rfl) h0
  obtain ⟨a1, rfl, rfl, rfl, w1⟩ := open_int Tryz.underlying2 (hval 1 2 v1 rfl rfl) h1
  clear hA0
  have hT : Tab W := strs_laid (Rows.fnExactFindMarksRow.laid[1]) (g := 0) (by kernel_rfl) (by kernel_rfl) Tryz.underlying154 Tryz.underlying9 (by kernel_rfl) (by kernel_rfl) rfl (List.mem_filter.2 ⟨List.getElem_mem _, by kernel_rfl⟩) hL (by decide)
  refine (FnExactFindMarks_walk a0 w0 a1 w1 W hT).mono fun e W' ⟨he, hb⟩ => ?_
  subst he
  exact ⟨_, rfl, law_post_vars Tryz.laidOut (by kernel_rfl) (by kernel_rfl) rfl Tryz.underlying4 rfl hW' hb⟩

theorem FnExactFindMarks_laid (os : Os) : laidMet Tryz.prog Rows.fnExactFindMarksRow.laid ((laidWorld Tryz.prog os Rows.fnExactFindMarksRow.laid).forCall (fun _ _ => 0) ⟨#[], #[.string ByteArray.empty, .int .i64 0], []⟩).memory := laidMet_of_run' 8 (by kernel_rfl) (by kernel_rfl)
theorem FnExactFindMarks_reads (os : Os) {H : Type} (enc : TypeId × Value → H) : (DataW.whole enc Tryz.prog ((laidWorld Tryz.prog os Rows.fnExactFindMarksRow.laid).forCall (fun _ _ => 0) ⟨#[], #[.string ByteArray.empty, .int .i64 0], []⟩).memory Tryz.f3.params.toList Rows.fnExactFindMarksSpec.vars false #[.string ByteArray.empty, .int .i64 0].toList 8).isSome = true := by kernel_rfl
set_option maxRecDepth 100000 in
theorem FnExactFindMarks_lifted (os : Os) (started : os.Started) (H : Type) (enc : TypeId × Value → H) (F : Stop.Interp) :
    ReturnsInHanded {} Tryz.checked os 3 .any ((OpenSpec.ofChange Rows.fnExactFindMarksSpec).preRow enc Tryz.prog Tryz.f3 Rows.fnExactFindMarksRow.domain false Rows.fnExactFindMarksRow.laid) (((OpenSpec.ofChange Rows.fnExactFindMarksSpec).at F).post enc Tryz.prog Tryz.f3 false true false false) := by
  have hx := (Option.some_get (FnExactFindMarks_reads os enc)).symm
  refine returnsInHanded_of_row (C := Tryz.checked) (s := OpenSpec.ofChange Rows.fnExactFindMarksSpec) Tryz.own started (by kernel_rfl) Tryz.func3
    (witness_row_at (enc := enc) (C := Tryz.checked) false (laidWorld Tryz.prog os Rows.fnExactFindMarksRow.laid) #[.string ByteArray.empty, .int .i64 0] (laidWorld_os _ _ _) (by kernel_rfl) (by kernel_rfl) (by kernel_rfl)
      (OpenSpec.preRow_of_cond 8 hx rfl (fun k hk => by cases hk) (by kernel_rfl) (FnExactFindMarks_laid os))) ?_
  intro W base args ds gs before hval hW _ _ _ hL _ _
  exact FnExactFindMarks_contract H enc W base args ds gs before hval hW hL

theorem FnExactFindMarks_said : Rows.FnExactFindMarksSaid :=
  OpenClaim.holds_of_cond 3 Tryz.f3 rfl rfl rfl rfl rfl rfl rfl ⟨rfl, rfl, rfl, rfl, rfl⟩ rfl rfl rfl rfl rfl (by kernel_rfl) Tryz.func3 (by kernel_rfl)
    (of_decide_eq_true (by kernel_rfl)) (by unfold Func.isWrapper; first | (rw [if_pos (by decide +kernel)]; kernel_rfl) | (rw [if_neg (by decide +kernel)]; exact ⟨rfl, rfl⟩))
    (fun os started H enc _ F => by rw [OpenClaim.pre_eq_preRow]; exact FnExactFindMarks_lifted os started H enc F)
theorem FnExactFindMarks_plain (f : FuncId) (fn : Func) (hf : Tryz.pinned.checked.prog.funcNamed Rows.fnExactFindMarksRow.func = some f) (hfn : Tryz.pinned.checked.prog.funcs[f]? = some fn) :
    false = Tryz.pinned.checked.prog.looks [] ∧ ∀ (j : Nat) t, fn.params[j]? = some t → Tryz.pinned.checked.prog.wantsStandIn t = false := by
  obtain rfl : f = 3 := Option.some.inj ((show Tryz.prog.funcNamed Rows.fnExactFindMarksRow.func = some 3 by kernel_rfl).symm.trans hf) |>.symm
  obtain rfl : fn = Tryz.f3 := (Option.some.inj (Tryz.func3.symm.trans hfn)).symm
  exact ⟨by kernel_rfl, fun j t ht => noStandIn (P := Tryz.prog) (fn := Tryz.f3) (by kernel_rfl) j t ht⟩
theorem FnExactFindMarks_proved : Rows.FnExactFindMarksCardSaid :=
  Claim7.holds_tied_plain_at .later [] _ _ _ _ FnExactFindMarks_said (fun _ h => by cases h) (by kernel_rfl) (fun _ h => by cases h) fnExactFindMarks_row_tie rfl ⟨rfl, rfl⟩ (by kernel_rfl) rfl FnExactFindMarks_plain (by kernel_rfl)
#print axioms FnExactFindMarks_proved
end Go.Proofs.YtlelgpknkgjaeaaGreatDoor
