/- 'FnExactReadTrack': for every input the law returns true, and each argument reads behind the call as it read before. No condition. -/
import Derived.Test.YtlelgpknkgjaeaaGreatDoorMRd
import Derived.Test.YtlelgpknkgjaeaaGreatDoorCards
import Derived.Test.YtlelgpknkgjaeaaGreatDoorTie
namespace Go.Proofs.YtlelgpknkgjaeaaGreatDoor
open Go.ChangeShapes Go.WideShapes Go.ChangeAt Go.RowKit
open Go.ChangeMaps (open_string shut_string)
set_option linter.unusedVariables false
set_option maxHeartbeats 1000000 in
theorem FnExactReadTrack_walk (a0 : ByteArray) (w0 : a0.size ≤ maxLen) (a1 : Int) (w1 : (Lit.int .i64 a1).wf = true) (w : World) (hT : Tab w) :
    Calls Tryz.prog 4 #[.string a0, .int .i64 a1] w fun e w' => e = .returned (.bool true) ∧ Below w.heap.size w w' := by
  unfold maxLen at w0
  have HT := Hid.in_ hT
  clear hT w1
  by_cases h0 : (1048576 : Int) < a0.size
  · go_enter Tryz.func4, Tryz.ntmps4
    go_wp2
    go_ret
    exact ⟨rfl, Below.refl _ _⟩
  have HS := Hid.in_ (show a0.size ≤ 1048576 by omega)
  have hle : (readV a0 a1).length ≤ 64 := readV_len a0 a1
  have hne : ¬ (((1 + 8 * (readV a0 a1).length : Nat) : Int) < 0) := by omega
  go_enter Tryz.func4, Tryz.ntmps4
  go_wp2_with fail
  refine (spec_ReadTrack _ _ _ HS.out).mono ?_
  rintro e w1 ⟨v1, rfl, ho1, hb1⟩
  go_wp2_with fail
  refine (impl_ReadTrack _ _ _ HS.out (Tab.step hb1 HT.out)).mono ?_
  rintro e w2 ⟨v2, rfl, ho2, hb2⟩
  have hB2 := bstep hb1 hb2
  go_wp2_with fail
  refine (laws_eqFoundS _ ho2 (ostep hb2 ho1)).mono ?_
  rintro e w3 ⟨rfl, hb3⟩
  have hB3 := bstep hB2 hb3
  go_wp2_with fail
  refine (laws_markFoundS 1 _ (ostep hb3 ho2) (by omega) (by omega) (by omega)).mono ?_
  rintro e w4 ⟨rfl, ho4, hg4⟩
  have hB4 := bgrown hB3 (ostep hb3 ho2) hb1.size hg4
  have hk1 := (ostep hb3 (ostep hb2 ho1)).kept hg4 (own_apart ho1 ho2 (Nat.le_refl _))
  go_wp2_with fail
  refine (laws_heldFoundS 1 _ ho4 (by omega) (by omega) (by omega)).mono ?_
  rintro e w5 ⟨rfl, hb5⟩
  have hB5 := bstep hB4 hb5
  have hk5 := ostep hb5 hk1
  have ho5 := ostep hb5 ho4
  clear hk1 ho4
  go_wp2_with fail
  refine (impl_ReadTrack _ _ _ HS.out (Tab.step hB5 HT.out)).mono ?_
  rintro e w6 ⟨v6, rfl, ho6, hb6⟩
  have hB6 := bstep hB5 hb6
  go_wp2_with fail
  refine (laws_eqFoundS _ ho6 (ostep hb6 hk5)).mono ?_
  rintro e w7 ⟨rfl, hb7⟩
  have hB7 := bstep hB6 hb7
  go_wp2_with fail
  refine (laws_heldFoundS 1 _ (ostep hb7 (ostep hb6 ho5)) (by omega) (by omega) (by omega)).mono ?_
  rintro e w8 ⟨rfl, hb8⟩
  have hB8 := bstep hB7 hb8
  go_wp2
  go_ret
  exact ⟨rfl, hB8⟩

set_option maxRecDepth 100000 in
theorem FnExactReadTrack_contract (H : Type) (enc : TypeId × Value → H) (W : World) (base : Nat) (args : Array Value) (ds gs : List (DataW H)) (before : List MemPlace)
    (hval : ∀ (j : Nat) t v, Tryz.f4.params[j]? = some t → args[j]? = some v → Value.okWide Tryz.prog W .any base t v)
    (hW : DataW.Whole enc Tryz.prog Tryz.f4.params.toList Rows.fnExactReadTrackSpec.vars false W args.toList ds gs before) (hL : laidMetH Tryz.prog Rows.fnExactReadTrackRow.laid W) :
    Calls Tryz.prog 4 args W fun e W' => ∃ v, e = .returned v ∧ Rows.fnExactReadTrackSpec.post enc Tryz.prog Tryz.f4 false true false false W args v W' := by
  have hW' := hW
  obtain ⟨p, q, hA0, hV, hbe, hfz, hnd⟩ := hW
  have hA : DataW.TrodAll enc Tryz.prog W 0 (fun _ => true) true Tryz.f4.params.toList args.toList ds p := hA0
  rw [Tryz.params4] at hA hval
  obtain ⟨v0, vs0, d0, ds0, p0, q0, hargs, rfl, rfl, h0, r0⟩ := trodAll_cons hA
  obtain ⟨v1, vs1, d1, ds1, p1, q1, rfl, rfl, rfl, h1, r1⟩ := trodAll_cons r0
  obtain ⟨rfl, rfl, rfl⟩ := trodAll_nil r1
  obtain rfl : args = #[v0, v1] := by cases args; simp_all
  obtain ⟨gl, hgl⟩ : ∃ l : List (DataW H), l = gs := ⟨_, rfl⟩
  obtain ⟨g0, hgs⟩ : ∃ g0, gs = [g0] := vars_1 hV
  subst hgs
  obtain ⟨a0, rfl, rfl, rfl, w0⟩ := open_string Tryz.underlying9 (hval 0 9 v0 rfl rfl) h0
  obtain ⟨a1, rfl, rfl, rfl, w1⟩ := open_int Tryz.underlying2 (hval 1 2 v1 rfl rfl) h1
  clear hA0
  have hT : Tab W := strs_laid (Rows.fnExactReadTrackRow.laid[1]) (g := 0) (by kernel_rfl) (by kernel_rfl) Tryz.underlying154 Tryz.underlying9 (by kernel_rfl) (by kernel_rfl) rfl (List.mem_filter.2 ⟨List.getElem_mem _, by kernel_rfl⟩) hL (by decide)
  refine (FnExactReadTrack_walk a0 w0 a1 w1 W hT).mono fun e W' ⟨he, hb⟩ => ?_
  subst he
  exact ⟨_, rfl, law_post_vars Tryz.laidOut (by kernel_rfl) (by kernel_rfl) rfl Tryz.underlying4 rfl hW' hb⟩

theorem FnExactReadTrack_laid (os : Os) : laidMet Tryz.prog Rows.fnExactReadTrackRow.laid ((laidWorld Tryz.prog os Rows.fnExactReadTrackRow.laid).forCall (fun _ _ => 0) ⟨#[], #[.string ByteArray.empty, .int .i64 0], []⟩).memory := laidMet_of_run' 8 (by kernel_rfl) (by kernel_rfl)
theorem FnExactReadTrack_reads (os : Os) {H : Type} (enc : TypeId × Value → H) : (DataW.whole enc Tryz.prog ((laidWorld Tryz.prog os Rows.fnExactReadTrackRow.laid).forCall (fun _ _ => 0) ⟨#[], #[.string ByteArray.empty, .int .i64 0], []⟩).memory Tryz.f4.params.toList Rows.fnExactReadTrackSpec.vars false #[.string ByteArray.empty, .int .i64 0].toList 8).isSome = true := by kernel_rfl
set_option maxRecDepth 100000 in
theorem FnExactReadTrack_lifted (os : Os) (started : os.Started) (H : Type) (enc : TypeId × Value → H) (F : Stop.Interp) :
    ReturnsInHanded {} Tryz.checked os 4 .any ((OpenSpec.ofChange Rows.fnExactReadTrackSpec).preRow enc Tryz.prog Tryz.f4 Rows.fnExactReadTrackRow.domain false Rows.fnExactReadTrackRow.laid) (((OpenSpec.ofChange Rows.fnExactReadTrackSpec).at F).post enc Tryz.prog Tryz.f4 false true false false) := by
  have hx := (Option.some_get (FnExactReadTrack_reads os enc)).symm
  refine returnsInHanded_of_row (C := Tryz.checked) (s := OpenSpec.ofChange Rows.fnExactReadTrackSpec) Tryz.own started (by kernel_rfl) Tryz.func4
    (witness_row_at (enc := enc) (C := Tryz.checked) false (laidWorld Tryz.prog os Rows.fnExactReadTrackRow.laid) #[.string ByteArray.empty, .int .i64 0] (laidWorld_os _ _ _) (by kernel_rfl) (by kernel_rfl) (by kernel_rfl)
      (OpenSpec.preRow_of_cond 8 hx rfl (fun k hk => by cases hk) (by kernel_rfl) (FnExactReadTrack_laid os))) ?_
  intro W base args ds gs before hval hW _ _ _ hL _ _
  exact FnExactReadTrack_contract H enc W base args ds gs before hval hW hL

theorem FnExactReadTrack_said : Rows.FnExactReadTrackSaid :=
  OpenClaim.holds_of_cond 4 Tryz.f4 rfl rfl rfl rfl rfl rfl rfl ⟨rfl, rfl, rfl, rfl, rfl⟩ rfl rfl rfl rfl rfl (by kernel_rfl) Tryz.func4 (by kernel_rfl)
    (of_decide_eq_true (by kernel_rfl)) (by unfold Func.isWrapper; first | (rw [if_pos (by decide +kernel)]; kernel_rfl) | (rw [if_neg (by decide +kernel)]; exact ⟨rfl, rfl⟩))
    (fun os started H enc _ F => by rw [OpenClaim.pre_eq_preRow]; exact FnExactReadTrack_lifted os started H enc F)
theorem FnExactReadTrack_plain (f : FuncId) (fn : Func) (hf : Tryz.pinned.checked.prog.funcNamed Rows.fnExactReadTrackRow.func = some f) (hfn : Tryz.pinned.checked.prog.funcs[f]? = some fn) :
    false = Tryz.pinned.checked.prog.looks [] ∧ ∀ (j : Nat) t, fn.params[j]? = some t → Tryz.pinned.checked.prog.wantsStandIn t = false := by
  obtain rfl : f = 4 := Option.some.inj ((show Tryz.prog.funcNamed Rows.fnExactReadTrackRow.func = some 4 by kernel_rfl).symm.trans hf) |>.symm
  obtain rfl : fn = Tryz.f4 := (Option.some.inj (Tryz.func4.symm.trans hfn)).symm
  exact ⟨by kernel_rfl, fun j t ht => noStandIn (P := Tryz.prog) (fn := Tryz.f4) (by kernel_rfl) j t ht⟩
theorem FnExactReadTrack_proved : Rows.FnExactReadTrackCardSaid :=
  Claim7.holds_tied_plain_at .later [] _ _ _ _ FnExactReadTrack_said (fun _ h => by cases h) (by kernel_rfl) (fun _ h => by cases h) fnExactReadTrack_row_tie rfl ⟨rfl, rfl⟩ (by kernel_rfl) rfl FnExactReadTrack_plain (by kernel_rfl)
#print axioms FnExactReadTrack_proved
end Go.Proofs.YtlelgpknkgjaeaaGreatDoor
