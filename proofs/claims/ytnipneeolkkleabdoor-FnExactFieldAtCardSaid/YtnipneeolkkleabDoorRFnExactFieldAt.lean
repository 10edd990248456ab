/- 'FnExactFieldAt': for every input the law returns true, and each argument reads behind the call as it read before. No condition. -/
import Derived.Test.YtnipneeolkkleabDoorDoor
import Derived.Test.YtnipneeolkkleabDoorFldB
import Derived.Test.YtnipneeolkkleabDoorCards
import Derived.Test.YtnipneeolkkleabDoorTie
namespace Go.Proofs.YtnipneeolkkleabDoor
open Go.ChangeShapes Go.WideShapes Go.ChangeAt Go.RowKit
open Go.ChangeMaps (open_string shut_string)
set_option linter.unusedVariables false
set_option maxHeartbeats 2000000 in
theorem FnExactFieldAt_walk (a0 : ByteArray) (w0 : a0.size ≤ maxLen) (a1 : Int) (w1 : (Lit.int .i64 a1).wf = true) (a2 : MarkR) (w2 : a2.ok) (a3 : Int) (w3 : (Lit.int .i64 a3).wf = true) (w : World) (hT : Tab w) :
    Calls Tryd.prog 3 #[.string a0, .int .i64 a1, .agg a2.cells.toArray, .int .i64 a3] w fun e w' => e = .returned (.bool true) ∧ Below w.heap.size w w' := by
  show Calls Tryd.prog 3 #[.string a0, .int .i64 a1, .agg #[.int .i64 a2.k, .int .i64 a2.a, .int .i64 a2.b], .int .i64 a3] w _
  have hB := Hid.in_ (Box.new w [.int .i64 a2.k, .int .i64 a2.a, .int .i64 a2.b] 23)
  have HB0 := Hid.in_ (balloc (Below.refl w.heap.size w) (.cells #[.int .i64 a2.k, .int .i64 a2.a, .int .i64 a2.b] 23))
  have HT := Hid.in_ (Tab.step HB0.out hT)
  clear hT
  unfold maxLen at w0
  by_cases h0 : (1048576 : Int) < a0.size
  · go_enter Tryd.func3, Tryd.ntmps3
    go_wp2
    go_ret
    exact ⟨rfl, HB0.out⟩
  have HS := Hid.in_ (show a0.size ≤ 1048576 by omega)
  clear w2
  obtain ⟨c0, c1, c2⟩ := box3 hB.out
  go_enter Tryd.func3, Tryd.ntmps3
  go_wp2_with fail
  refine (laws_toMark _ _ _ _).mono ?_
  rintro e w1 ⟨rfl, hb1⟩
  go_wp2_with fail
  refine (spec_FieldAt a0 a1 a2 a3 _ HS.out).mono ?_
  rintro e w2 ⟨rfl, hb2⟩
  have HB2 := Hid.in_ (bstep hb1 hb2)
  clear hb1 hb2 c0 c1 c2
  obtain ⟨d0, d1, d2⟩ := box3 (Box.step HB2.out hB.out)
  go_wp2_with fail
  refine (laws_toMark _ _ _ _).mono ?_
  rintro e w3 ⟨rfl, hb3⟩
  have HB3 := Hid.in_ (bstep HB2.out hb3)
  clear hb3
  go_wp2_with fail
  refine (impl_FieldAt a0 a1 a2 a3 _ HS.out (Tab.step HB3.out HT.out)).mono ?_
  rintro e w4 ⟨rfl, hb4⟩
  have HB4 := Hid.in_ (bstep HB0.out (bstep HB3.out hb4))
  clear hb4
  generalize fatV a0 a1 a2 a3 = x
  generalize fatB a0 a1 a2 a3 = y
  generalize fatC a0 a1 a2 a3 = z
  cases y
  all_goals
    go_wp2
    go_ret
    exact ⟨rfl, HB4.out⟩

set_option maxRecDepth 100000 in
theorem FnExactFieldAt_contract (H : Type) (enc : TypeId × Value → H) (W : World) (base : Nat) (args : Array Value) (ds gs : List (DataW H)) (before : List MemPlace)
    (hval : ∀ (j : Nat) t v, Tryd.f3.params[j]? = some t → args[j]? = some v → Value.okWide Tryd.prog W .any base t v)
    (hW : DataW.Whole enc Tryd.prog Tryd.f3.params.toList Rows.fnExactFieldAtSpec.vars false W args.toList ds gs before) (hL : laidMetH Tryd.prog Rows.fnExactFieldAtRow.laid W) :
    Calls Tryd.prog 3 args W fun e W' => ∃ v, e = .returned v ∧ Rows.fnExactFieldAtSpec.post enc Tryd.prog Tryd.f3 false true false false W args v W' := by
  have hW' := hW
  obtain ⟨p, q, hA0, hV, hbe, hfz, hnd⟩ := hW
  have hA : DataW.TrodAll enc Tryd.prog W 0 (fun _ => true) true Tryd.f3.params.toList args.toList ds p := hA0
  rw [Tryd.params3] at hA hval
  obtain ⟨v0, vs0, d0, ds0, p0, q0, hargs, rfl, rfl, h0, r0⟩ := trodAll_cons hA
  obtain ⟨v1, vs1, d1, ds1, p1, q1, rfl, rfl, rfl, h1, r1⟩ := trodAll_cons r0
  obtain ⟨v2, vs2, d2, ds2, p2, q2, rfl, rfl, rfl, h2, r2⟩ := trodAll_cons r1
  obtain ⟨v3, vs3, d3, ds3, p3, q3, rfl, rfl, rfl, h3, r3⟩ := trodAll_cons r2
  obtain ⟨rfl, rfl, rfl⟩ := trodAll_nil r3
  obtain rfl : args = #[v0, v1, v2, v3] := by cases args; simp_all
  obtain ⟨gl, hgl⟩ : ∃ l : List (DataW H), l = gs := ⟨_, rfl⟩
  obtain ⟨g0, hgs⟩ : ∃ g0, gs = [g0] := vars_1 hV
  subst hgs
  obtain ⟨a0, rfl, rfl, rfl, w0⟩ := open_string Tryd.underlying9 (hval 0 9 v0 rfl rfl) h0
  obtain ⟨a1, rfl, rfl, rfl, w1⟩ := open_int Tryd.underlying2 (hval 1 2 v1 rfl rfl) h1
  obtain ⟨a2, rfl, w2⟩ := byval_MarkR (hval 2 23 v2 rfl rfl) h2
  obtain ⟨a3, rfl, rfl, rfl, w3⟩ := open_int Tryd.underlying2 (hval 3 2 v3 rfl rfl) h3
  clear hA0
  have hT : Tab W := strs_laid (Rows.fnExactFieldAtRow.laid[1]) (g := 0) (by kernel_rfl) (by kernel_rfl) Tryd.underlying75 Tryd.underlying9 (by kernel_rfl) (by kernel_rfl) rfl (List.mem_filter.2 ⟨List.getElem_mem _, by kernel_rfl⟩) hL (by decide)
  refine (FnExactFieldAt_walk a0 w0 a1 w1 a2 w2 a3 w3 W hT).mono fun e W' ⟨he, hb⟩ => ?_
  subst he
  exact ⟨_, rfl, law_post_vars Tryd.laidOut (by kernel_rfl) (by kernel_rfl) rfl Tryd.underlying4 rfl hW' hb⟩

theorem FnExactFieldAt_laid (os : Os) : laidMet Tryd.prog Rows.fnExactFieldAtRow.laid ((laidWorld Tryd.prog os Rows.fnExactFieldAtRow.laid).forCall (fun _ _ => 0) ⟨#[], #[.string ByteArray.empty, .int .i64 0, .agg #[.int .i64 0, .int .i64 0, .int .i64 0], .int .i64 0], []⟩).memory := laidMet_of_run' 8 (by kernel_rfl) (by kernel_rfl)
theorem FnExactFieldAt_reads (os : Os) {H : Type} (enc : TypeId × Value → H) : (DataW.whole enc Tryd.prog ((laidWorld Tryd.prog os Rows.fnExactFieldAtRow.laid).forCall (fun _ _ => 0) ⟨#[], #[.string ByteArray.empty, .int .i64 0, .agg #[.int .i64 0, .int .i64 0, .int .i64 0], .int .i64 0], []⟩).memory Tryd.f3.params.toList Rows.fnExactFieldAtSpec.vars false #[.string ByteArray.empty, .int .i64 0, .agg #[.int .i64 0, .int .i64 0, .int .i64 0], .int .i64 0].toList 8).isSome = true := by kernel_rfl
set_option maxRecDepth 100000 in
theorem FnExactFieldAt_lifted (os : Os) (started : os.Started) (H : Type) (enc : TypeId × Value → H) (F : Stop.Interp) :
    ReturnsInHanded {} Tryd.checked os 3 .any ((OpenSpec.ofChange Rows.fnExactFieldAtSpec).preRow enc Tryd.prog Tryd.f3 Rows.fnExactFieldAtRow.domain false Rows.fnExactFieldAtRow.laid) (((OpenSpec.ofChange Rows.fnExactFieldAtSpec).at F).post enc Tryd.prog Tryd.f3 false true false false) := by
  have hx := (Option.some_get (FnExactFieldAt_reads os enc)).symm
  refine returnsInHanded_of_row (C := Tryd.checked) (s := OpenSpec.ofChange Rows.fnExactFieldAtSpec) Tryd.own started (by kernel_rfl) Tryd.func3
    (witness_row_at (enc := enc) (C := Tryd.checked) false (laidWorld Tryd.prog os Rows.fnExactFieldAtRow.laid) #[.string ByteArray.empty, .int .i64 0, .agg #[.int .i64 0, .int .i64 0, .int .i64 0], .int .i64 0] (laidWorld_os _ _ _) (by kernel_rfl) (by kernel_rfl) (by kernel_rfl)
      (OpenSpec.preRow_of_cond 8 hx rfl (fun k hk => by cases hk) (by kernel_rfl) (FnExactFieldAt_laid os))) ?_
  intro W base args ds gs before hval hW _ _ _ hL _ _
  exact FnExactFieldAt_contract H enc W base args ds gs before hval hW hL

theorem FnExactFieldAt_said : Rows.FnExactFieldAtSaid :=
  OpenClaim.holds_of_cond 3 Tryd.f3 rfl rfl rfl rfl rfl rfl rfl ⟨rfl, rfl, rfl, rfl, rfl⟩ rfl rfl rfl rfl rfl (by kernel_rfl) Tryd.func3 (by kernel_rfl)
    (of_decide_eq_true (by kernel_rfl)) (by unfold Func.isWrapper; first | (rw [if_pos (by decide +kernel)]; kernel_rfl) | (rw [if_neg (by decide +kernel)]; exact ⟨rfl, rfl⟩))
    (fun os started H enc _ F => by rw [OpenClaim.pre_eq_preRow]; exact FnExactFieldAt_lifted os started H enc F)
theorem FnExactFieldAt_plain (f : FuncId) (fn : Func) (hf : Tryd.pinned.checked.prog.funcNamed Rows.fnExactFieldAtRow.func = some f) (hfn : Tryd.pinned.checked.prog.funcs[f]? = some fn) :
    false = Tryd.pinned.checked.prog.looks [] ∧ ∀ (j : Nat) t, fn.params[j]? = some t → Tryd.pinned.checked.prog.wantsStandIn t = false := by
  obtain rfl : f = 3 := Option.some.inj ((show Tryd.prog.funcNamed Rows.fnExactFieldAtRow.func = some 3 by kernel_rfl).symm.trans hf) |>.symm
  obtain rfl : fn = Tryd.f3 := (Option.some.inj (Tryd.func3.symm.trans hfn)).symm
  exact ⟨by kernel_rfl, fun j t ht => noStandIn (P := Tryd.prog) (fn := Tryd.f3) (by kernel_rfl) j t ht⟩
theorem FnExactFieldAt_proved : Rows.FnExactFieldAtCardSaid :=
  Claim7.holds_tied_plain_at .later [] _ _ _ _ FnExactFieldAt_said (fun _ h => by cases h) (by kernel_rfl) (fun _ h => by cases h) fnExactFieldAt_row_tie rfl ⟨rfl, rfl⟩ (by kernel_rfl) rfl FnExactFieldAt_plain (by kernel_rfl)
#print axioms FnExactFieldAt_proved
end Go.Proofs.YtnipneeolkkleabDoor
