/- 'FnExactDataMarkOf': for every input the law returns true, and each argument reads behind the call as it read before. No condition. -/
import Derived.Test.YtfmlobfgkinngabDoorDoor
import Derived.Test.YtfmlobfgkinngabDoorAsk
import Derived.Test.YtfmlobfgkinngabDoorRec
import Derived.Test.YtfmlobfgkinngabDoorCards
import Derived.Test.YtfmlobfgkinngabDoorTie
namespace Go.Proofs.YtfmlobfgkinngabDoor
open Go.ChangeShapes Go.WideShapes Go.ChangeAt Go.RowKit
open Go.ChangeMaps (open_string shut_string)
set_option linter.unusedVariables false
set_option maxHeartbeats 2000000 in
theorem FnExactDataMarkOf_walk (a0 : ByteArray) (w0 : a0.size ≤ maxLen) (a1 : Int) (w1 : (Lit.int .i64 a1).wf = true) (A2 : Option Addr) (cap2 : Nat) (l2 : List MarkR) (w : World) (s2 : ArgS w A2 l2.length cap2 3 (l2.flatMap MarkR.cells)) (k2 : ∀ r ∈ l2, r.ok) (a3 : Int) (w3 : (Lit.int .i64 a3).wf = true) :
    Calls Tryd.prog 6 #[.string a0, .int .i64 a1, .slice A2 l2.length cap2, .int .i64 a3] w fun e w' => e = .returned (.bool true) ∧ Below w.heap.size w w' := by
  unfold maxLen at w0
  obtain ⟨n, hn⟩ : ∃ n, l2.length = n := ⟨_, rfl⟩
  rw [hn] at s2 ⊢
  have hm : n ≤ maxLen := Nat.le_trans s2.2.1 s2.2.2.1
  have HN := Hid.in_ hn
  have HS := Hid.in_ s2
  clear s2 k2 hn
  by_cases h0 : (1048576 : Int) < a0.size
  · go_enter Tryd.func6, Tryd.ntmps6
    go_wp2
    go_ret
    exact ⟨rfl, Below.refl _ _⟩
  have HZ := Hid.in_ (show a0.size ≤ 1048576 by omega)
  by_cases hd : (1048576 : Int) < n
  · go_enter Tryd.func6, Tryd.ntmps6
    go_wp2_with fail
    refine (laws_szMarkS _ _ hm (by omega) (by omega)).mono ?_
    rintro e w1 ⟨rfl, rfl⟩
    rw [szLeft_neg hd]
    go_wp2
    go_ret
    exact ⟨rfl, Below.refl _ _⟩
  · have hn2 : n ≤ 1048576 := by omega
    go_enter Tryd.func6, Tryd.ntmps6
    go_wp2_with fail
    refine (laws_szMarkS _ _ hm (by omega) (by omega)).mono ?_
    rintro e w1 ⟨rfl, rfl⟩
    rw [szLeft_pos (left := 1048576) (n := n) (by omega)]
    go_wp2_with fail
    refine (laws_toMarkS _ HS.out HN.out hn2).mono ?_
    rintro e w2 ⟨v2, rfl, ho2, hb2⟩
    go_wp2_with fail
    refine (spec_DataMarkOf _ _ _ _ HZ.out ho2 hn2).mono ?_
    rintro e w3 ⟨rfl, hb3⟩
    have hb3' := bstep hb2 hb3
    have HS3 := Hid.in_ (HS.out.below hb3')
    go_wp2_with fail
    refine (laws_toMarkS _ HS3.out HN.out hn2).mono ?_
    rintro e w4 ⟨v4, rfl, ho4, hb4⟩
    go_wp2_with fail
    refine (impl_DataMarkOf _ _ _ _ HZ.out ho4 hn2).mono ?_
    rintro e w5 ⟨rfl, hb5⟩
    have hb5' := bstep (bstep hb3' hb4) hb5
    have HS5 := Hid.in_ (HS.out.below hb5')
    generalize dmRes a0 a1 l2 a3 = x
    generalize dmOk a0 a1 l2 a3 = y
    cases y
    all_goals
      go_wp2_with fail
      refine (laws_toMarkS _ HS5.out HN.out hn2).mono ?_
      rintro e w6 ⟨v6, rfl, ho6, hb6⟩
      go_wp2_with fail
      refine (laws_eqMarkS _ (ostep hb6 (ostep hb5 ho4)) ho6).mono ?_
      rintro e w7 ⟨rfl, hb7⟩
      go_wp2
      go_ret
      exact ⟨rfl, bstep (bstep hb5' hb6) hb7⟩

set_option maxRecDepth 100000 in
theorem FnExactDataMarkOf_contract (H : Type) (enc : TypeId × Value → H) (W : World) (base : Nat) (args : Array Value) (ds gs : List (DataW H)) (before : List MemPlace)
    (hval : ∀ (j : Nat) t v, Tryd.f6.params[j]? = some t → args[j]? = some v → Value.okWide Tryd.prog W .any base t v)
    (hW : DataW.Whole enc Tryd.prog Tryd.f6.params.toList Rows.fnExactDataMarkOfSpec.vars false W args.toList ds gs before) (hL : laidMetH Tryd.prog Rows.fnExactDataMarkOfRow.laid W) :
    Calls Tryd.prog 6 args W fun e W' => ∃ v, e = .returned v ∧ Rows.fnExactDataMarkOfSpec.post enc Tryd.prog Tryd.f6 false true false false W args v W' := by
  have hW' := hW
  obtain ⟨p, q, hA0, hV, hbe, hfz, hnd⟩ := hW
  have hA : DataW.TrodAll enc Tryd.prog W 0 (fun _ => true) true Tryd.f6.params.toList args.toList ds p := hA0
  rw [Tryd.params6] at hA hval
  obtain ⟨v0, vs0, d0, ds0, p0, q0, hargs, rfl, rfl, h0, r0⟩ := trodAll_cons hA
  obtain ⟨v1, vs1, d1, ds1, p1, q1, rfl, rfl, rfl, h1, r1⟩ := trodAll_cons r0
  obtain ⟨v2, vs2, d2, ds2, p2, q2, rfl, rfl, rfl, h2, r2⟩ := trodAll_cons r1
  obtain ⟨v3, vs3, d3, ds3, p3, q3, rfl, rfl, rfl, h3, r3⟩ := trodAll_cons r2
  obtain ⟨rfl, rfl, rfl⟩ := trodAll_nil r3
  obtain rfl : args = #[v0, v1, v2, v3] := by cases args; simp_all
  obtain ⟨rfl, _⟩ := trodVars_none hV
  obtain ⟨a0, rfl, rfl, rfl, w0⟩ := open_string Tryd.underlying9 (hval 0 9 v0 rfl rfl) h0
  obtain ⟨a1, rfl, rfl, rfl, w1⟩ := open_int Tryd.underlying2 (hval 1 2 v1 rfl rfl) h1
  obtain ⟨A2, cap2, l2, rfl, s2, k2⟩ := slice_MarkR (hval 2 37 v2 rfl rfl) h2
  obtain ⟨a3, rfl, rfl, rfl, w3⟩ := open_int Tryd.underlying2 (hval 3 2 v3 rfl rfl) h3
  clear hA0
  refine (FnExactDataMarkOf_walk a0 w0 a1 w1 A2 cap2 l2 W s2 k2 a3 w3).mono fun e W' ⟨he, hb⟩ => ?_
  subst he
  exact ⟨_, rfl, law_post Tryd.laidOut (by kernel_rfl) rfl Tryd.underlying4 rfl rfl hW' hb⟩

theorem FnExactDataMarkOf_laid (os : Os) : laidMet Tryd.prog Rows.fnExactDataMarkOfRow.laid ((laidWorld Tryd.prog os Rows.fnExactDataMarkOfRow.laid).forCall (fun _ _ => 0) ⟨#[], #[.string ByteArray.empty, .int .i64 0, .slice none 0 0, .int .i64 0], []⟩).memory := laidMet_of_run' 8 (by kernel_rfl) (by kernel_rfl)
theorem FnExactDataMarkOf_reads (os : Os) {H : Type} (enc : TypeId × Value → H) : (DataW.whole enc Tryd.prog ((laidWorld Tryd.prog os Rows.fnExactDataMarkOfRow.laid).forCall (fun _ _ => 0) ⟨#[], #[.string ByteArray.empty, .int .i64 0, .slice none 0 0, .int .i64 0], []⟩).memory Tryd.f6.params.toList Rows.fnExactDataMarkOfSpec.vars false #[.string ByteArray.empty, .int .i64 0, .slice none 0 0, .int .i64 0].toList 8).isSome = true := by kernel_rfl
set_option maxRecDepth 100000 in
theorem FnExactDataMarkOf_lifted (os : Os) (started : os.Started) (H : Type) (enc : TypeId × Value → H) (F : Stop.Interp) :
    ReturnsInHanded {} Tryd.checked os 6 .any ((OpenSpec.ofChange Rows.fnExactDataMarkOfSpec).preRow enc Tryd.prog Tryd.f6 Rows.fnExactDataMarkOfRow.domain false Rows.fnExactDataMarkOfRow.laid) (((OpenSpec.ofChange Rows.fnExactDataMarkOfSpec).at F).post enc Tryd.prog Tryd.f6 false true false false) := by
  have hx := (Option.some_get (FnExactDataMarkOf_reads os enc)).symm
  refine returnsInHanded_of_row (C := Tryd.checked) (s := OpenSpec.ofChange Rows.fnExactDataMarkOfSpec) Tryd.own started (by kernel_rfl) Tryd.func6
    (witness_row_at (enc := enc) (C := Tryd.checked) false (laidWorld Tryd.prog os Rows.fnExactDataMarkOfRow.laid) #[.string ByteArray.empty, .int .i64 0, .slice none 0 0, .int .i64 0] (laidWorld_os _ _ _) (by kernel_rfl) (by kernel_rfl) (by kernel_rfl)
      (OpenSpec.preRow_of_cond 8 hx rfl (fun k hk => by cases hk) (by kernel_rfl) (FnExactDataMarkOf_laid os))) ?_
  intro W base args ds gs before hval hW _ _ _ hL _ _
  exact FnExactDataMarkOf_contract H enc W base args ds gs before hval hW hL

theorem FnExactDataMarkOf_said : Rows.FnExactDataMarkOfSaid :=
  OpenClaim.holds_of_cond 6 Tryd.f6 rfl rfl rfl rfl rfl rfl rfl ⟨rfl, rfl, rfl, rfl, rfl⟩ rfl rfl rfl rfl rfl (by kernel_rfl) Tryd.func6 (by kernel_rfl)
    (of_decide_eq_true (by kernel_rfl)) (by unfold Func.isWrapper; first | (rw [if_pos (by decide +kernel)]; kernel_rfl) | (rw [if_neg (by decide +kernel)]; exact ⟨rfl, rfl⟩))
    (fun os started H enc _ F => by rw [OpenClaim.pre_eq_preRow]; exact FnExactDataMarkOf_lifted os started H enc F)
theorem FnExactDataMarkOf_plain (f : FuncId) (fn : Func) (hf : Tryd.pinned.checked.prog.funcNamed Rows.fnExactDataMarkOfRow.func = some f) (hfn : Tryd.pinned.checked.prog.funcs[f]? = some fn) :
    false = Tryd.pinned.checked.prog.looks [] ∧ ∀ (j : Nat) t, fn.params[j]? = some t → Tryd.pinned.checked.prog.wantsStandIn t = false := by
  obtain rfl : f = 6 := Option.some.inj ((show Tryd.prog.funcNamed Rows.fnExactDataMarkOfRow.func = some 6 by kernel_rfl).symm.trans hf) |>.symm
  obtain rfl : fn = Tryd.f6 := (Option.some.inj (Tryd.func6.symm.trans hfn)).symm
  exact ⟨by kernel_rfl, fun j t ht => noStandIn (P := Tryd.prog) (fn := Tryd.f6) (by kernel_rfl) j t ht⟩
theorem FnExactDataMarkOf_proved : Rows.FnExactDataMarkOfCardSaid :=
  Claim7.holds_tied_plain_at .later [] _ _ _ _ FnExactDataMarkOf_said (fun _ h => by cases h) (by kernel_rfl) (fun _ h => by cases h) fnExactDataMarkOf_row_tie rfl ⟨rfl, rfl⟩ (by kernel_rfl) rfl FnExactDataMarkOf_plain (by kernel_rfl)
#print axioms FnExactDataMarkOf_proved
end Go.Proofs.YtfmlobfgkinngabDoor
