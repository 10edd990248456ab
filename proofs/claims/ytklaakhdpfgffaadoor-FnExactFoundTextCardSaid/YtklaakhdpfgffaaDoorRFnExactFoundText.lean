/- 'FnExactFoundText': for every input the law returns true, and each argument reads behind the call as it read before. No condition. -/
import Derived.Test.YtklaakhdpfgffaaDoorDoor
import Derived.Test.YtklaakhdpfgffaaDoorFndT2
import Derived.Test.YtklaakhdpfgffaaDoorRec
import Derived.Test.YtklaakhdpfgffaaDoorCards
import Derived.Test.YtklaakhdpfgffaaDoorTie
namespace Go.Proofs.YtklaakhdpfgffaaDoor
open Go.ChangeShapes Go.WideShapes Go.ChangeAt Go.RowKit
open Go.ChangeMaps (open_string shut_string)
set_option linter.unusedVariables false
set_option maxHeartbeats 2000000 in
theorem FnExactFoundText_walk (a0 : FndR) (w0 : a0.ok) (w : World) (hP : PowT w) :
    Calls Tryd.prog 4 #[.agg a0.cells.toArray] w fun e w' => e = .returned (.bool true) ∧ Below w.heap.size w w' := by
  obtain ⟨c, h, n, s, d, t, l, p⟩ := a0
  have hd0 : d.size ≤ maxLen := w0.2.2.2.2.1
  clear w0
  show Calls Tryd.prog 4 #[.agg #[.int .i64 c, .int .i64 h, .int .i64 n, .int .i64 s, .string d, .int .i64 t, .bool l, .int .i64 p]] w _
  have hB0 : Hid (Box _ _ _) := Box.new w [.int .i64 c, .int .i64 h, .int .i64 n, .int .i64 s, .string d, .int .i64 t, .bool l, .int .i64 p] 29
  have HB0 := Hid.in_ (balloc (Below.refl w.heap.size w) (.cells #[.int .i64 c, .int .i64 h, .int .i64 n, .int .i64 s, .string d, .int .i64 t, .bool l, .int .i64 p] 29))
  have HP := Hid.in_ (tab_step hP HB0.out)
  clear hP
  by_cases hd : (1048576 : Int) < d.size
  · go_enter Tryd.func4, Tryd.ntmps4
    go_wp2_with fail
    refine (laws_szFound _ _ _ _ _ _ _ _ _ _ hd0 (by omega) (by omega)).mono ?_
    rintro e w1 ⟨rfl, hb1⟩
    rw [szLeft_neg hd]
    go_wp2
    go_ret
    exact ⟨rfl, bstep HB0.out hb1⟩
  · have hd2 : d.size ≤ 1048576 := by omega
    go_enter Tryd.func4, Tryd.ntmps4
    go_wp2_with fail
    refine (laws_szFound _ _ _ _ _ _ _ _ _ _ hd0 (by omega) (by omega)).mono ?_
    rintro e w1 ⟨rfl, hb1⟩
    rw [szLeft_pos (left := 1048576) (n := d.size) (by omega)]
    have hB1 : Hid (Box _ _ _) := Box.step hb1 hB0.out
    obtain ⟨c0, c1, c2, c3, c4, c5, c6, c7⟩ := box8 hB1.out
    go_wp2_with fail
    refine (laws_toFound _ _ _ _ _ _ _ _ _).mono ?_
    rintro e w2 ⟨rfl, hb2⟩
    go_wp2_with fail
    refine (spec_FoundText _ _ _ _ _ _ _ _ _ hd2).mono ?_
    rintro e w3 ⟨rfl, hb3⟩
    clear c0 c1 c2 c3 c4 c5 c6 c7
    have hB3 : Hid (Box _ _ _) := Box.step hb3 (Box.step hb2 hB1.out)
    have HB3 := Hid.in_ (bstep (bstep hb1 hb2) hb3)
    obtain ⟨c0, c1, c2, c3, c4, c5, c6, c7⟩ := box8 hB3.out
    go_wp2_with fail
    refine (laws_toFound _ _ _ _ _ _ _ _ _).mono ?_
    rintro e w4 ⟨rfl, hb4⟩
    have HB4 := Hid.in_ (bstep HB3.out hb4)
    go_wp2_with fail
    refine (impl_FoundText _ _ _ _ _ _ _ _ _ hd2 (tab_step HP.out HB4.out)).mono ?_
    rintro e w5 ⟨rfl, hb5⟩
    have HB5 := Hid.in_ (bstep HB0.out (bstep HB4.out hb5))
    generalize foundText c h n s d t l p = x
    go_wp2
    go_ret
    exact ⟨rfl, HB5.out⟩

set_option maxRecDepth 100000 in
theorem FnExactFoundText_contract (H : Type) (enc : TypeId × Value → H) (W : World) (base : Nat) (args : Array Value) (ds gs : List (DataW H)) (before : List MemPlace)
    (hval : ∀ (j : Nat) t v, Tryd.f4.params[j]? = some t → args[j]? = some v → Value.okWide Tryd.prog W .any base t v)
    (hW : DataW.Whole enc Tryd.prog Tryd.f4.params.toList Rows.fnExactFoundTextSpec.vars false W args.toList ds gs before) (hL : laidMetH Tryd.prog Rows.fnExactFoundTextRow.laid W) :
    Calls Tryd.prog 4 args W fun e W' => ∃ v, e = .returned v ∧ Rows.fnExactFoundTextSpec.post enc Tryd.prog Tryd.f4 false true false false W args v W' := by
  have hW' := hW
  obtain ⟨p, q, hA0, hV, hbe, hfz, hnd⟩ := hW
  have hA : DataW.TrodAll enc Tryd.prog W 0 (fun _ => true) true Tryd.f4.params.toList args.toList ds p := hA0
  rw [Tryd.params4] at hA hval
  obtain ⟨v0, vs0, d0, ds0, p0, q0, hargs, rfl, rfl, h0, r0⟩ := trodAll_cons hA
  obtain ⟨rfl, rfl, rfl⟩ := trodAll_nil r0
  obtain rfl : args = #[v0] := by cases args; simp_all
  obtain ⟨rfl, _⟩ := trodVars_none hV
  obtain ⟨a0, rfl, w0⟩ := byval_FndR (hval 0 29 v0 rfl rfl) h0
  clear hA0
  have hP : PowT W := tab_name (by kernel_rfl) (tab_laid (Rows.fnExactFoundTextRow.laid[2]) (k := .u64) (zs := Lib.pow10Tab) (g := 3) (by kernel_rfl) (by kernel_rfl) Tryd.underlying125 Tryd.underlying87 (by kernel_rfl) (by kernel_rfl) (by kernel_rfl) (List.mem_filter.2 ⟨List.getElem_mem _, by kernel_rfl⟩) hL)
  refine (FnExactFoundText_walk a0 w0 W hP).mono fun e W' ⟨he, hb⟩ => ?_
  subst he
  exact ⟨_, rfl, law_post Tryd.laidOut (by kernel_rfl) rfl Tryd.underlying4 rfl rfl hW' hb⟩

theorem FnExactFoundText_laid (os : Os) : laidMet Tryd.prog Rows.fnExactFoundTextRow.laid ((laidWorld Tryd.prog os Rows.fnExactFoundTextRow.laid).forCall (fun _ _ => 0) ⟨#[], #[.agg #[.int .i64 0, .int .i64 0, .int .i64 0, .int .i64 0, .string ByteArray.empty, .int .i64 0, .bool false, .int .i64 0]], []⟩).memory := laidMet_of_run' 8 (by kernel_rfl) (by kernel_rfl)
theorem FnExactFoundText_reads (os : Os) {H : Type} (enc : TypeId × Value → H) : (DataW.whole enc Tryd.prog ((laidWorld Tryd.prog os Rows.fnExactFoundTextRow.laid).forCall (fun _ _ => 0) ⟨#[], #[.agg #[.int .i64 0, .int .i64 0, .int .i64 0, .int .i64 0, .string ByteArray.empty, .int .i64 0, .bool false, .int .i64 0]], []⟩).memory Tryd.f4.params.toList Rows.fnExactFoundTextSpec.vars false #[.agg #[.int .i64 0, .int .i64 0, .int .i64 0, .int .i64 0, .string ByteArray.empty, .int .i64 0, .bool false, .int .i64 0]].toList 8).isSome = true := by kernel_rfl
set_option maxRecDepth 100000 in
theorem FnExactFoundText_lifted (os : Os) (started : os.Started) (H : Type) (enc : TypeId × Value → H) (F : Stop.Interp) :
    ReturnsInHanded {} Tryd.checked os 4 .any ((OpenSpec.ofChange Rows.fnExactFoundTextSpec).preRow enc Tryd.prog Tryd.f4 Rows.fnExactFoundTextRow.domain false Rows.fnExactFoundTextRow.laid) (((OpenSpec.ofChange Rows.fnExactFoundTextSpec).at F).post enc Tryd.prog Tryd.f4 false true false false) := by
  have hx := (Option.some_get (FnExactFoundText_reads os enc)).symm
  refine returnsInHanded_of_row (C := Tryd.checked) (s := OpenSpec.ofChange Rows.fnExactFoundTextSpec) Tryd.own started (by kernel_rfl) Tryd.func4
    (witness_row_at (enc := enc) (C := Tryd.checked) false (laidWorld Tryd.prog os Rows.fnExactFoundTextRow.laid) #[.agg #[.int .i64 0, .int .i64 0, .int .i64 0, .int .i64 0, .string ByteArray.empty, .int .i64 0, .bool false, .int .i64 0]] (laidWorld_os _ _ _) (by kernel_rfl) (by kernel_rfl) (by kernel_rfl)
      (OpenSpec.preRow_of_cond 8 hx rfl (fun k hk => by cases hk) (by kernel_rfl) (FnExactFoundText_laid os))) ?_
  intro W base args ds gs before hval hW _ _ _ hL _ _
  exact FnExactFoundText_contract H enc W base args ds gs before hval hW hL

theorem FnExactFoundText_said : Rows.FnExactFoundTextSaid :=
  OpenClaim.holds_of_cond 4 Tryd.f4 rfl rfl rfl rfl rfl rfl rfl ⟨rfl, rfl, rfl, rfl, rfl⟩ rfl rfl rfl rfl rfl (by kernel_rfl) Tryd.func4 (by kernel_rfl)
    (of_decide_eq_true (by kernel_rfl)) (by unfold Func.isWrapper; first | (rw [if_pos (by decide +kernel)]; kernel_rfl) | (rw [if_neg (by decide +kernel)]; exact ⟨rfl, rfl⟩))
    (fun os started H enc _ F => by rw [OpenClaim.pre_eq_preRow]; exact FnExactFoundText_lifted os started H enc F)
theorem FnExactFoundText_plain (f : FuncId) (fn : Func) (hf : Tryd.pinned.checked.prog.funcNamed Rows.fnExactFoundTextRow.func = some f) (hfn : Tryd.pinned.checked.prog.funcs[f]? = some fn) :
    false = Tryd.pinned.checked.prog.looks [] ∧ ∀ (j : Nat) t, fn.params[j]? = some t → Tryd.pinned.checked.prog.wantsStandIn t = false := by
  obtain rfl : f = 4 := Option.some.inj ((show Tryd.prog.funcNamed Rows.fnExactFoundTextRow.func = some 4 by kernel_rfl).symm.trans hf) |>.symm
  obtain rfl : fn = Tryd.f4 := (Option.some.inj (Tryd.func4.symm.trans hfn)).symm
  exact ⟨by kernel_rfl, fun j t ht => noStandIn (P := Tryd.prog) (fn := Tryd.f4) (by kernel_rfl) j t ht⟩
theorem FnExactFoundText_proved : Rows.FnExactFoundTextCardSaid :=
  Claim7.holds_tied_plain_at .later [] _ _ _ _ FnExactFoundText_said (fun _ h => by cases h) (by kernel_rfl) (fun _ h => by cases h) fnExactFoundText_row_tie rfl ⟨rfl, rfl⟩ (by kernel_rfl) rfl FnExactFoundText_plain (by kernel_rfl)
#print axioms FnExactFoundText_proved
end Go.Proofs.YtklaakhdpfgffaaDoor
