/- 'FnExactReadSector': for every input the law returns true, and each argument reads behind the call as it read before. No condition. -/
import Derived.Test.YtklaakhdpfgffabDoorDoor
import Derived.Test.YtklaakhdpfgffabDoorRsB
import Derived.Test.YtklaakhdpfgffabDoorCards
import Derived.Test.YtklaakhdpfgffabDoorTie
namespace Go.Proofs.YtklaakhdpfgffabDoor
open Go.ChangeShapes Go.WideShapes Go.ChangeAt Go.RowKit
open Go.ChangeMaps (open_string shut_string)
set_option linter.unusedVariables false
set_option maxHeartbeats 4000000 in
theorem FnExactReadSector_walk (a0 : ByteArray) (w0 : a0.size ≤ maxLen) (a1 : Int) (w1 : (Lit.int .i64 a1).wf = true) (A2 : Option Addr) (cap2 : Nat) (l2 : List MarkR) (w : World) (s2 : ArgS w A2 l2.length cap2 3 (l2.flatMap MarkR.cells)) (k2 : ∀ r ∈ l2, r.ok) (a3 : Int) (w3 : (Lit.int .i64 a3).wf = true) (hT : Tab w) :
    Calls Tryd.prog 3 #[.string a0, .int .i64 a1, .slice A2 l2.length cap2, .int .i64 a3] w fun e w' => e = .returned (.bool true) ∧ Below w.heap.size w w' := by
  unfold maxLen at w0
  obtain ⟨n, hn⟩ : ∃ n, l2.length = n := ⟨_, rfl⟩
  rw [hn] at s2 ⊢
  have hm : n ≤ maxLen := Nat.le_trans s2.2.1 s2.2.2.1
  have HN := Hid.in_ hn
  have HS := Hid.in_ s2
  have HT := Hid.in_ hT
  clear s2 k2 hn hT
  by_cases h0 : (1048576 : Int) < a0.size
  · go_enter Tryd.func3, Tryd.ntmps3
    go_wp2
    go_ret
    exact ⟨rfl, Below.refl _ _⟩
  have HZ := Hid.in_ (show a0.size ≤ 1048576 by omega)
  by_cases hd : (1048576 : Int) < n
  · go_enter Tryd.func3, Tryd.ntmps3
    go_wp2_with fail
    refine (laws_szMarkS _ _ hm (by omega) (by omega)).mono ?_
    rintro e w1 ⟨rfl, rfl⟩
    rw [szLeft_neg hd]
    go_wp2
    go_ret
    exact ⟨rfl, Below.refl _ _⟩
  · have hn2 : n ≤ 1048576 := by omega
    have HSP := Hid.in_ (fun (v : Value) (b : Nat) (w : World) h => spec_ReadSector (v := v) (n := n) (b := b) (l := l2) a0 a1 a3 w HZ.out h hn2)
    have HIM := Hid.in_ (fun (v : Value) (b : Nat) (w : World) hT h => impl_ReadSector (v := v) (n := n) (b := b) (l := l2) a0 a1 a3 w hT HZ.out h hn2)
    generalize rsRes a0 a1 l2 a3 = R at *
    generalize askCode a0 a1 l2 a3 = y at *
    obtain ⟨c, h, nn, s, d, t, x, p⟩ := R
    have HSP := Hid.in_ (show ∀ (v : Value) (b : Nat) (w : World), w.ownsRow b 53 3 v n (l2.flatMap MarkR.cells) → Calls Tryd.prog 7 #[.string a0, .int .i64 a1, v, .int .i64 a3] w fun e w' => e = .returned (.tuple #[.agg #[.int .i64 c, .int .i64 h, .int .i64 nn, .int .i64 s, .string d, .int .i64 t, .bool x, .int .i64 p], .int .i64 y]) ∧ Below w.heap.size w w' from HSP.out)
    have HIM := Hid.in_ (show ∀ (v : Value) (b : Nat) (w : World), Tab w → w.ownsRow b 53 3 v n (l2.flatMap MarkR.cells) → Calls Tryd.prog 9 #[.string a0, .int .i64 a1, v, .int .i64 a3] w fun e w' => e = .returned (.tuple #[.agg #[.int .i64 c, .int .i64 h, .int .i64 nn, .int .i64 s, .string d, .int .i64 t, .bool x, .int .i64 p], .int .i64 y]) ∧ Below w.heap.size w w' from HIM.out)
    go_enter Tryd.func3, Tryd.ntmps3
    go_wp2_with fail
    refine (laws_szMarkS _ _ hm (by omega) (by omega)).mono ?_
    rintro e w1 ⟨rfl, rfl⟩
    rw [szLeft_pos (left := 1048576) (n := n) (by omega)]
    go_wp2_with fail
    refine (laws_toMarkS _ HS.out HN.out hn2).mono ?_
    rintro e w2 ⟨v2, rfl, ho2, hb2⟩
    go_wp2_with fail
    refine (HSP.out _ _ _ ho2).mono ?_
    rintro e w3 ⟨rfl, hb3⟩
    have HX3 := Hid.in_ (Box.new w3 [.int .i64 c, .int .i64 h, .int .i64 nn, .int .i64 s, .string d, .int .i64 t, .bool x, .int .i64 p] 25)
    have HB3 := Hid.in_ (balloc (bstep hb2 hb3) (.cells #[.int .i64 c, .int .i64 h, .int .i64 nn, .int .i64 s, .string d, .int .i64 t, .bool x, .int .i64 p] 25))
    have HS3 := Hid.in_ (HS.out.below HB3.out)
    clear hb2 hb3 ho2
    go_wp2_with fail
    refine (laws_toMarkS _ HS3.out HN.out hn2).mono ?_
    rintro e w4 ⟨v4, rfl, ho4, hb4⟩
    have HB4 := Hid.in_ (bstep HB3.out hb4)
    go_wp2_with fail
    refine (HIM.out _ _ _ (Tab.step HB4.out HT.out) ho4).mono ?_
    rintro e w5 ⟨rfl, hb5⟩
    have HB5 := Hid.in_ (balloc (bstep HB4.out hb5) (.cells #[.int .i64 c, .int .i64 h, .int .i64 nn, .int .i64 s, .string d, .int .i64 t, .bool x, .int .i64 p] 25))
    have hal := balloc (Below.refl w5.heap.size w5) (.cells #[.int .i64 c, .int .i64 h, .int .i64 nn, .int .i64 s, .string d, .int .i64 t, .bool x, .int .i64 p] 25)
    have HO4 := Hid.in_ (ostep (bstep hb5 hal) ho4)
    obtain ⟨x0, x1, x2, x3, x4, x5, x6, x7⟩ := boxAt8 (Box.at0 (Box.step hal (Box.step hb5 (Box.step hb4 HX3.out))))
    have HS5 := Hid.in_ (HS.out.below HB5.out)
    clear hb4 hb5 hal ho4
    go_wp2_with fail
    refine (laws_eqFound _ _ _ _ _ _ _ _ _).mono ?_
    rintro e w6 ⟨rfl, hb6⟩
    have HB6 := Hid.in_ (bstep HB5.out hb6)
    have HS6 := Hid.in_ (HS.out.below HB6.out)
    have HO6 := Hid.in_ (ostep hb6 HO4.out)
    clear hb6 x0 x1 x2 x3 x4 x5 x6 x7
    go_wp2_with fail
    refine (laws_toMarkS _ HS6.out HN.out hn2).mono ?_
    rintro e w7 ⟨v7, rfl, ho7, hb7⟩
    go_wp2_with fail
    refine (laws_eqMarkS _ (ostep hb7 HO6.out) ho7).mono ?_
    rintro e w8 ⟨rfl, hb8⟩
    have HB8 := Hid.in_ (bstep (bstep HB6.out hb7) hb8)
    go_wp2
    go_ret
    exact ⟨rfl, HB8.out⟩

set_option maxRecDepth 100000 in
theorem FnExactReadSector_contract (H : Type) (enc : TypeId × Value → H) (W : World) (base : Nat) (args : Array Value) (ds gs : List (DataW H)) (before : List MemPlace)
    (hval : ∀ (j : Nat) t v, Tryd.f3.params[j]? = some t → args[j]? = some v → Value.okWide Tryd.prog W .any base t v)
    (hW : DataW.Whole enc Tryd.prog Tryd.f3.params.toList Rows.fnExactReadSectorSpec.vars false W args.toList ds gs before) (hL : laidMetH Tryd.prog Rows.fnExactReadSectorRow.laid W) :
    Calls Tryd.prog 3 args W fun e W' => ∃ v, e = .returned v ∧ Rows.fnExactReadSectorSpec.post enc Tryd.prog Tryd.f3 false true false false W args v W' := by
  have hW' := hW
  obtain ⟨p, q, hA0, hV, hbe, hfz, hnd⟩ := hW
  have hA : DataW.TrodAll enc Tryd.prog W 0 (fun _ => true) true Tryd.f3.params.toList args.toList ds p := hA0
  rw [Tryd.params3] at hA hval
  obtain ⟨v0, vs0, d0, ds0, p0, q0, hargs, rfl, rfl, h0, r0⟩ := trodAll_cons hA
  obtain ⟨v1, vs1, d1, ds1, p1, q1, rfl, rfl, rfl, h1, r1⟩ := trodAll_cons r0
  obtain ⟨v2, vs2, d2, ds2, p2, q2, rfl, rfl, rfl, h2, r2⟩ := trodAll_cons r1
  obtain ⟨v3, vs3, d3, ds3, p3, q3, rfl, rfl, rfl, h3, r3⟩ := trodAll_cons r2
  obtain ⟨rfl, rfl, rfl⟩ := trodAll_nil r3
  obtain rfl : args = #[v0, v1, v2, v3] := by cases args; simp_all
  obtain ⟨gl, hgl⟩ : ∃ l : List (DataW H), l = gs := ⟨_, rfl⟩
  obtain ⟨g0, hgs⟩ : ∃ g0, gs = [g0] := vars_1 hV
  subst hgs
  obtain ⟨a0, rfl, rfl, rfl, w0⟩ := open_string Tryd.underlying9 (hval 0 9 v0 rfl rfl) h0
  obtain ⟨a1, rfl, rfl, rfl, w1⟩ := open_int Tryd.underlying2 (hval 1 2 v1 rfl rfl) h1
  obtain ⟨A2, cap2, l2, rfl, s2, k2⟩ := slice_MarkR (hval 2 22 v2 rfl rfl) h2
  obtain ⟨a3, rfl, rfl, rfl, w3⟩ := open_int Tryd.underlying2 (hval 3 2 v3 rfl rfl) h3
  clear hA0
  have hT : Tab W := strs_laid (Rows.fnExactReadSectorRow.laid[1]) (g := 0) (by kernel_rfl) (by kernel_rfl) Tryd.underlying65 Tryd.underlying9 (by kernel_rfl) (by kernel_rfl) rfl (List.mem_filter.2 ⟨List.getElem_mem _, by kernel_rfl⟩) hL (by decide)
  refine (FnExactReadSector_walk a0 w0 a1 w1 A2 cap2 l2 W s2 k2 a3 w3 hT).mono fun e W' ⟨he, hb⟩ => ?_
  subst he
  exact ⟨_, rfl, law_post_vars Tryd.laidOut (by kernel_rfl) (by kernel_rfl) rfl Tryd.underlying4 rfl hW' hb⟩

theorem FnExactReadSector_laid (os : Os) : laidMet Tryd.prog Rows.fnExactReadSectorRow.laid ((laidWorld Tryd.prog os Rows.fnExactReadSectorRow.laid).forCall (fun _ _ => 0) ⟨#[], #[.string ByteArray.empty, .int .i64 0, .slice none 0 0, .int .i64 0], []⟩).memory := laidMet_of_run' 8 (by kernel_rfl) (by kernel_rfl)
theorem FnExactReadSector_reads (os : Os) {H : Type} (enc : TypeId × Value → H) : (DataW.whole enc Tryd.prog ((laidWorld Tryd.prog os Rows.fnExactReadSectorRow.laid).forCall (fun _ _ => 0) ⟨#[], #[.string ByteArray.empty, .int .i64 0, .slice none 0 0, .int .i64 0], []⟩).memory Tryd.f3.params.toList Rows.fnExactReadSectorSpec.vars false #[.string ByteArray.empty, .int .i64 0, .slice none 0 0, .int .i64 0].toList 8).isSome = true := by kernel_rfl
set_option maxRecDepth 100000 in
theorem FnExactReadSector_lifted (os : Os) (started : os.Started) (H : Type) (enc : TypeId × Value → H) (F : Stop.Interp) :
    ReturnsInHanded {} Tryd.checked os 3 .any ((OpenSpec.ofChange Rows.fnExactReadSectorSpec).preRow enc Tryd.prog Tryd.f3 Rows.fnExactReadSectorRow.domain false Rows.fnExactReadSectorRow.laid) (((OpenSpec.ofChange Rows.fnExactReadSectorSpec).at F).post enc Tryd.prog Tryd.f3 false true false false) := by
  have hx := (Option.some_get (FnExactReadSector_reads os enc)).symm
  refine returnsInHanded_of_row (C := Tryd.checked) (s := OpenSpec.ofChange Rows.fnExactReadSectorSpec) Tryd.own started (by kernel_rfl) Tryd.func3
    (witness_row_at (enc := enc) (C := Tryd.checked) false (laidWorld Tryd.prog os Rows.fnExactReadSectorRow.laid) #[.string ByteArray.empty, .int .i64 0, .slice none 0 0, .int .i64 0] (laidWorld_os _ _ _) (by kernel_rfl) (by kernel_rfl) (by kernel_rfl)
      (OpenSpec.preRow_of_cond 8 hx rfl (fun k hk => by cases hk) (by kernel_rfl) (FnExactReadSector_laid os))) ?_
  intro W base args ds gs before hval hW _ _ _ hL _ _
  exact FnExactReadSector_contract H enc W base args ds gs before hval hW hL

theorem FnExactReadSector_said : Rows.FnExactReadSectorSaid :=
  OpenClaim.holds_of_cond 3 Tryd.f3 rfl rfl rfl rfl rfl rfl rfl ⟨rfl, rfl, rfl, rfl, rfl⟩ rfl rfl rfl rfl rfl (by kernel_rfl) Tryd.func3 (by kernel_rfl)
    (of_decide_eq_true (by kernel_rfl)) (by unfold Func.isWrapper; first | (rw [if_pos (by decide +kernel)]; kernel_rfl) | (rw [if_neg (by decide +kernel)]; exact ⟨rfl, rfl⟩))
    (fun os started H enc _ F => by rw [OpenClaim.pre_eq_preRow]; exact FnExactReadSector_lifted os started H enc F)
theorem FnExactReadSector_plain (f : FuncId) (fn : Func) (hf : Tryd.pinned.checked.prog.funcNamed Rows.fnExactReadSectorRow.func = some f) (hfn : Tryd.pinned.checked.prog.funcs[f]? = some fn) :
    false = Tryd.pinned.checked.prog.looks [] ∧ ∀ (j : Nat) t, fn.params[j]? = some t → Tryd.pinned.checked.prog.wantsStandIn t = false := by
  obtain rfl : f = 3 := Option.some.inj ((show Tryd.prog.funcNamed Rows.fnExactReadSectorRow.func = some 3 by kernel_rfl).symm.trans hf) |>.symm
  obtain rfl : fn = Tryd.f3 := (Option.some.inj (Tryd.func3.symm.trans hfn)).symm
  exact ⟨by kernel_rfl, fun j t ht => noStandIn (P := Tryd.prog) (fn := Tryd.f3) (by kernel_rfl) j t ht⟩
theorem FnExactReadSector_proved : Rows.FnExactReadSectorCardSaid :=
  Claim7.holds_tied_plain_at .later [] _ _ _ _ FnExactReadSector_said (fun _ h => by cases h) (by kernel_rfl) (fun _ h => by cases h) fnExactReadSector_row_tie rfl ⟨rfl, rfl⟩ (by kernel_rfl) rfl FnExactReadSector_plain (by kernel_rfl)
#print axioms FnExactReadSector_proved
end Go.Proofs.YtklaakhdpfgffabDoor
