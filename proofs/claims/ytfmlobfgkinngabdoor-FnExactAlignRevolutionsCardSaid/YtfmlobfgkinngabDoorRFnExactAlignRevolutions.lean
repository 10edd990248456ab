/- 'FnExactAlignRevolutions': for every input the law returns true, and each argument reads behind the call as it read before. No condition. -/
import Derived.Test.YtfmlobfgkinngabDoorDoor
import Derived.Test.YtfmlobfgkinngabDoorAlign
import Derived.Test.YtfmlobfgkinngabDoorMarkT
import Derived.Test.YtfmlobfgkinngabDoorCards
import Derived.Test.YtfmlobfgkinngabDoorTie
namespace Go.Proofs.YtfmlobfgkinngabDoor
open Go.ChangeShapes Go.WideShapes Go.ChangeAt Go.RowKit
open Go.ChangeMaps (open_string shut_string)
set_option linter.unusedVariables false
theorem own_apart_r {w1 w2 : World} {b1 b2 : Nat} {e1 e2 : TypeId} {s1 s2 n1 n2 : Nat} {v1 v2 : Value} {xs1 xs2 : List Value} (h1 : w1.ownsRow b1 e1 s1 v1 n1 xs1) (h2 : w2.ownsRow b2 e2 s2 v2 n2 xs2) (hb : w1.heap.size ≤ b2) :
    v2.ownBlock = none ∨ v2.ownBlock ≠ v1.ownBlock := by
  cases h : v2.ownBlock with
  | none => exact .inl rfl
  | some g =>
    refine .inr fun he => ?_
    have := (h2.lt g h).1
    have := (h1.lt g he.symm).2
    omega
set_option maxHeartbeats 2000000 in
theorem FnExactAlignRevolutions_walk (A0 : Option Addr) (cap0 : Nat) (l0 : List ByteArray) (w : World) (s0 : ArgS w A0 l0.length cap0 1 (Strs l0)) (k0 : ∀ r ∈ l0, r.size ≤ maxLen) (a1 : Int) (w1 : (Lit.int .i64 a1).wf = true) :
    Calls Tryd.prog 5 #[.slice A0 l0.length cap0, .int .i64 a1] w fun e w' => e = .returned (.bool true) ∧ Below w.heap.size w w' := by
  obtain ⟨n, hn⟩ : ∃ n, l0.length = n := ⟨_, rfl⟩
  rw [hn] at s0 ⊢
  have HN := Hid.in_ hn
  have HS := Hid.in_ s0
  have HK := Hid.in_ k0
  have hle := alignV_len l0 a1
  rw [hn] at hle
  have hne : ¬ ((1 : Int) + ((alignV l0 a1).length : Int) < 0) := by omega
  clear w1
  have hne2 : ¬ ((1 : Int) + (n : Int) < 0) := by omega
  clear s0 k0 hn
  go_enter Tryd.func5, Tryd.ntmps5
  go_wp2_with fail
  refine (laws_szStringS _ _ HS.out HN.out HK.out (by omega) (by omega)).mono ?_
  rintro e w1 ⟨rfl | ⟨r, rfl, hr0, hr1, hr2⟩, hb1⟩
  · go_wp2
    go_ret
    exact ⟨rfl, hb1⟩
  have HZ := Hid.in_ (show ∀ s ∈ l0, s.size ≤ 9223372036854775807 from fun s hs => by have := hr2 s hs; omega)
  have hn2 : n ≤ 1048576 := by omega
  have HS1 := Hid.in_ (HS.out.below hb1)
  go_wp2_with fail
  refine (laws_toStringS _ HS1.out HN.out hn2).mono ?_
  rintro e w2 ⟨v2, rfl, ho2, hb2⟩
  have hB2 := bstep hb1 hb2
  go_wp2_with fail
  refine (spec_AlignRevolutions _ _ ho2 HZ.out hn2).mono ?_
  rintro e w3 ⟨v3, rfl, ho3, hb3⟩
  have hB3 := bstep hB2 hb3
  have HS3 := Hid.in_ (HS.out.below hB3)
  go_wp2_with fail
  refine (laws_toStringS _ HS3.out HN.out hn2).mono ?_
  rintro e w4 ⟨v4, rfl, ho4, hb4⟩
  have hB4 := bstep hB3 hb4
  go_wp2_with fail
  refine (impl_AlignRevolutions _ _ ho4 HZ.out hn2).mono ?_
  rintro e w5 ⟨v5, rfl, ho5, hb5⟩
  have hB5 := bstep hB4 hb5
  go_wp2_with fail
  refine (laws_eqStringS _ ho5 (ostep hb5 (ostep hb4 ho3))).mono ?_
  rintro e w6 ⟨rfl, hb6⟩
  have hB6 := bstep hB5 hb6
  have HS6 := Hid.in_ (HS.out.below hB6)
  go_wp2_with fail
  refine (laws_toStringS _ HS6.out HN.out hn2).mono ?_
  rintro e w7 ⟨v7, rfl, ho7, hb7⟩
  have hB7 := bstep hB6 hb7
  go_wp2_with fail
  refine (laws_eqStringS _ (ostep hb7 (ostep hb6 (ostep hb5 ho4))) ho7).mono ?_
  rintro e w8 ⟨rfl, hb8⟩
  have hB8 := bstep hB7 hb8
  have x8 := ostep hb8 (ostep hb7 (ostep hb6 (ostep hb5 ho4)))
  have p8 := ostep hb8 (ostep hb7 (ostep hb6 (ostep hb5 (ostep hb4 ho3))))
  have q8 := ostep hb8 (ostep hb7 (ostep hb6 ho5))
  go_wp2_with fail
  refine (laws_markStringS 1 _ x8 (by omega) (by omega) hn2).mono ?_
  rintro e w9 ⟨rfl, ho9, hg9⟩
  have hB9 := bgrown hB8 x8 hB3.size hg9
  have p9 := p8.kept hg9 (own_apart ho3 ho4 (Nat.le_refl _))
  have q9 := q8.kept hg9 (own_apart_r ho4 ho5 (Nat.le_refl _))
  clear x8 p8 q8
  go_wp2_with fail
  refine (laws_eqStringS _ q9 p9).mono ?_
  rintro e w10 ⟨rfl, hb10⟩
  have hB10 := bstep hB9 hb10
  have p10 := ostep hb10 p9
  have q10 := ostep hb10 q9
  clear p9 q9
  go_wp2_with fail
  refine (laws_markStringS 1 _ q10 (by omega) (by omega) (by omega)).mono ?_
  rintro e w11 ⟨rfl, ho11, hg11⟩
  have hB11 := bgrown hB10 q10 hB4.size hg11
  have p11 := p10.kept hg11 (own_apart ho3 ho5 hb4.size)
  go_wp2_with fail
  refine (laws_heldStringS 1 _ ho11 (by omega) (by omega) (by omega)).mono ?_
  rintro e w12 ⟨rfl, hb12⟩
  have hB12 := bstep hB11 hb12
  have HS12 := Hid.in_ (HS.out.below hB12)
  go_wp2_with fail
  refine (laws_toStringS _ HS12.out HN.out hn2).mono ?_
  rintro e w13 ⟨v13, rfl, ho13, hb13⟩
  have hB13 := bstep hB12 hb13
  go_wp2_with fail
  refine (impl_AlignRevolutions _ _ ho13 HZ.out hn2).mono ?_
  rintro e w14 ⟨v14, rfl, ho14, hb14⟩
  have hB14 := bstep hB13 hb14
  go_wp2_with fail
  refine (laws_eqStringS _ ho14 (ostep hb14 (ostep hb13 (ostep hb12 p11)))).mono ?_
  rintro e w15 ⟨rfl, hb15⟩
  have hB15 := bstep hB14 hb15
  go_wp2_with fail
  refine (laws_heldStringS 1 _ (ostep hb15 (ostep hb14 (ostep hb13 (ostep hb12 ho11)))) (by omega) (by omega) (by omega)).mono ?_
  rintro e w16 ⟨rfl, hb16⟩
  have hB16 := bstep hB15 hb16
  go_wp2
  go_ret
  exact ⟨rfl, hB16⟩

set_option maxRecDepth 100000 in
theorem FnExactAlignRevolutions_contract (H : Type) (enc : TypeId × Value → H) (W : World) (base : Nat) (args : Array Value) (ds gs : List (DataW H)) (before : List MemPlace)
    (hval : ∀ (j : Nat) t v, Tryd.f5.params[j]? = some t → args[j]? = some v → Value.okWide Tryd.prog W .any base t v)
    (hW : DataW.Whole enc Tryd.prog Tryd.f5.params.toList Rows.fnExactAlignRevolutionsSpec.vars false W args.toList ds gs before) (hL : laidMetH Tryd.prog Rows.fnExactAlignRevolutionsRow.laid W) :
    Calls Tryd.prog 5 args W fun e W' => ∃ v, e = .returned v ∧ Rows.fnExactAlignRevolutionsSpec.post enc Tryd.prog Tryd.f5 false true false false W args v W' := by
  have hW' := hW
  obtain ⟨p, q, hA0, hV, hbe, hfz, hnd⟩ := hW
  have hA : DataW.TrodAll enc Tryd.prog W 0 (fun _ => true) true Tryd.f5.params.toList args.toList ds p := hA0
  rw [Tryd.params5] at hA hval
  obtain ⟨v0, vs0, d0, ds0, p0, q0, hargs, rfl, rfl, h0, r0⟩ := trodAll_cons hA
  obtain ⟨v1, vs1, d1, ds1, p1, q1, rfl, rfl, rfl, h1, r1⟩ := trodAll_cons r0
  obtain ⟨rfl, rfl, rfl⟩ := trodAll_nil r1
  obtain rfl : args = #[v0, v1] := by cases args; simp_all
  obtain ⟨rfl, _⟩ := trodVars_none hV
  obtain ⟨A0, cap0, l0, rfl, s0, k0⟩ := slice_Strs (hval 0 30 v0 rfl rfl) h0
  obtain ⟨a1, rfl, rfl, rfl, w1⟩ := open_int Tryd.underlying2 (hval 1 2 v1 rfl rfl) h1
  clear hA0
  refine (FnExactAlignRevolutions_walk A0 cap0 l0 W s0 k0 a1 w1).mono fun e W' ⟨he, hb⟩ => ?_
  subst he
  exact ⟨_, rfl, law_post Tryd.laidOut (by kernel_rfl) rfl Tryd.underlying4 rfl rfl hW' hb⟩

theorem FnExactAlignRevolutions_laid (os : Os) : laidMet Tryd.prog Rows.fnExactAlignRevolutionsRow.laid ((laidWorld Tryd.prog os Rows.fnExactAlignRevolutionsRow.laid).forCall (fun _ _ => 0) ⟨#[], #[.slice none 0 0, .int .i64 0], []⟩).memory := laidMet_of_run' 8 (by kernel_rfl) (by kernel_rfl)
theorem FnExactAlignRevolutions_reads (os : Os) {H : Type} (enc : TypeId × Value → H) : (DataW.whole enc Tryd.prog ((laidWorld Tryd.prog os Rows.fnExactAlignRevolutionsRow.laid).forCall (fun _ _ => 0) ⟨#[], #[.slice none 0 0, .int .i64 0], []⟩).memory Tryd.f5.params.toList Rows.fnExactAlignRevolutionsSpec.vars false #[.slice none 0 0, .int .i64 0].toList 8).isSome = true := by kernel_rfl
set_option maxRecDepth 100000 in
theorem FnExactAlignRevolutions_lifted (os : Os) (started : os.Started) (H : Type) (enc : TypeId × Value → H) (F : Stop.Interp) :
    ReturnsInHanded {} Tryd.checked os 5 .any ((OpenSpec.ofChange Rows.fnExactAlignRevolutionsSpec).preRow enc Tryd.prog Tryd.f5 Rows.fnExactAlignRevolutionsRow.domain false Rows.fnExactAlignRevolutionsRow.laid) (((OpenSpec.ofChange Rows.fnExactAlignRevolutionsSpec).at F).post enc Tryd.prog Tryd.f5 false true false false) := by
  have hx := (Option.some_get (FnExactAlignRevolutions_reads os enc)).symm
  refine returnsInHanded_of_row (C := Tryd.checked) (s := OpenSpec.ofChange Rows.fnExactAlignRevolutionsSpec) Tryd.own started (by kernel_rfl) Tryd.func5
    (witness_row_at (enc := enc) (C := Tryd.checked) false (laidWorld Tryd.prog os Rows.fnExactAlignRevolutionsRow.laid) #[.slice none 0 0, .int .i64 0] (laidWorld_os _ _ _) (by kernel_rfl) (by kernel_rfl) (by kernel_rfl)
      (OpenSpec.preRow_of_cond 8 hx rfl (fun k hk => by cases hk) (by kernel_rfl) (FnExactAlignRevolutions_laid os))) ?_
  intro W base args ds gs before hval hW _ _ _ hL _ _
  exact FnExactAlignRevolutions_contract H enc W base args ds gs before hval hW hL

theorem FnExactAlignRevolutions_said : Rows.FnExactAlignRevolutionsSaid :=
  OpenClaim.holds_of_cond 5 Tryd.f5 rfl rfl rfl rfl rfl rfl rfl ⟨rfl, rfl, rfl, rfl, rfl⟩ rfl rfl rfl rfl rfl (by kernel_rfl) Tryd.func5 (by kernel_rfl)
    (of_decide_eq_true (by kernel_rfl)) (by unfold Func.isWrapper; first | (rw [if_pos (by decide +kernel)]; kernel_rfl) | (rw [if_neg (by decide +kernel)]; exact ⟨rfl, rfl⟩))
    (fun os started H enc _ F => by rw [OpenClaim.pre_eq_preRow]; exact FnExactAlignRevolutions_lifted os started H enc F)
theorem FnExactAlignRevolutions_plain (f : FuncId) (fn : Func) (hf : Tryd.pinned.checked.prog.funcNamed Rows.fnExactAlignRevolutionsRow.func = some f) (hfn : Tryd.pinned.checked.prog.funcs[f]? = some fn) :
    false = Tryd.pinned.checked.prog.looks [] ∧ ∀ (j : Nat) t, fn.params[j]? = some t → Tryd.pinned.checked.prog.wantsStandIn t = false := by
  obtain rfl : f = 5 := Option.some.inj ((show Tryd.prog.funcNamed Rows.fnExactAlignRevolutionsRow.func = some 5 by kernel_rfl).symm.trans hf) |>.symm
  obtain rfl : fn = Tryd.f5 := (Option.some.inj (Tryd.func5.symm.trans hfn)).symm
  exact ⟨by kernel_rfl, fun j t ht => noStandIn (P := Tryd.prog) (fn := Tryd.f5) (by kernel_rfl) j t ht⟩
theorem FnExactAlignRevolutions_proved : Rows.FnExactAlignRevolutionsCardSaid :=
  Claim7.holds_tied_plain_at .later [] _ _ _ _ FnExactAlignRevolutions_said (fun _ h => by cases h) (by kernel_rfl) (fun _ h => by cases h) fnExactAlignRevolutions_row_tie rfl ⟨rfl, rfl⟩ (by kernel_rfl) rfl FnExactAlignRevolutions_plain (by kernel_rfl)
#print axioms FnExactAlignRevolutions_proved
end Go.Proofs.YtfmlobfgkinngabDoor
