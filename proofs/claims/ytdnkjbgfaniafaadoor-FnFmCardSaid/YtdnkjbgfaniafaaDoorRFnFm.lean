/- 'FnFm': for every input the law returns true, and each argument reads behind the call as it read before. No condition. -/
import Derived.Test.YtdnkjbgfaniafaaDoorDoor
import Derived.Test.YtdnkjbgfaniafaaDoorArgB
import Derived.Test.YtdnkjbgfaniafaaDoorFmW
import Derived.Test.YtdnkjbgfaniafaaDoorCards
import Derived.Test.YtdnkjbgfaniafaaDoorTie
namespace Go.Proofs.YtdnkjbgfaniafaaDoor
open Go.ChangeShapes Go.WideShapes Go.ChangeAt Go.RowKit
open Go.ChangeMaps (open_string shut_string)
set_option linter.unusedVariables false
theorem size_mkB (l : List UInt8) : (⟨l.toArray⟩ : ByteArray).size = l.length := by show l.toArray.size = _; simp
set_option maxHeartbeats 4000000 in
theorem FnFm_walk (A0 : Option Addr) (cap0 : Nat) (l0 : List UInt8) (w : World) (s0 : ArgS w A0 l0.length cap0 1 (Lib.byteCells l0)) (A1 : Option Addr) (cap1 : Nat) (l1 : List UInt8) (s1 : ArgS w A1 l1.length cap1 1 (Lib.byteCells l1)) :
    Calls Tryd.prog 3 #[.slice A0 l0.length cap0, .slice A1 l1.length cap1] w fun e w' => e = .returned (.bool true) ∧ Below w.heap.size w w' := by
  obtain ⟨n, hn⟩ : ∃ n, l0.length = n := ⟨_, rfl⟩
  obtain ⟨m, hm⟩ : ∃ m, l1.length = m := ⟨_, rfl⟩
  rw [hn] at s0 ⊢
  rw [hm] at s1 ⊢
  have HS0 := Hid.in_ s0
  have HS1 := Hid.in_ s1
  have HN := Hid.in_ (And.intro hn hm)
  clear s0 s1 hn hm
  go_enter Tryd.func3, Tryd.ntmps3
  go_wp2_with fail
  refine (laws_a2Long _).mono ?_
  rintro e w1 ⟨x, rfl, hx, rfl⟩
  cases x
  case true =>
    clear hx
    go_wp2
    go_ret
    exact ⟨rfl, Below.refl _ _⟩
  case false =>
    obtain ⟨hn, hm⟩ := hx rfl
    clear hx
    go_wp2_with fail
    refine (spec_A2Data w HS0.out (by omega)).mono ?_
    rintro e w2 ⟨l, rfl, hl, hb2⟩
    have HB2 := Hid.in_ hb2
    have hz := size_mkB l
    have hS40 : (⟨l.toArray⟩ : ByteArray).size ≤ 40 := by omega
    clear hb2 hl hz
    generalize (⟨l.toArray⟩ : ByteArray) = S at *
    have hE := enc_of false false S
    have HEN := Hid.in_ (fun w => impl_EncodeFm S w (by omega))
    generalize encS false false S = C at *
    have hCS := hE.size
    have HD := Hid.in_ (fun w => impl_DecodeFm C w (hE.cells (by omega)) (by omega))
    have HCF := Hid.in_ (fun w => impl_ClockFaults C false false w (8 * S.size) (by omega) (hE.cells (by omega)))
    rw [hE.back] at HD
    rw [hE.noFault _ (Nat.le_refl _)] at HCF
    have HG := Hid.in_ (fun (w : World) => show Calls Tryd.prog 9 #[.string C, .bool false, .bool false] w fun e w' => ∃ A c, e = .returned (.slice A 0 c) ∧ Below w.heap.size w w' from (HCF.out w).mono fun e w' ⟨v, he, ho, hb⟩ => by
      obtain ⟨A, c, rfl, _, _, _⟩ := own_shape ho
      exact ⟨A, c, he, hb⟩)
    have hC16 : (C.size : Int) = 16 * (S.size : Int) := by omega
    have hw16 : IntKind.i64.wrap (16 * (S.size : Int)) = 16 * (S.size : Int) := IntWalk.i64_in _ (by omega)
    clear hE hCS HCF
    go_wp2_with fail
    refine (HEN.out _).mono ?_
    rintro e w3 ⟨rfl, hb3⟩
    have HB3 := Hid.in_ (bstep HB2.out hb3)
    clear hb3
    go_wp2_with fail
    refine (HD.out _).mono ?_
    rintro e w4 ⟨rfl, hb4⟩
    have HB4 := Hid.in_ (bstep HB3.out hb4)
    clear hb4
    go_wp2_with fail
    refine (HG.out _).mono ?_
    rintro e w5 ⟨A5, c5, rfl, hb5⟩
    have HB5 := Hid.in_ (bstep HB4.out hb5)
    clear hb5
    go_wp2_with fail
    refine (laws_a2Byte (L := 256) _ (HS1.out.below HB5.out) (by omega) (by decide) (by decide)).mono ?_
    rintro e w6 ⟨b, rfl, hb, rfl⟩
    have hb255 : b ≤ 255 := by omega
    have hM := fm_mk hb255
    have HM := Hid.in_ (fun w => impl_FmMark b w hb255)
    have HMO := Hid.in_ (fun w => impl_FmMarkOf_yes (fmMarkS b) b w hb255 hM.cells (by rw [hM.size]) hM.data rfl)
    have hE1 := enc_of false false (oneB b)
    have HPO := Hid.in_ (fun w => impl_FmMarkOf_no (encS false false (oneB b)) b w hb255 (hE1.cells (by rw [oneB_size]; decide)) (by rw [hE1.size]; omega) hE1.back hM.plain)
    have HE1 := Hid.in_ (fun w => impl_EncodeFm (oneB b) w (by rw [oneB_size]; decide))
    have HCM := Hid.in_ (fun w => impl_ClockFaults (fmMarkS b) false false w 8 hM.size hM.cells)
    rw [hM.faults] at HCM
    have hcv := fun w => conv_byte (b := b) w hb255
    clear hM hE1
    generalize fmMarkS b = M at *
    generalize encS false false (oneB b) = P at *
    generalize oneB b = Q at *
    go_wp2_with fail
    refine (HM.out _).mono ?_
    rintro e w7 ⟨rfl, hb7⟩
    have HB7 := Hid.in_ (bstep HB5.out hb7)
    clear hb7
    go_wp2_with fail
    refine (HMO.out _).mono ?_
    rintro e w8 ⟨rfl, hb8⟩
    have HB8 := Hid.in_ (bstep HB7.out hb8)
    have hcv8 := hcv w8
    clear hb8 hcv
    go_wp2_with fail
    refine (HE1.out _).mono ?_
    rintro e w9 ⟨rfl, hb9⟩
    have HB9 := Hid.in_ (bstep (balloc HB8.out _) hb9)
    clear hb9
    go_wp2_with fail
    refine (HPO.out _).mono ?_
    rintro e w10 ⟨rfl, hb10⟩
    have HB10 := Hid.in_ (bstep HB9.out hb10)
    clear hb10
    go_wp2_with fail
    refine (HCM.out _).mono ?_
    rintro e w11 ⟨v, rfl, ho, hb11⟩
    have HB11 := Hid.in_ (bstep HB10.out hb11)
    obtain ⟨A, c, rfl, _, _, hA⟩ := own_shape ho
    obtain ⟨g, rfl, _, hgl, hx, _⟩ := hA (by decide)
    have HX := Hid.in_ hx
    clear hb11 ho hA hx
    go_wp2_with fail
    refine (laws_a2Same g w11.heap.size c 3 3 _ [4, 6, 8] rfl (by omega) ?_ ?_).mono ?_
    · intro j u hu
      exact cstep (balloc (Below.refl _ _) _) (HX.out j u hu)
    · intro j u hu
      exact Box.new w11 [.int .i64 4, .int .i64 6, .int .i64 8] _ j u hu
    rintro e w12 ⟨rfl, hb12⟩
    go_wp2
    go_ret
    exact ⟨rfl, bstep (balloc HB11.out _) hb12⟩

set_option maxRecDepth 100000 in
theorem FnFm_contract (H : Type) (enc : TypeId × Value → H) (W : World) (base : Nat) (args : Array Value) (ds gs : List (DataW H)) (before : List MemPlace)
    (hval : ∀ (j : Nat) t v, Tryd.f3.params[j]? = some t → args[j]? = some v → Value.okWide Tryd.prog W .any base t v)
    (hW : DataW.Whole enc Tryd.prog Tryd.f3.params.toList Rows.fnFmSpec.vars false W args.toList ds gs before) (hL : laidMetH Tryd.prog Rows.fnFmRow.laid W) :
    Calls Tryd.prog 3 args W fun e W' => ∃ v, e = .returned v ∧ Rows.fnFmSpec.post enc Tryd.prog Tryd.f3 false true false false W args v W' := by
  have hW' := hW
  obtain ⟨p, q, hA0, hV, hbe, hfz, hnd⟩ := hW
  have hA : DataW.TrodAll enc Tryd.prog W 0 (fun _ => true) true Tryd.f3.params.toList args.toList ds p := hA0
  rw [Tryd.params3] at hA hval
  obtain ⟨v0, vs0, d0, ds0, p0, q0, hargs, rfl, rfl, h0, r0⟩ := trodAll_cons hA
  obtain ⟨v1, vs1, d1, ds1, p1, q1, rfl, rfl, rfl, h1, r1⟩ := trodAll_cons r0
  obtain ⟨rfl, rfl, rfl⟩ := trodAll_nil r1
  obtain rfl : args = #[v0, v1] := by cases args; simp_all
  obtain ⟨rfl, _⟩ := trodVars_none hV
  obtain ⟨A0, cap0, l0, rfl, s0⟩ := slice_U8 (hval 0 22 v0 rfl rfl) h0
  obtain ⟨A1, cap1, l1, rfl, s1⟩ := slice_U8 (hval 1 22 v1 rfl rfl) h1
  clear hA0
  refine (FnFm_walk A0 cap0 l0 W s0 A1 cap1 l1 s1).mono fun e W' ⟨he, hb⟩ => ?_
  subst he
  exact ⟨_, rfl, law_post Tryd.laidOut (by kernel_rfl) rfl Tryd.underlying4 rfl rfl hW' hb⟩

theorem FnFm_laid (os : Os) : laidMet Tryd.prog Rows.fnFmRow.laid ((laidWorld Tryd.prog os Rows.fnFmRow.laid).forCall (fun _ _ => 0) ⟨#[], #[.slice none 0 0, .slice none 0 0], []⟩).memory := laidMet_of_run' 8 (by kernel_rfl) (by kernel_rfl)
theorem FnFm_reads (os : Os) {H : Type} (enc : TypeId × Value → H) : (DataW.whole enc Tryd.prog ((laidWorld Tryd.prog os Rows.fnFmRow.laid).forCall (fun _ _ => 0) ⟨#[], #[.slice none 0 0, .slice none 0 0], []⟩).memory Tryd.f3.params.toList Rows.fnFmSpec.vars false #[.slice none 0 0, .slice none 0 0].toList 8).isSome = true := by kernel_rfl
set_option maxRecDepth 100000 in
theorem FnFm_lifted (os : Os) (started : os.Started) (H : Type) (enc : TypeId × Value → H) (F : Stop.Interp) :
    ReturnsInHanded {} Tryd.checked os 3 .any ((OpenSpec.ofChange Rows.fnFmSpec).preRow enc Tryd.prog Tryd.f3 Rows.fnFmRow.domain false Rows.fnFmRow.laid) (((OpenSpec.ofChange Rows.fnFmSpec).at F).post enc Tryd.prog Tryd.f3 false true false false) := by
  have hx := (Option.some_get (FnFm_reads os enc)).symm
  refine returnsInHanded_of_row (C := Tryd.checked) (s := OpenSpec.ofChange Rows.fnFmSpec) Tryd.own started (by kernel_rfl) Tryd.func3
    (witness_row_at (enc := enc) (C := Tryd.checked) false (laidWorld Tryd.prog os Rows.fnFmRow.laid) #[.slice none 0 0, .slice none 0 0] (laidWorld_os _ _ _) (by kernel_rfl) (by kernel_rfl) (by kernel_rfl)
      (OpenSpec.preRow_of_cond 8 hx rfl (fun k hk => by cases hk) (by kernel_rfl) (FnFm_laid os))) ?_
  intro W base args ds gs before hval hW _ _ _ hL _ _
  exact FnFm_contract H enc W base args ds gs before hval hW hL

theorem FnFm_said : Rows.FnFmSaid :=
  OpenClaim.holds_of_cond 3 Tryd.f3 rfl rfl rfl rfl rfl rfl rfl ⟨rfl, rfl, rfl, rfl, rfl⟩ rfl rfl rfl rfl rfl (by kernel_rfl) Tryd.func3 (by kernel_rfl)
    (of_decide_eq_true (by kernel_rfl)) (by unfold Func.isWrapper; first | (rw [if_pos (by decide +kernel)]; kernel_rfl) | (rw [if_neg (by decide +kernel)]; exact ⟨rfl, rfl⟩))
    (fun os started H enc _ F => by rw [OpenClaim.pre_eq_preRow]; exact FnFm_lifted os started H enc F)
theorem FnFm_plain (f : FuncId) (fn : Func) (hf : Tryd.pinned.checked.prog.funcNamed Rows.fnFmRow.func = some f) (hfn : Tryd.pinned.checked.prog.funcs[f]? = some fn) :
    false = Tryd.pinned.checked.prog.looks [] ∧ ∀ (j : Nat) t, fn.params[j]? = some t → Tryd.pinned.checked.prog.wantsStandIn t = false := by
  obtain rfl : f = 3 := Option.some.inj ((show Tryd.prog.funcNamed Rows.fnFmRow.func = some 3 by kernel_rfl).symm.trans hf) |>.symm
  obtain rfl : fn = Tryd.f3 := (Option.some.inj (Tryd.func3.symm.trans hfn)).symm
  exact ⟨by kernel_rfl, fun j t ht => noStandIn (P := Tryd.prog) (fn := Tryd.f3) (by kernel_rfl) j t ht⟩
theorem FnFm_proved : Rows.FnFmCardSaid :=
  Claim7.holds_tied_plain_at .later [] _ _ _ _ FnFm_said (fun _ h => by cases h) (by kernel_rfl) (fun _ h => by cases h) fnFm_row_tie rfl ⟨rfl, rfl⟩ (by kernel_rfl) rfl FnFm_plain (by kernel_rfl)
#print axioms FnFm_proved
end Go.Proofs.YtdnkjbgfaniafaaDoor
