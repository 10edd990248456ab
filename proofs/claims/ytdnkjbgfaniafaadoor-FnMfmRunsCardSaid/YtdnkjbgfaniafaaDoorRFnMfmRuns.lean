/- 'FnMfmRuns': for every input the law returns true, and each argument reads behind the call as it read before. No condition. -/
import Derived.Test.YtdnkjbgfaniafaaDoorDoor
import Derived.Test.YtdnkjbgfaniafaaDoorA2B
import Derived.Test.YtdnkjbgfaniafaaDoorCards
import Derived.Test.YtdnkjbgfaniafaaDoorTie
namespace Go.Proofs.YtdnkjbgfaniafaaDoor
open Go.ChangeShapes Go.WideShapes Go.ChangeAt Go.RowKit
open Go.ChangeMaps (open_string shut_string)
set_option linter.unusedVariables false
theorem size_mkB (l : List UInt8) : (⟨l.toArray⟩ : ByteArray).size = l.length := by show l.toArray.size = _; simp
theorem list_ne' {a b : ByteArray} (h : a ≠ b) : (a.toList == b.toList) = false := by
  rw [beq_eq_false_iff_ne]
  intro he
  refine h (ByteArray.ext (Array.toList_inj.1 ?_))
  rw [show a.toList = a.data.toList from by cases a; exact Lib.toList_data _, show b.toList = b.data.toList from by cases b; exact Lib.toList_data _] at he
  exact he
set_option maxHeartbeats 8000000 in
theorem FnMfmRuns_walk (A0 : Option Addr) (cap0 : Nat) (l0 : List UInt8) (w : World) (s0 : ArgS w A0 l0.length cap0 1 (Lib.byteCells l0)) :
    Calls Tryd.prog 4 #[.slice A0 l0.length cap0] w fun e w' => e = .returned (.bool true) ∧ Below w.heap.size w w' := by
  obtain ⟨n, hn⟩ : ∃ n, l0.length = n := ⟨_, rfl⟩
  rw [hn] at s0 ⊢
  have HS0 := Hid.in_ s0
  have HN := Hid.in_ hn
  clear s0 hn
  go_enter Tryd.func4, Tryd.ntmps4
  go_wp2_with fail
  refine (laws_a2Long _).mono ?_
  rintro e w1 ⟨x, rfl, hx, rfl⟩
  cases x
  case true =>
    clear hx
    go_wp2
    go_ret
    exact ⟨rfl, Below.refl _ _⟩
  case false =>
    obtain ⟨hn, _⟩ := hx rfl
    clear hx
    go_wp2_with fail
    refine (spec_A2Data w HS0.out (by omega)).mono ?_
    rintro e w2 ⟨l, rfl, hl, hb2⟩
    have HB2 := Hid.in_ hb2
    have hz := size_mkB l
    have hS40 : (⟨l.toArray⟩ : ByteArray).size ≤ 40 := by omega
    clear hb2 hl hz
    generalize (⟨l.toArray⟩ : ByteArray) = S at *
    go_wp2_with fail
    refine (laws_a2Byte1 (L := 2) _ (HS0.out.below HB2.out) (by omega) (by decide) (by decide)).mono ?_
    rintro e w3 ⟨a, rfl, ha, rfl⟩
    obtain rfl | rfl : a = 0 ∨ a = 1 := by omega
    · have hE := enc_of true false S
      have HEN := Hid.in_ (fun w => impl_EncodeMfm S false w (by omega))
      generalize encS true false S = C at *
      have hCS := hE.size
      have HCF := Hid.in_ (fun w => impl_ClockFaults C false true w (8 * S.size) (by omega) (hE.cells (by omega)))
      rw [hE.noFault _ (Nat.le_refl _)] at HCF
      have HG := Hid.in_ (fun (w : World) => show Calls Tryd.prog 9 #[.string C, .bool false, .bool true] w fun e w' => ∃ A c, e = .returned (.slice A 0 c) ∧ Below w.heap.size w w' from (HCF.out w).mono fun e w' ⟨v, he, ho, hb⟩ => by
        obtain ⟨A, c, rfl, _, _, _⟩ := own_shape ho
        exact ⟨A, c, he, hb⟩)
      have HRU := Hid.in_ (fun (w : World) => impl_RunsOf C w (by omega))
      have HGAP := Hid.in_ (fun r (h : OneGap C r) => gap24 hE h)
      have HNM := Hid.in_ (fun i (h : i + 16 ≤ C.size) => no_mark hE h)
      have HMK := Hid.in_ (fun w => impl_MfmMark w)
      have HMD := Hid.in_ (fun w => impl_DecodeMfm mfmMk w mark_facts.1 (by rw [mark_facts.2.1]))
      have HMC := Hid.in_ (fun (w : World) => show Calls Tryd.prog 9 #[.string mfmMk, .bool false, .bool true] w fun e w' => ∃ A c, e = .returned (.slice A 1 c) ∧ Below w.heap.size w w' from (impl_ClockFaults mfmMk false true w 8 mark_facts.2.1 mark_facts.1).mono fun e w' ⟨v, he, ho, hb⟩ => by
        rw [mark_facts.2.2] at ho
        obtain ⟨A, c, rfl, _, _, _⟩ := own_shape ho
        exact ⟨A, c, he, hb⟩)
      have hMz : mfmMk.size = 16 := mark_facts.2.1
      have hMe : mfmMk.toList.isEmpty = false := by decide +kernel
      generalize bytesS (dataS mfmMk) = X at *
      generalize mfmMk = M at *
      have hC16 : (C.size : Int) = 16 * (S.size : Int) := by omega
      have hw16 : IntKind.i64.wrap (16 * (S.size : Int)) = 16 * (S.size : Int) := IntWalk.i64_in _ (by omega)
      have hC640 : C.size ≤ 640 := by omega
      clear hE hCS HCF
      go_wp2_with fail
      refine (HEN.out _).mono ?_
      rintro e w4 ⟨rfl, hb4⟩
      have HB4 := Hid.in_ (bstep HB2.out hb4)
      clear hb4
      go_wp2_with fail
      refine (HRU.out _).mono ?_
      rintro e w7 ⟨v7, rs, rfl, ho7, hg7, hb7⟩
      have HB7 := Hid.in_ (bstep HB4.out hb7)
      have HR := Hid.in_ (fun r hr => HGAP.out r (hg7 r hr))
      clear hg7 hb7
      obtain ⟨N, hN⟩ : ∃ N, rs.length = N := ⟨_, rfl⟩
      rw [hN] at ho7
      obtain ⟨A7, c7, rfl, _, hNN, hA7⟩ := own_shape ho7
      have HA7 := Hid.in_ hA7
      have HNN := Hid.in_ hN
      clear hA7 hN ho7
      go_wp2_with fail
      go_loopg [7] N (fun m i wr => ∃ k : Nat, k + m = N ∧ i = .int .i64 k ∧ w7 = wr)
      case atStart => exact ⟨0, by omega, rfl, rfl⟩
      case round =>
        obtain ⟨k, hkm, rfl, rfl⟩ := hrel
        have HK := Hid.in_ hkm
        clear hkm
        by_cases hlt : k < N
        · obtain ⟨g, rfl, _, hg, hx, _⟩ := HA7.out (by omega)
          obtain ⟨r, hr⟩ := get_lt rs k (by rw [HNN.out]; exact hlt)
          have c0 := hx k _ (I64_get hr)
          obtain ⟨hr2, hr4⟩ := HR.out r (List.mem_of_getElem? hr)
          have hr2' : ¬ (r < 2) := by omega
          have hr4' : ¬ ((4 : Int) < r) := by omega
          clear hx hr
          go_wp2
          have hk := HK.out
          go_roundg (gk - 1)
          case measure => omega
          case rel => exact ⟨k + 1, by omega, by go_num, rfl⟩
        · have hk := HK.out
          obtain rfl : k = N := by omega
          clear HA7 HR
          go_wp2_with fail
          refine (HMK.out _).mono ?_
          rintro e w8 ⟨rfl, rfl⟩
          go_wp2_with fail
          go_loopg [9] (C.size + 1) (fun m i wr => ∃ k : Nat, k + m = C.size + 1 ∧ i = .int .i64 k ∧ w7 = wr)
          case atStart => exact ⟨0, by omega, rfl, rfl⟩
          case round =>
            obtain ⟨k, hkm, rfl, rfl⟩ := hrel
            obtain ⟨q, hq⟩ : ∃ q, k + 16 = q := ⟨_, rfl⟩
            have q1 : (k : Int) + 16 = (q : Int) := by omega
            have q2 : IntKind.i64.wrap (q : Int) = (q : Int) := IntWalk.i64_in _ (by omega)
            have HK := Hid.in_ hkm
            by_cases hlt : q ≤ C.size
            · have hne := list_ne' (HNM.out k (by omega))
              rw [hq] at hne
              have b1 : (k : Int) ≤ (q : Int) := by omega
              have b2 : (q : Int) ≤ (C.size : Int) := by omega
              clear hq hkm
              go_wp2
              have hk := HK.out
              go_roundg (gk - 1)
              case measure => omega
              case rel => exact ⟨k + 1, by omega, by go_num, rfl⟩
            · have hlt' : ¬ ((q : Int) ≤ (C.size : Int)) := by omega
              clear hq hkm
              go_wp2_with fail
              refine (HMD.out _).mono ?_
              rintro e w9 ⟨rfl, hb9⟩
              have HB9 := Hid.in_ (bstep HB7.out hb9)
              clear hb9
              go_wp2_with fail
              refine (HG.out _).mono ?_
              rintro e w10 ⟨A10, c10, rfl, hb10⟩
              have HB10 := Hid.in_ (bstep HB9.out hb10)
              clear hb10
              go_wp2_with fail
              refine (HMC.out _).mono ?_
              rintro e w11 ⟨A11, c11, rfl, hb11⟩
              have HB11 := Hid.in_ (bstep HB10.out hb11)
              clear hb11
              go_wp2
              go_ret
              exact ⟨rfl, HB11.out⟩
    · have hE := enc_of true true S
      have HEN := Hid.in_ (fun w => impl_EncodeMfm S true w (by omega))
      generalize encS true true S = C at *
      have hCS := hE.size
      have HCF := Hid.in_ (fun w => impl_ClockFaults C true true w (8 * S.size) (by omega) (hE.cells (by omega)))
      rw [hE.noFault _ (Nat.le_refl _)] at HCF
      have HG := Hid.in_ (fun (w : World) => show Calls Tryd.prog 9 #[.string C, .bool true, .bool true] w fun e w' => ∃ A c, e = .returned (.slice A 0 c) ∧ Below w.heap.size w w' from (HCF.out w).mono fun e w' ⟨v, he, ho, hb⟩ => by
        obtain ⟨A, c, rfl, _, _, _⟩ := own_shape ho
        exact ⟨A, c, he, hb⟩)
      have HRU := Hid.in_ (fun (w : World) => impl_RunsOf C w (by omega))
      have HGAP := Hid.in_ (fun r (h : OneGap C r) => gap24 hE h)
      have HNM := Hid.in_ (fun i (h : i + 16 ≤ C.size) => no_mark hE h)
      have HMK := Hid.in_ (fun w => impl_MfmMark w)
      have HMD := Hid.in_ (fun w => impl_DecodeMfm mfmMk w mark_facts.1 (by rw [mark_facts.2.1]))
      have HMC := Hid.in_ (fun (w : World) => show Calls Tryd.prog 9 #[.string mfmMk, .bool true, .bool true] w fun e w' => ∃ A c, e = .returned (.slice A 1 c) ∧ Below w.heap.size w w' from (impl_ClockFaults mfmMk true true w 8 mark_facts.2.1 mark_facts.1).mono fun e w' ⟨v, he, ho, hb⟩ => by
        rw [mark_facts.2.2] at ho
        obtain ⟨A, c, rfl, _, _, _⟩ := own_shape ho
        exact ⟨A, c, he, hb⟩)
      have hMz : mfmMk.size = 16 := mark_facts.2.1
      have hMe : mfmMk.toList.isEmpty = false := by decide +kernel
      generalize bytesS (dataS mfmMk) = X at *
      generalize mfmMk = M at *
      have hC16 : (C.size : Int) = 16 * (S.size : Int) := by omega
      have hw16 : IntKind.i64.wrap (16 * (S.size : Int)) = 16 * (S.size : Int) := IntWalk.i64_in _ (by omega)
      have hC640 : C.size ≤ 640 := by omega
      clear hE hCS HCF
      go_wp2_with fail
      refine (HEN.out _).mono ?_
      rintro e w4 ⟨rfl, hb4⟩
      have HB4 := Hid.in_ (bstep HB2.out hb4)
      clear hb4
      go_wp2_with fail
      refine (HRU.out _).mono ?_
      rintro e w7 ⟨v7, rs, rfl, ho7, hg7, hb7⟩
      have HB7 := Hid.in_ (bstep HB4.out hb7)
      have HR := Hid.in_ (fun r hr => HGAP.out r (hg7 r hr))
      clear hg7 hb7
      obtain ⟨N, hN⟩ : ∃ N, rs.length = N := ⟨_, rfl⟩
      rw [hN] at ho7
      obtain ⟨A7, c7, rfl, _, hNN, hA7⟩ := own_shape ho7
      have HA7 := Hid.in_ hA7
      have HNN := Hid.in_ hN
      clear hA7 hN ho7
      go_wp2_with fail
      go_loopg [7] N (fun m i wr => ∃ k : Nat, k + m = N ∧ i = .int .i64 k ∧ w7 = wr)
      case atStart => exact ⟨0, by omega, rfl, rfl⟩
      case round =>
        obtain ⟨k, hkm, rfl, rfl⟩ := hrel
        have HK := Hid.in_ hkm
        clear hkm
        by_cases hlt : k < N
        · obtain ⟨g, rfl, _, hg, hx, _⟩ := HA7.out (by omega)
          obtain ⟨r, hr⟩ := get_lt rs k (by rw [HNN.out]; exact hlt)
          have c0 := hx k _ (I64_get hr)
          obtain ⟨hr2, hr4⟩ := HR.out r (List.mem_of_getElem? hr)
          have hr2' : ¬ (r < 2) := by omega
          have hr4' : ¬ ((4 : Int) < r) := by omega
          clear hx hr
          go_wp2
          have hk := HK.out
          go_roundg (gk - 1)
          case measure => omega
          case rel => exact ⟨k + 1, by omega, by go_num, rfl⟩
        · have hk := HK.out
          obtain rfl : k = N := by omega
          clear HA7 HR
          go_wp2_with fail
          refine (HMK.out _).mono ?_
          rintro e w8 ⟨rfl, rfl⟩
          go_wp2_with fail
          go_loopg [9] (C.size + 1) (fun m i wr => ∃ k : Nat, k + m = C.size + 1 ∧ i = .int .i64 k ∧ w7 = wr)
          case atStart => exact ⟨0, by omega, rfl, rfl⟩
          case round =>
            obtain ⟨k, hkm, rfl, rfl⟩ := hrel
            obtain ⟨q, hq⟩ : ∃ q, k + 16 = q := ⟨_, rfl⟩
            have q1 : (k : Int) + 16 = (q : Int) := by omega
            have q2 : IntKind.i64.wrap (q : Int) = (q : Int) := IntWalk.i64_in _ (by omega)
            have HK := Hid.in_ hkm
            by_cases hlt : q ≤ C.size
            · have hne := list_ne' (HNM.out k (by omega))
              rw [hq] at hne
              have b1 : (k : Int) ≤ (q : Int) := by omega
              have b2 : (q : Int) ≤ (C.size : Int) := by omega
              clear hq hkm
              go_wp2
              have hk := HK.out
              go_roundg (gk - 1)
              case measure => omega
              case rel => exact ⟨k + 1, by omega, by go_num, rfl⟩
            · have hlt' : ¬ ((q : Int) ≤ (C.size : Int)) := by omega
              clear hq hkm
              go_wp2_with fail
              refine (HMD.out _).mono ?_
              rintro e w9 ⟨rfl, hb9⟩
              have HB9 := Hid.in_ (bstep HB7.out hb9)
              clear hb9
              go_wp2_with fail
              refine (HG.out _).mono ?_
              rintro e w10 ⟨A10, c10, rfl, hb10⟩
              have HB10 := Hid.in_ (bstep HB9.out hb10)
              clear hb10
              go_wp2_with fail
              refine (HMC.out _).mono ?_
              rintro e w11 ⟨A11, c11, rfl, hb11⟩
              have HB11 := Hid.in_ (bstep HB10.out hb11)
              clear hb11
              go_wp2
              go_ret
              exact ⟨rfl, HB11.out⟩

set_option maxRecDepth 100000 in
theorem FnMfmRuns_contract (H : Type) (enc : TypeId × Value → H) (W : World) (base : Nat) (args : Array Value) (ds gs : List (DataW H)) (before : List MemPlace)
    (hval : ∀ (j : Nat) t v, Tryd.f4.params[j]? = some t → args[j]? = some v → Value.okWide Tryd.prog W .any base t v)
    (hW : DataW.Whole enc Tryd.prog Tryd.f4.params.toList Rows.fnMfmRunsSpec.vars false W args.toList ds gs before) (hL : laidMetH Tryd.prog Rows.fnMfmRunsRow.laid W) :
    Calls Tryd.prog 4 args W fun e W' => ∃ v, e = .returned v ∧ Rows.fnMfmRunsSpec.post enc Tryd.prog Tryd.f4 false true false false W args v W' := by
  have hW' := hW
  obtain ⟨p, q, hA0, hV, hbe, hfz, hnd⟩ := hW
  have hA : DataW.TrodAll enc Tryd.prog W 0 (fun _ => true) true Tryd.f4.params.toList args.toList ds p := hA0
  rw [Tryd.params4] at hA hval
  obtain ⟨v0, vs0, d0, ds0, p0, q0, hargs, rfl, rfl, h0, r0⟩ := trodAll_cons hA
  obtain ⟨rfl, rfl, rfl⟩ := trodAll_nil r0
  obtain rfl : args = #[v0] := by cases args; simp_all
  obtain ⟨rfl, _⟩ := trodVars_none hV
  obtain ⟨A0, cap0, l0, rfl, s0⟩ := slice_U8 (hval 0 22 v0 rfl rfl) h0
  clear hA0
  refine (FnMfmRuns_walk A0 cap0 l0 W s0).mono fun e W' ⟨he, hb⟩ => ?_
  subst he
  exact ⟨_, rfl, law_post Tryd.laidOut (by kernel_rfl) rfl Tryd.underlying4 rfl rfl hW' hb⟩

theorem FnMfmRuns_laid (os : Os) : laidMet Tryd.prog Rows.fnMfmRunsRow.laid ((laidWorld Tryd.prog os Rows.fnMfmRunsRow.laid).forCall (fun _ _ => 0) ⟨#[], #[.slice none 0 0], []⟩).memory := laidMet_of_run' 8 (by kernel_rfl) (by kernel_rfl)
theorem FnMfmRuns_reads (os : Os) {H : Type} (enc : TypeId × Value → H) : (DataW.whole enc Tryd.prog ((laidWorld Tryd.prog os Rows.fnMfmRunsRow.laid).forCall (fun _ _ => 0) ⟨#[], #[.slice none 0 0], []⟩).memory Tryd.f4.params.toList Rows.fnMfmRunsSpec.vars false #[.slice none 0 0].toList 8).isSome = true := by kernel_rfl
set_option maxRecDepth 100000 in
theorem FnMfmRuns_lifted (os : Os) (started : os.Started) (H : Type) (enc : TypeId × Value → H) (F : Stop.Interp) :
    ReturnsInHanded {} Tryd.checked os 4 .any ((OpenSpec.ofChange Rows.fnMfmRunsSpec).preRow enc Tryd.prog Tryd.f4 Rows.fnMfmRunsRow.domain false Rows.fnMfmRunsRow.laid) (((OpenSpec.ofChange Rows.fnMfmRunsSpec).at F).post enc Tryd.prog Tryd.f4 false true false false) := by
  have hx := (Option.some_get (FnMfmRuns_reads os enc)).symm
  refine returnsInHanded_of_row (C := Tryd.checked) (s := OpenSpec.ofChange Rows.fnMfmRunsSpec) Tryd.own started (by kernel_rfl) Tryd.func4
    (witness_row_at (enc := enc) (C := Tryd.checked) false (laidWorld Tryd.prog os Rows.fnMfmRunsRow.laid) #[.slice none 0 0] (laidWorld_os _ _ _) (by kernel_rfl) (by kernel_rfl) (by kernel_rfl)
      (OpenSpec.preRow_of_cond 8 hx rfl (fun k hk => by cases hk) (by kernel_rfl) (FnMfmRuns_laid os))) ?_
  intro W base args ds gs before hval hW _ _ _ hL _ _
  exact FnMfmRuns_contract H enc W base args ds gs before hval hW hL

theorem FnMfmRuns_said : Rows.FnMfmRunsSaid :=
  OpenClaim.holds_of_cond 4 Tryd.f4 rfl rfl rfl rfl rfl rfl rfl ⟨rfl, rfl, rfl, rfl, rfl⟩ rfl rfl rfl rfl rfl (by kernel_rfl) Tryd.func4 (by kernel_rfl)
    (of_decide_eq_true (by kernel_rfl)) (by unfold Func.isWrapper; first | (rw [if_pos (by decide +kernel)]; kernel_rfl) | (rw [if_neg (by decide +kernel)]; exact ⟨rfl, rfl⟩))
    (fun os started H enc _ F => by rw [OpenClaim.pre_eq_preRow]; exact FnMfmRuns_lifted os started H enc F)
theorem FnMfmRuns_plain (f : FuncId) (fn : Func) (hf : Tryd.pinned.checked.prog.funcNamed Rows.fnMfmRunsRow.func = some f) (hfn : Tryd.pinned.checked.prog.funcs[f]? = some fn) :
    false = Tryd.pinned.checked.prog.looks [] ∧ ∀ (j : Nat) t, fn.params[j]? = some t → Tryd.pinned.checked.prog.wantsStandIn t = false := by
  obtain rfl : f = 4 := Option.some.inj ((show Tryd.prog.funcNamed Rows.fnMfmRunsRow.func = some 4 by kernel_rfl).symm.trans hf) |>.symm
  obtain rfl : fn = Tryd.f4 := (Option.some.inj (Tryd.func4.symm.trans hfn)).symm
  exact ⟨by kernel_rfl, fun j t ht => noStandIn (P := Tryd.prog) (fn := Tryd.f4) (by kernel_rfl) j t ht⟩
theorem FnMfmRuns_proved : Rows.FnMfmRunsCardSaid :=
  Claim7.holds_tied_plain_at .later [] _ _ _ _ FnMfmRuns_said (fun _ h => by cases h) (by kernel_rfl) (fun _ h => by cases h) fnMfmRuns_row_tie rfl ⟨rfl, rfl⟩ (by kernel_rfl) rfl FnMfmRuns_plain (by kernel_rfl)
#print axioms FnMfmRuns_proved
end Go.Proofs.YtdnkjbgfaniafaaDoor
