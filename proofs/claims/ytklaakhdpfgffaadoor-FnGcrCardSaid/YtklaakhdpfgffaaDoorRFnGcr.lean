/- 'FnGcr': for every input the law returns true, and each argument reads behind the call as it read before. No condition. -/
import Derived.Test.YtklaakhdpfgffaaDoorDoor
import Derived.Test.YtklaakhdpfgffaaDoorArgB
import Derived.Test.YtklaakhdpfgffaaDoorGcrP
import Derived.Test.YtklaakhdpfgffaaDoorCards
import Derived.Test.YtklaakhdpfgffaaDoorTie
namespace Go.Proofs.YtklaakhdpfgffaaDoor
open Go.ChangeShapes Go.WideShapes Go.ChangeAt Go.RowKit
open Go.ChangeMaps (open_string shut_string)
set_option linter.unusedVariables false
theorem size_mkB (l : List UInt8) : (⟨l.toArray⟩ : ByteArray).size = l.length := by show l.toArray.size = _; simp
set_option maxHeartbeats 4000000 in
theorem FnGcr_walk (A0 : Option Addr) (cap0 : Nat) (l0 : List UInt8) (w : World) (s0 : ArgS w A0 l0.length cap0 1 (Lib.byteCells l0)) (hT : Tab w) :
    Calls Tryd.prog 7 #[.slice A0 l0.length cap0] w fun e w' => e = .returned (.bool true) ∧ Below w.heap.size w w' := by
  obtain ⟨n, hn⟩ : ∃ n, l0.length = n := ⟨_, rfl⟩
  rw [hn] at s0 ⊢
  have HS0 := Hid.in_ s0
  have HT := Hid.in_ hT
  have HN := Hid.in_ hn
  clear s0 hT hn
  go_enter Tryd.func7, Tryd.ntmps7
  go_wp2_with fail
  refine (laws_a2Long _).mono ?_
  rintro e w1 ⟨x, rfl, hx, rfl⟩
  cases x
  case true =>
    clear hx
    go_wp2
    go_ret
    exact ⟨rfl, Below.refl _ _⟩
  case false =>
    obtain ⟨hn, _⟩ := hx rfl
    clear hx
    go_wp2_with fail
    refine (spec_A2Data w HS0.out (by omega)).mono ?_
    rintro e w2 ⟨l, rfl, hl, hb2⟩
    have HL := Hid.in_ hl
    have HB2 := Hid.in_ hb2
    have hz := size_mkB l
    have HE := Hid.in_ (show Calls Tryd.prog 28 #[.string ⟨l.toArray⟩] w2 fun e w' => e = .returned (.tuple #[.string (encode ⟨l.toArray⟩), .bool true]) ∧ Below w2.heap.size w2 w' from by
      have h := impl_EncodeGcr ⟨l.toArray⟩ w2 (by omega) (Tab.step hb2 HT.out)
      have hB : encB ⟨l.toArray⟩ = false := decide_eq_false (by omega)
      have hV : encV ⟨l.toArray⟩ = encode ⟨l.toArray⟩ := if_neg (by rw [hB]; decide)
      rw [hV, hB] at h
      exact h)
    have hcd := coded l hl
    have hS40 : (⟨l.toArray⟩ : ByteArray).size ≤ 40 := by omega
    clear hl hb2 hz HL
    generalize encode ⟨l.toArray⟩ = C at *
    generalize (⟨l.toArray⟩ : ByteArray) = S at *
    have hCS := hcd.size
    have HD := Hid.in_ (fun (w : World) (hT : Tab w) => impl_DecodeGcr C w (by omega) hT)
    rw [hcd.dec, hcd.back] at HD
    have HGF := Hid.in_ (fun (w : World) (hT : Tab w) => impl_GcrFaults C w (by omega) hT)
    rw [hcd.faults] at HGF
    have HG := Hid.in_ (fun (w : World) (hT : Tab w) => show Calls Tryd.prog 30 #[.string C] w fun e w' => ∃ A c, e = .returned (.slice A 0 c) ∧ Below w.heap.size w w' from (HGF.out w hT).mono fun e w' ⟨v, he, ho, hb⟩ => by
      obtain ⟨A, c, rfl, _, _, _⟩ := own_shape ho
      exact ⟨A, c, he, hb⟩)
    have HLO := Hid.in_ (fun (w : World) => impl_LongestOnes C w (by omega))
    have HRU := Hid.in_ (fun (w : World) => impl_RunsOf C w (by omega))
    have HGAP := Hid.in_ hcd.gaps
    have ho8 := hcd.ones
    generalize longest C = o at *
    have ho8' : ¬ ((8 : Int) < (o : Int)) := by omega
    have hC10 : (C.size : Int) = 10 * (S.size : Int) := by omega
    have hw10 : IntKind.i64.wrap (10 * (S.size : Int)) = 10 * (S.size : Int) := IntWalk.i64_in _ (by omega)
    clear hcd hCS HGF ho8
    go_wp2_with fail
    refine HE.out.mono ?_
    rintro e w3 ⟨rfl, hb3⟩
    have HB3 := Hid.in_ (bstep HB2.out hb3)
    clear hb3
    go_wp2_with fail
    refine (HD.out _ (Tab.step HB3.out HT.out)).mono ?_
    rintro e w4 ⟨rfl, hb4⟩
    have HB4 := Hid.in_ (bstep HB3.out hb4)
    clear hb4
    go_wp2_with fail
    refine (HG.out _ (Tab.step HB4.out HT.out)).mono ?_
    rintro e w5 ⟨A5, c5, rfl, hb5⟩
    have HB5 := Hid.in_ (bstep HB4.out hb5)
    clear hb5
    go_wp2_with fail
    refine (HLO.out _).mono ?_
    rintro e w6 ⟨rfl, hb6⟩
    have HB6 := Hid.in_ (bstep HB5.out hb6)
    clear hb6
    go_wp2_with fail
    refine (HRU.out _).mono ?_
    rintro e w7 ⟨v7, rs, rfl, ho7, hg7, hb7⟩
    have HB7 := Hid.in_ (bstep HB6.out hb7)
    have HR := Hid.in_ (fun r hr => HGAP.out r (hg7 r hr))
    clear hg7 hb7
    obtain ⟨N, hN⟩ : ∃ N, rs.length = N := ⟨_, rfl⟩
    rw [hN] at ho7
    obtain ⟨A7, c7, rfl, _, hNN, hA7⟩ := own_shape ho7
    have HA7 := Hid.in_ hA7
    have HNN := Hid.in_ hN
    clear hA7 hN ho7
    go_wp2_with fail
    go_loopg [9] N (fun m i wr => ∃ k : Nat, k + m = N ∧ i = .int .i64 k ∧ w7 = wr)
    case atStart => exact ⟨0, by omega, rfl, rfl⟩
    case round =>
      obtain ⟨k, hkm, rfl, rfl⟩ := hrel
      have HK := Hid.in_ hkm
      clear hkm
      by_cases hlt : k < N
      · obtain ⟨g, rfl, _, hg, hx, _⟩ := HA7.out (by omega)
        obtain ⟨r, hr⟩ := get_lt rs k (by rw [HNN.out]; exact hlt)
        have c0 := hx k _ (I64_get hr)
        have hr3 := HR.out r (List.mem_of_getElem? hr)
        have hr3' : ¬ ((3 : Int) < r) := by omega
        clear hx hr
        go_wp2
        have hk := HK.out
        go_roundg (gk - 1)
        case measure => omega
        case rel => exact ⟨k + 1, by omega, by go_num, rfl⟩
      · have hk := HK.out
        obtain rfl : k = N := by omega
        go_wp2
        go_ret
        exact ⟨rfl, HB7.out⟩

set_option maxRecDepth 100000 in
theorem FnGcr_contract (H : Type) (enc : TypeId × Value → H) (W : World) (base : Nat) (args : Array Value) (ds gs : List (DataW H)) (before : List MemPlace)
    (hval : ∀ (j : Nat) t v, Tryd.f7.params[j]? = some t → args[j]? = some v → Value.okWide Tryd.prog W .any base t v)
    (hW : DataW.Whole enc Tryd.prog Tryd.f7.params.toList Rows.fnGcrSpec.vars false W args.toList ds gs before) (hL : laidMetH Tryd.prog Rows.fnGcrRow.laid W) :
    Calls Tryd.prog 7 args W fun e W' => ∃ v, e = .returned v ∧ Rows.fnGcrSpec.post enc Tryd.prog Tryd.f7 false true false false W args v W' := by
  have hW' := hW
  obtain ⟨p, q, hA0, hV, hbe, hfz, hnd⟩ := hW
  have hA : DataW.TrodAll enc Tryd.prog W 0 (fun _ => true) true Tryd.f7.params.toList args.toList ds p := hA0
  rw [Tryd.params7] at hA hval
  obtain ⟨v0, vs0, d0, ds0, p0, q0, hargs, rfl, rfl, h0, r0⟩ := trodAll_cons hA
  obtain ⟨rfl, rfl, rfl⟩ := trodAll_nil r0
  obtain rfl : args = #[v0] := by cases args; simp_all
  obtain ⟨gl, hgl⟩ : ∃ l : List (DataW H), l = gs := ⟨_, rfl⟩
  obtain ⟨g0, hgs⟩ : ∃ g0, gs = [g0] := vars_1 hV
  subst hgs
  obtain ⟨A0, cap0, l0, rfl, s0⟩ := slice_U8 (hval 0 44 v0 rfl rfl) h0
  clear hA0
  have hT : Tab W := strs_laid (Rows.fnGcrRow.laid[1]) (g := 1) (by kernel_rfl) (by kernel_rfl) Tryd.underlying97 Tryd.underlying9 (by kernel_rfl) (by kernel_rfl) rfl (List.mem_filter.2 ⟨List.getElem_mem _, by kernel_rfl⟩) hL (by decide)
  refine (FnGcr_walk A0 cap0 l0 W s0 hT).mono fun e W' ⟨he, hb⟩ => ?_
  subst he
  exact ⟨_, rfl, law_post_vars Tryd.laidOut (by kernel_rfl) (by kernel_rfl) rfl Tryd.underlying4 rfl hW' hb⟩

theorem FnGcr_laid (os : Os) : laidMet Tryd.prog Rows.fnGcrRow.laid ((laidWorld Tryd.prog os Rows.fnGcrRow.laid).forCall (fun _ _ => 0) ⟨#[], #[.slice none 0 0], []⟩).memory := laidMet_of_run' 8 (by kernel_rfl) (by kernel_rfl)
theorem FnGcr_reads (os : Os) {H : Type} (enc : TypeId × Value → H) : (DataW.whole enc Tryd.prog ((laidWorld Tryd.prog os Rows.fnGcrRow.laid).forCall (fun _ _ => 0) ⟨#[], #[.slice none 0 0], []⟩).memory Tryd.f7.params.toList Rows.fnGcrSpec.vars false #[.slice none 0 0].toList 8).isSome = true := by kernel_rfl
set_option maxRecDepth 100000 in
theorem FnGcr_lifted (os : Os) (started : os.Started) (H : Type) (enc : TypeId × Value → H) (F : Stop.Interp) :
    ReturnsInHanded {} Tryd.checked os 7 .any ((OpenSpec.ofChange Rows.fnGcrSpec).preRow enc Tryd.prog Tryd.f7 Rows.fnGcrRow.domain false Rows.fnGcrRow.laid) (((OpenSpec.ofChange Rows.fnGcrSpec).at F).post enc Tryd.prog Tryd.f7 false true false false) := by
  have hx := (Option.some_get (FnGcr_reads os enc)).symm
  refine returnsInHanded_of_row (C := Tryd.checked) (s := OpenSpec.ofChange Rows.fnGcrSpec) Tryd.own started (by kernel_rfl) Tryd.func7
    (witness_row_at (enc := enc) (C := Tryd.checked) false (laidWorld Tryd.prog os Rows.fnGcrRow.laid) #[.slice none 0 0] (laidWorld_os _ _ _) (by kernel_rfl) (by kernel_rfl) (by kernel_rfl)
      (OpenSpec.preRow_of_cond 8 hx rfl (fun k hk => by cases hk) (by kernel_rfl) (FnGcr_laid os))) ?_
  intro W base args ds gs before hval hW _ _ _ hL _ _
  exact FnGcr_contract H enc W base args ds gs before hval hW hL

theorem FnGcr_said : Rows.FnGcrSaid :=
  OpenClaim.holds_of_cond 7 Tryd.f7 rfl rfl rfl rfl rfl rfl rfl ⟨rfl, rfl, rfl, rfl, rfl⟩ rfl rfl rfl rfl rfl (by kernel_rfl) Tryd.func7 (by kernel_rfl)
    (of_decide_eq_true (by kernel_rfl)) (by unfold Func.isWrapper; first | (rw [if_pos (by decide +kernel)]; kernel_rfl) | (rw [if_neg (by decide +kernel)]; exact ⟨rfl, rfl⟩))
    (fun os started H enc _ F => by rw [OpenClaim.pre_eq_preRow]; exact FnGcr_lifted os started H enc F)
theorem FnGcr_plain (f : FuncId) (fn : Func) (hf : Tryd.pinned.checked.prog.funcNamed Rows.fnGcrRow.func = some f) (hfn : Tryd.pinned.checked.prog.funcs[f]? = some fn) :
    false = Tryd.pinned.checked.prog.looks [] ∧ ∀ (j : Nat) t, fn.params[j]? = some t → Tryd.pinned.checked.prog.wantsStandIn t = false := by
  obtain rfl : f = 7 := Option.some.inj ((show Tryd.prog.funcNamed Rows.fnGcrRow.func = some 7 by kernel_rfl).symm.trans hf) |>.symm
  obtain rfl : fn = Tryd.f7 := (Option.some.inj (Tryd.func7.symm.trans hfn)).symm
  exact ⟨by kernel_rfl, fun j t ht => noStandIn (P := Tryd.prog) (fn := Tryd.f7) (by kernel_rfl) j t ht⟩
theorem FnGcr_proved : Rows.FnGcrCardSaid :=
  Claim7.holds_tied_plain_at .later [] _ _ _ _ FnGcr_said (fun _ h => by cases h) (by kernel_rfl) (fun _ h => by cases h) fnGcr_row_tie rfl ⟨rfl, rfl⟩ (by kernel_rfl) rfl FnGcr_plain (by kernel_rfl)
#print axioms FnGcr_proved
end Go.Proofs.YtklaakhdpfgffaaDoor
