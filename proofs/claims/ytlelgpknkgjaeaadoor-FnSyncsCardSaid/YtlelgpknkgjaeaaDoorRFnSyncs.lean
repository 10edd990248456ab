/- 'FnSyncs': for every input the law returns true, and each argument reads behind the call as it read before. No condition. -/
import Derived.Test.YtlelgpknkgjaeaaDoorLaw
import Derived.Test.YtlelgpknkgjaeaaDoorDoor
import Derived.Test.YtlelgpknkgjaeaaDoorE8
import Derived.Test.YtlelgpknkgjaeaaDoorArgU
import Derived.Test.YtlelgpknkgjaeaaDoorRot
import Derived.Test.YtlelgpknkgjaeaaDoorSynP
import Derived.Test.YtlelgpknkgjaeaaDoorSync
import Derived.Test.YtlelgpknkgjaeaaDoorCards
import Derived.Test.YtlelgpknkgjaeaaDoorTie
namespace Go.Proofs.YtlelgpknkgjaeaaDoor
open Go.ChangeShapes Go.WideShapes Go.ChangeAt Go.RowKit
open Go.ChangeMaps (open_string shut_string)
set_option linter.unusedVariables false
theorem size_mkB (l : List UInt8) : (⟨l.toArray⟩ : ByteArray).size = l.length := by show l.toArray.size = _; simp
theorem valid_mk {s : ByteArray} (h : allBits s = true) (h1 : 1 ≤ s.size) (h2 : s.size ≤ 512) : validCells s = true := by
  unfold validCells cellStr
  rw [isEmpty_size, decide_eq_false (by omega), h, decide_eq_true (by omega)]
  rfl
theorem slice_good {s : ByteArray} {a n : Nat} (hv : validCells s = true) (ha : a < s.size) (hn : n ≤ s.size) : sliceOk s (a : Int) (n : Int) = true ∧ sliceV s (a : Int) (n : Int) = sliceS s a n := by
  have h : sliceOk s (a : Int) (n : Int) = true := by
    unfold sliceOk
    rw [hv, inB_mk (by omega) (by omega), inB_mk (by omega) (by omega)]
    rfl
  exact ⟨h, by unfold sliceV; rw [if_pos h]; rfl⟩
theorem between_good {n p a : Nat} (h1 : 1 ≤ n) (h2 : n ≤ 512) (hp : p < n) (ha : a ≤ n) : cellsBetween (n : Int) (p : Int) (((p + a) % n : Nat) : Int) = ((a % n : Nat) : Int) := by
  unfold cellsBetween
  have hq := Nat.mod_lt (p + a) (show 0 < n by omega)
  rw [if_pos ⟨inB_mk (by omega) (by omega), inB_mk (by omega) (by omega), inB_mk (by omega) (by omega)⟩, Int.natCast_emod a n]
  rcases Nat.lt_or_ge (p + a) n with h | h
  · rw [Nat.mod_eq_of_lt h, show (((p + a : Nat) : Int) - (p : Int) + (n : Int)) = (a : Int) + (n : Int) by omega, Int.add_emod_right]
  · rw [Nat.mod_eq_sub_mod h, Nat.mod_eq_of_lt (by omega), show (((p + a - n : Nat) : Int) - (p : Int) + (n : Int)) = (a : Int) by omega]
set_option maxRecDepth 20000 in
set_option maxHeartbeats 8000000 in
theorem FnSyncs_walk (A0 : Option Addr) (cap0 : Nat) (l0 : List UInt8) (w : World) (s0 : ArgS w A0 l0.length cap0 1 (Lib.byteCells l0)) (A1 : Option Addr) (cap1 : Nat) (l1 : List UInt8) (s1 : ArgS w A1 l1.length cap1 1 (Lib.byteCells l1)) :
    Calls Tryd.prog 4 #[.slice A0 l0.length cap0, .slice A1 l1.length cap1] w fun e w' => e = .returned (.bool true) ∧ Below w.heap.size w w' := by
  obtain ⟨n, hn⟩ : ∃ n, l0.length = n := ⟨_, rfl⟩
  obtain ⟨m, hm⟩ : ∃ m, l1.length = m := ⟨_, rfl⟩
  rw [hn] at s0 ⊢
  rw [hm] at s1 ⊢
  have HS0 := Hid.in_ s0
  have HS1 := Hid.in_ s1
  clear s0 s1 hn hm
  by_cases hn1 : (1048576 : Int) < (n : Int)
  · go_enter Tryd.func4, Tryd.ntmps4
    go_wp2
    go_ret
    exact ⟨rfl, Below.refl _ _⟩
  by_cases hm1 : (1048576 : Int) < (m : Int)
  · go_enter Tryd.func4, Tryd.ntmps4
    go_wp2
    go_ret
    exact ⟨rfl, Below.refl _ _⟩
  go_enter Tryd.func4, Tryd.ntmps4
  go_wp2_with fail
  refine (spec_E8Cells w HS0.out (by omega)).mono ?_
  rintro e w1 ⟨l, f, rfl, hl1, hl2, hl3, hf1, hf2, hb1⟩
  have hsz := size_mkB l
  have hbt : allBits (⟨l.toArray⟩ : ByteArray) = true := by unfold allBits; rw [List.toList_toArray]; exact hl1
  generalize (⟨l.toArray⟩ : ByteArray) = s at *
  obtain ⟨N, hN⟩ : ∃ N, s.size = N := ⟨_, rfl⟩
  have hN1 : 1 ≤ N := by omega
  have hN2 : N ≤ 512 := by omega
  have HV := Hid.in_ (valid_mk hbt (by omega) (by omega))
  have HBT := Hid.in_ hbt
  have HB1 := Hid.in_ hb1
  have HNS := Hid.in_ hN
  have HSY := Hid.in_ (fun w => impl_SyncRuns s w (by omega))
  have HSL := Hid.in_ (fun (a c : Nat) (w : World) (ha : a < N) (hc : c ≤ N) => show Calls Tryd.prog 11 #[.string s, .int .i64 a, .int .i64 c] w fun e w' => e = .returned (.tuple #[.string (sliceS s a c), .bool true]) ∧ Below w.heap.size w w' from by
    have h := impl_SliceCells s (a : Int) (c : Int) w (by omega)
    have hg := slice_good (a := a) (n := c) HV.out (by omega) (by omega)
    rw [hg.1, hg.2] at h
    exact h)
  have HRO := Hid.in_ (fun (k : Nat) (w : World) (hk : k < N) => show Calls Tryd.prog 7 #[.string s, .int .i64 k] w fun e w' => e = .returned (.tuple #[.string (sliceS s k N), .bool true]) ∧ Below w.heap.size w w' from by
    rw [← hN] at hk ⊢
    exact spec_RotateCells s k w HV.out hk)
  clear hl1 hl2 hl3 hsz hbt hb1 hf1 hf2
  go_wp2_with fail
  refine (HSY.out _).mono ?_
  rintro e w2 ⟨v2, rfl, ho2, hb2⟩
  have HB2 := Hid.in_ (bstep HB1.out hb2)
  obtain ⟨K, hK⟩ : ∃ K, (syncV s).length = K := ⟨_, rfl⟩
  have hKb := syncV_len s
  rw [hK] at ho2 hKb
  obtain ⟨A2, c2, rfl, _, hKK, hA2⟩ := own_shape ho2
  have HA2 := Hid.in_ hA2
  have HKK := Hid.in_ hK
  clear ho2 hb2 hA2 hK HSY
  go_wp2_with fail
  go_loopg [9] K (fun m i wr => ∃ k : Nat, k + m = K ∧ i = .int .i64 k ∧ Hid (Below w2.heap.size w2 wr))
  case atStart => exact ⟨0, by omega, rfl, Below.refl _ _⟩
  case round =>
    obtain ⟨k, hkm, rfl, HB⟩ := hrel
    have HK := Hid.in_ hkm
    clear hkm
    by_cases hlt : k < K
    · obtain ⟨g, rfl, _, hg, hx, _⟩ := HA2.out (by omega)
      obtain ⟨r, hr⟩ := get_lt (syncV s) k (by rw [HKK.out]; exact hlt)
      obtain ⟨i, c, rfl, hR⟩ := syncV_mem (List.mem_of_getElem? hr)
      have hbx := (Box.elem RunR.len hx hr).step HB.out
      have x0 : wr.cell? ⟨g, k * 2, none⟩ = some (.int .i64 (i : Int)) := hbx 0 _ rfl
      have x1 : wr.cell? ⟨g, k * 2 + 1, none⟩ = some (.int .i64 (c : Int)) := hbx 1 _ rfl
      have hi := hR.lt
      have hc10 := hR.ten
      have hcl := hR.le
      rw [hN] at hi hcl
      have HR := Hid.in_ hR
      have HAL := Hid.in_ (balloc (Below.refl wr.heap.size wr) (.cells #[.int .i64 i, .int .i64 c] 37))
      have HXB := Hid.in_ (Box.new wr [.int .i64 i, .int .i64 c] 37)
      clear hx hr hbx hR
      go_wp2_with fail
      refine (HSL.out i c _ hi hcl).mono ?_
      rintro e w3 ⟨rfl, hb3⟩
      have hP : (sliceS s i c).size = c := sliceS_size _ _ _
      have HPA := Hid.in_ (show ∀ q, q < c → byteAt (sliceS s i c) q = 49 from fun q hq => by rw [byteAt_slice hq]; exact HR.out.one q hq)
      generalize sliceS s i c = P at *
      have HB3 := Hid.in_ (HB.out.trans ((HAL.out.trans (hb3.mono HAL.out.size)).mono HB.out.size))
      have hbx3 := HXB.out.step hb3
      have y0 := hbx3 0 _ rfl
      have y1 := hbx3 1 _ rfl
      have HY := Hid.in_ hbx3
      clear hb3 hbx3 x0 x1
      go_wp2_with fail
      obtain ⟨gO, rfl⟩ : ∃ g, g = gk := ⟨_, rfl⟩
      go_loopg [13] c (fun m i wi => ∃ q : Nat, q + m = c ∧ i = .int .i64 q ∧ w3 = wi)
      case atStart => exact ⟨0, by omega, rfl, rfl⟩
      case round =>
        obtain ⟨q, hqm, rfl, rfl⟩ := hrel
        have HQ := Hid.in_ hqm
        clear hqm
        by_cases hlq : q < c
        · have hqs : q < P.size := by omega
          have hd := HPA.out q hlq
          rw [byteAt_eq hqs] at hd
          go_wp2
          have hq := HQ.out
          go_roundg (gk - 1)
          case measure => omega
          case rel => exact ⟨q + 1, by omega, by go_num, rfl⟩
        · have hq := HQ.out
          obtain rfl : q = c := by omega
          by_cases hcN : q < N
          · obtain ⟨h1, h2⟩ := HR.out.stop (by rw [hN]; exact hcN)
            rw [hN] at h1 h2
            obtain ⟨q1, hq1⟩ : ∃ q', (i + q) % N = q' := ⟨_, rfl⟩
            obtain ⟨q2, hq2⟩ : ∃ q', (i + N - 1) % N = q' := ⟨_, rfl⟩
            have hl1 : q1 < N := by rw [← hq1]; exact Nat.mod_lt _ (by omega)
            have hl2 : q2 < N := by rw [← hq2]; exact Nat.mod_lt _ (by omega)
            have hb1 := bit_not HBT.out (k := (i + q) % N) (by rw [hN, hq1]; exact hl1) h1
            have hb2 := bit_not HBT.out (k := (i + N - 1) % N) (by rw [hN, hq2]; exact hl2) h2
            rw [hq1, byteAt_eq (by omega)] at hb1
            rw [hq2, byteAt_eq (by omega)] at hb2
            have e1 : ((i : Int) + (q : Int)) % (N : Int) = (q1 : Int) := by rw [← hq1]; simp
            have e2 : ((i : Int) + (N : Int) - 1) % (N : Int) = (q2 : Int) := by rw [← hq2, show (i : Int) + (N : Int) - 1 = ((i + N - 1 : Nat) : Int) by omega]; simp
            have hs1 : q1 < s.size := by omega
            have hs2 : q2 < s.size := by omega
            clear h1 h2 hq1 hq2
            go_wp2
            have hk := HK.out
            go_roundg (gO - 1)
            case measure => omega
            case rel => exact ⟨k + 1, by omega, by go_num, HB3⟩
          · go_wp2
            have hk := HK.out
            go_roundg (gO - 1)
            case measure => omega
            case rel => exact ⟨k + 1, by omega, by go_num, HB3⟩
    · have hk := HK.out
      obtain rfl : k = K := by omega
      have HBB := Hid.in_ (HB2.out.trans (HB.out.mono HB2.out.size))
      clear HA2
      go_wp2_with fail
      refine (show Calls Tryd.prog 6 #[.slice A1 m cap1, .int .i64 0, .int .i64 N] wr _ from laws_d8At 0 N wr (HS1.out.below HBB.out) (by omega) (by omega) hN1 (by omega)).mono ?_
      rintro e w4 ⟨p, rfl, hp, rfl⟩
      obtain ⟨N', hN'⟩ : ∃ N', N + 1 = N' := ⟨_, rfl⟩
      have hNN : (N : Int) + 1 = (N' : Int) := by omega
      have hNb : N' ≤ 513 := by omega
      go_wp2_with fail
      refine (show Calls Tryd.prog 6 #[.slice A1 m cap1, .int .i64 2, .int .i64 N'] wr _ from laws_d8At 2 N' wr (HS1.out.below HBB.out) (by omega) (by omega) (by omega) (by omega)).mono ?_
      rintro e w4 ⟨a, rfl, ha, rfl⟩
      have haN : a ≤ N := by omega
      clear hNN hNb ha hN'
      go_wp2_with fail
      refine (HSL.out p a _ hp haN).mono ?_
      rintro e w5 ⟨rfl, hb5⟩
      have HB5 := Hid.in_ (bstep HBB.out hb5)
      clear hb5
      obtain ⟨q3, hq3⟩ : ∃ q', (p + a) % N = q' := ⟨_, rfl⟩
      obtain ⟨b, hb⟩ : ∃ b, a + b = N := ⟨N - a, by omega⟩
      obtain ⟨r4, hr4⟩ : ∃ r, a % N = r := ⟨_, rfl⟩
      have hl3 : q3 < N := by rw [← hq3]; exact Nat.mod_lt _ (by omega)
      have hl4 : r4 < N := by rw [← hr4]; exact Nat.mod_lt _ (by omega)
      have e3 : ((p : Int) + (a : Int)) % (N : Int) = (q3 : Int) := by rw [← hq3]; simp
      have e4 : (N : Int) - (a : Int) = (b : Int) := by omega
      have e5 : (a : Int) % (N : Int) = (r4 : Int) := by rw [← hr4]; simp
      have hbN : b ≤ N := by omega
      have HCB := Hid.in_ (fun w => show Calls Tryd.prog 12 #[.int .i64 N, .int .i64 p, .int .i64 q3] w fun e w' => e = .returned (.int .i64 r4) ∧ w = w' from by
        have h := impl_CellsBetween (N : Int) (p : Int) (q3 : Int) w
        have hg := between_good hN1 hN2 hp haN
        rw [hq3, hr4] at hg
        rw [hg] at h
        exact h)
      have hJ := slice_join (s := s) (p := p) (a := a) (b := b) (by omega)
      rw [hN, hq3] at hJ
      have hz1 := sliceS_size s p a
      have hz2 := sliceS_size s q3 b
      go_wp2_with fail
      refine (HSL.out q3 b _ hl3 hbN).mono ?_
      rintro e w6 ⟨rfl, hb6⟩
      have HB6 := Hid.in_ (bstep HB5.out hb6)
      clear hb6
      go_wp2_with fail
      refine (HRO.out p _ hp).mono ?_
      rintro e w7 ⟨rfl, hb7⟩
      have HB7 := Hid.in_ (bstep HB6.out hb7)
      clear hb7
      generalize sliceS s p a = P1 at *
      generalize sliceS s q3 b = P2 at *
      generalize sliceS s p N = P3 at *
      have hno : ¬ (P1.size + P2.size > 9223372036854775807) := by omega
      have heq : ((P1 ++ P2).toList == P3.toList) = true := by rw [hJ]; simp
      clear hJ hq3 hr4 hb
      go_wp2_with fail
      go_quiet ((go_at_call 12; first | exact quiet_left (HCB.out _) | exact quiet_add_left (HCB.out _)))
      go_wp2
      go_ret
      exact ⟨rfl, below_drewN HB7.out _⟩

set_option maxRecDepth 100000 in
theorem FnSyncs_contract (H : Type) (enc : TypeId × Value → H) (W : World) (base : Nat) (args : Array Value) (ds gs : List (DataW H)) (before : List MemPlace)
    (hval : ∀ (j : Nat) t v, Tryd.f4.params[j]? = some t → args[j]? = some v → Value.okWide Tryd.prog W .any base t v)
    (hW : DataW.Whole enc Tryd.prog Tryd.f4.params.toList Rows.fnSyncsSpec.vars false W args.toList ds gs before) (hL : laidMetH Tryd.prog Rows.fnSyncsRow.laid W) :
    Calls Tryd.prog 4 args W fun e W' => ∃ v, e = .returned v ∧ Rows.fnSyncsSpec.post enc Tryd.prog Tryd.f4 false true false false W args v W' := by
  have hW' := hW
  obtain ⟨p, q, hA0, hV, hbe, hfz, hnd⟩ := hW
  have hA : DataW.TrodAll enc Tryd.prog W 0 (fun _ => true) true Tryd.f4.params.toList args.toList ds p := hA0
  rw [Tryd.params4] at hA hval
  obtain ⟨v0, vs0, d0, ds0, p0, q0, hargs, rfl, rfl, h0, r0⟩ := trodAll_cons hA
  obtain ⟨v1, vs1, d1, ds1, p1, q1, rfl, rfl, rfl, h1, r1⟩ := trodAll_cons r0
  obtain ⟨rfl, rfl, rfl⟩ := trodAll_nil r1
  obtain rfl : args = #[v0, v1] := by cases args; simp_all
  obtain ⟨rfl, _⟩ := trodVars_none hV
  obtain ⟨A0, cap0, l0, rfl, s0⟩ := slice_U8 (hval 0 22 v0 rfl rfl) h0
  obtain ⟨A1, cap1, l1, rfl, s1⟩ := slice_U8 (hval 1 22 v1 rfl rfl) h1
  clear hA0
  refine (FnSyncs_walk A0 cap0 l0 W s0 A1 cap1 l1 s1).mono fun e W' ⟨he, hb⟩ => ?_
  subst he
  exact ⟨_, rfl, law_post Tryd.laidOut (by kernel_rfl) rfl Tryd.underlying4 rfl rfl hW' hb⟩

theorem FnSyncs_laid (os : Os) : laidMet Tryd.prog Rows.fnSyncsRow.laid ((laidWorld Tryd.prog os Rows.fnSyncsRow.laid).forCall (fun _ _ => 0) ⟨#[], #[.slice none 0 0, .slice none 0 0], []⟩).memory := laidMet_of_run' 8 (by kernel_rfl) (by kernel_rfl)
theorem FnSyncs_reads (os : Os) {H : Type} (enc : TypeId × Value → H) : (DataW.whole enc Tryd.prog ((laidWorld Tryd.prog os Rows.fnSyncsRow.laid).forCall (fun _ _ => 0) ⟨#[], #[.slice none 0 0, .slice none 0 0], []⟩).memory Tryd.f4.params.toList Rows.fnSyncsSpec.vars false #[.slice none 0 0, .slice none 0 0].toList 8).isSome = true := by kernel_rfl
set_option maxRecDepth 100000 in
theorem FnSyncs_lifted (os : Os) (started : os.Started) (H : Type) (enc : TypeId × Value → H) (F : Stop.Interp) :
    ReturnsInHanded {} Tryd.checked os 4 .any ((OpenSpec.ofChange Rows.fnSyncsSpec).preRow enc Tryd.prog Tryd.f4 Rows.fnSyncsRow.domain false Rows.fnSyncsRow.laid) (((OpenSpec.ofChange Rows.fnSyncsSpec).at F).post enc Tryd.prog Tryd.f4 false true false false) := by
  have hx := (Option.some_get (FnSyncs_reads os enc)).symm
  refine returnsInHanded_of_row (C := Tryd.checked) (s := OpenSpec.ofChange Rows.fnSyncsSpec) Tryd.own started (by kernel_rfl) Tryd.func4
    (witness_row_at (enc := enc) (C := Tryd.checked) false (laidWorld Tryd.prog os Rows.fnSyncsRow.laid) #[.slice none 0 0, .slice none 0 0] (laidWorld_os _ _ _) (by kernel_rfl) (by kernel_rfl) (by kernel_rfl)
      (OpenSpec.preRow_of_cond 8 hx rfl (fun k hk => by cases hk) (by kernel_rfl) (FnSyncs_laid os))) ?_
  intro W base args ds gs before hval hW _ _ _ hL _ _
  exact FnSyncs_contract H enc W base args ds gs before hval hW hL

theorem FnSyncs_said : Rows.FnSyncsSaid :=
  OpenClaim.holds_of_cond 4 Tryd.f4 rfl rfl rfl rfl rfl rfl rfl ⟨rfl, rfl, rfl, rfl, rfl⟩ rfl rfl rfl rfl rfl (by kernel_rfl) Tryd.func4 (by kernel_rfl)
    (of_decide_eq_true (by kernel_rfl)) (by unfold Func.isWrapper; first | (rw [if_pos (by decide +kernel)]; kernel_rfl) | (rw [if_neg (by decide +kernel)]; exact ⟨rfl, rfl⟩))
    (fun os started H enc _ F => by rw [OpenClaim.pre_eq_preRow]; exact FnSyncs_lifted os started H enc F)
theorem FnSyncs_plain (f : FuncId) (fn : Func) (hf : Tryd.pinned.checked.prog.funcNamed Rows.fnSyncsRow.func = some f) (hfn : Tryd.pinned.checked.prog.funcs[f]? = some fn) :
    false = Tryd.pinned.checked.prog.looks [] ∧ ∀ (j : Nat) t, fn.params[j]? = some t → Tryd.pinned.checked.prog.wantsStandIn t = false := by
  obtain rfl : f = 4 := Option.some.inj ((show Tryd.prog.funcNamed Rows.fnSyncsRow.func = some 4 by kernel_rfl).symm.trans hf) |>.symm
  obtain rfl : fn = Tryd.f4 := (Option.some.inj (Tryd.func4.symm.trans hfn)).symm
  exact ⟨by kernel_rfl, fun j t ht => noStandIn (P := Tryd.prog) (fn := Tryd.f4) (by kernel_rfl) j t ht⟩
theorem FnSyncs_proved : Rows.FnSyncsCardSaid :=
  Claim7.holds_tied_plain_at .later [] _ _ _ _ FnSyncs_said (fun _ h => by cases h) (by kernel_rfl) (fun _ h => by cases h) fnSyncs_row_tie rfl ⟨rfl, rfl⟩ (by kernel_rfl) rfl FnSyncs_plain (by kernel_rfl)
#print axioms FnSyncs_proved
end Go.Proofs.YtlelgpknkgjaeaaDoor
