/- 'FnGcrRepair': for every input the law returns true, and each argument reads behind the call as it read before. No condition. -/
import Derived.Test.YtklaakhdpfgffabDoorDoor
import Derived.Test.YtklaakhdpfgffabDoorGrepW
import Derived.Test.YtklaakhdpfgffabDoorCards
import Derived.Test.YtklaakhdpfgffabDoorTie
namespace Go.Proofs.YtklaakhdpfgffabDoor
open Go.ChangeShapes Go.WideShapes Go.ChangeAt Go.RowKit
open Go.ChangeMaps (open_string shut_string)
set_option linter.unusedVariables false
theorem size_mkB (l : List UInt8) : (⟨l.toArray⟩ : ByteArray).size = l.length := by show l.toArray.size = _; simp
set_option maxHeartbeats 4000000 in
theorem FnGcrRepair_walk (A0 : Option Addr) (cap0 : Nat) (l0 : List UInt8) (w : World) (s0 : ArgS w A0 l0.length cap0 1 (Lib.byteCells l0)) (A1 : Option Addr) (cap1 : Nat) (l1 : List UInt8) (s1 : ArgS w A1 l1.length cap1 1 (Lib.byteCells l1)) (hT : Tab w) :
    Calls Tryd.prog 4 #[.slice A0 l0.length cap0, .slice A1 l1.length cap1] w fun e w' => e = .returned (.bool true) ∧ Below w.heap.size w w' := by
  obtain ⟨n, hn⟩ : ∃ n, l0.length = n := ⟨_, rfl⟩
  obtain ⟨m, hm⟩ : ∃ m, l1.length = m := ⟨_, rfl⟩
  rw [hn] at s0 ⊢
  rw [hm] at s1 ⊢
  have HS0 := Hid.in_ s0
  have HS1 := Hid.in_ s1
  have HT := Hid.in_ hT
  have HN := Hid.in_ (And.intro hn hm)
  clear s0 s1 hT hn hm
  go_enter Tryd.func4, Tryd.ntmps4
  go_wp2_with fail
  refine (laws_a2Long _).mono ?_
  rintro e w1 ⟨x, rfl, hx, rfl⟩
  cases x
  case true =>
    clear hx
    go_wp2
    go_ret
    exact ⟨rfl, Below.refl _ _⟩
  case false =>
    obtain ⟨hn, hm⟩ := hx rfl
    clear hx
    go_wp2_with fail
    refine (spec_A2Data w HS0.out (by omega)).mono ?_
    rintro e w2 ⟨l, rfl, hl, hb2⟩
    have HL := Hid.in_ hl
    have HB2 := Hid.in_ hb2
    have HE := Hid.in_ (show Calls Tryd.prog 13 #[.string ⟨l.toArray⟩] w2 fun e w' => e = .returned (.tuple #[.string (encode ⟨l.toArray⟩), .bool true]) ∧ Below w2.heap.size w2 w' from by
      have hz := size_mkB l
      have h := impl_EncodeGcr ⟨l.toArray⟩ w2 (by omega) (Tab.step hb2 HT.out)
      have hB : encB ⟨l.toArray⟩ = false := decide_eq_false (by omega)
      have hV : encV ⟨l.toArray⟩ = encode ⟨l.toArray⟩ := if_neg (by rw [hB]; decide)
      rw [hV, hB] at h
      exact h)
    have hCs : (encode ⟨l.toArray⟩).size = 10 * l.length := by rw [encode_size, size_mkB]
    clear hl hb2
    by_cases hl0 : l = []
    · subst hl0
      have hC0 : encode ⟨([] : List UInt8).toArray⟩ = ⟨#[]⟩ := rfl
      rw [hC0] at HE
      clear hCs hC0
      go_wp2_with fail
      refine HE.out.mono ?_
      rintro e w3 ⟨rfl, hb3⟩
      have HB3 := Hid.in_ (bstep HB2.out hb3)
      clear hb3
      go_wp2
      go_ret
      exact ⟨rfl, HB3.out⟩
    · have hlp : 0 < l.length := List.length_pos_iff.2 hl0
      have HM := Hid.in_ (fun a ha => mended l HL.out a ha)
      have HCS := Hid.in_ hCs
      have hne : (encode ⟨l.toArray⟩).toList.isEmpty = false := by
        have e : (encode ⟨l.toArray⟩).toList.length = (encode ⟨l.toArray⟩).size := by rw [Go.ByteArray.toList_eq]; simp
        cases hq : (encode ⟨l.toArray⟩).toList with
        | nil => rw [hq] at e; simp at e; omega
        | cons => rfl
      have hcb : allBits (encode ⟨l.toArray⟩) = true := by
        rw [encode_str]
        exact bits_str fun g hg => by
          rw [List.mem_map] at hg
          obtain ⟨u, hu, rfl⟩ := hg
          exact bits_code u (nibs_lt l u hu)
      have HCB := Hid.in_ hcb
      have hc40 := HL.out
      have hC1 : 0 < (encode ⟨l.toArray⟩).size := by omega
      have hC2 : (encode ⟨l.toArray⟩).size ≤ 400 := by omega
      clear hCs hcb hl0 hlp hc40
      generalize encode ⟨l.toArray⟩ = C at *
      go_wp2_with fail
      refine HE.out.mono ?_
      rintro e w3 ⟨rfl, hb3⟩
      have HB3 := Hid.in_ (bstep HB2.out hb3)
      clear hb3 HE
      go_wp2_with fail
      refine (laws_a2Byte w3 (HS1.out.below HB3.out) (by omega) hC1 (by omega)).mono ?_
      rintro e w4 ⟨a, rfl, ha, rfl⟩
      have HMD := Hid.in_ (HM.out a (by rw [← HCS.out]; exact ha))
      have kc := Lib.run_convert_string_bytes (P := Tryd.prog) w3 9 33 5 C Tryd.underlying9 Tryd.underlying33 Tryd.underlying5
      have HRW := Hid.in_ (bytes_row w3 C)
      have HBW := Hid.in_ (below_bytes HB3.out C)
      have HGE := Hid.in_ HB3.out.size
      obtain ⟨g, hg⟩ : ∃ g, w3.heap.size = g := ⟨_, rfl⟩
      rw [hg] at kc HRW HGE
      obtain ⟨cp, hcp⟩ : ∃ cp, grownCap w3 C.size 0 5 = cp := ⟨_, rfl⟩
      rw [hcp] at kc
      clear hg hcp
      generalize Lib.bytesWorld w3 5 C = w5 at *
      have hal : a < C.data.toList.length := by simpa using ha
      obtain ⟨c, hc⟩ : ∃ c, C.data.toList[a] = c := ⟨_, rfl⟩
      have f1 := HRW.out.1 a (.int .u8 (c.toNat : Int)) (by unfold Lib.byteCells; rw [List.getElem?_map, List.getElem?_eq_getElem hal, hc]; rfl)
      have f2 := HRW.out.2 a hal
      have hc48 : c = 48 ∨ c = 49 := by
        have h := HCB.out
        unfold allBits at h
        rw [List.all_eq_true] at h
        have := h c (by rw [← hc]; exact List.getElem_mem hal)
        unfold isBit at this
        simpa using this
      have hsub : IntKind.u8.wrap (97 - (c.toNat : Int)) = ((97 - c : UInt8).toNat : Int) := by
        rcases hc48 with rfl | rfl <;> rfl
      have HN5 := Hid.in_ (show ByteRow (w5.setCell ⟨g, a, none⟩ (.int .u8 ((97 - c : UInt8).toNat : Int))) g (C.data.toList.set a (97 - c)) from HRW.out.put hal (97 - c))
      have HB6 := Hid.in_ (HBW.out.setCell (p := ⟨g, a, none⟩) HGE.out (.int .u8 ((97 - c : UInt8).toNat : Int)))
      have HFL := Hid.in_ (show (⟨(C.data.toList.set a (97 - c)).toArray⟩ : ByteArray) = flipAt C a by
        unfold flipAt
        rw [List.getD_eq_getElem?_getD, List.getElem?_eq_getElem hal, hc]
        rfl)
      have hcv := run_convert_bytes_back (P := Tryd.prog) (w5.setCell ⟨g, a, none⟩ (.int .u8 ((97 - c : UInt8).toNat : Int))) 33 9 5 ⟨g, 0, none⟩ cp (C.data.toList.set a (97 - c)) Tryd.underlying33 Tryd.underlying5 Tryd.underlying9 (fun j hj => by
        rw [addr_add, Nat.zero_add]
        exact HN5.out.1 j _ (by unfold Lib.byteCells; rw [List.getElem?_map, List.getElem?_eq_getElem hj]; rfl))
      rw [HFL.out, List.length_set, show C.data.toList.length = C.size by simp] at hcv
      have ha1 : (a : Int) < (C.size : Int) := by omega
      have HTB := Hid.in_ (Tab.step HB6.out HT.out)
      clear hal hc hc48 HRW HN5 HFL HBW HGE
      generalize (97 - c : UInt8).toNat = c' at *
      have HRP := Hid.in_ (fun (w : World) (hT : Tab w) => impl_RepairGcr (flipAt C a) w (by rw [HMD.out.sizeW]; omega) hT)
      have HGF := Hid.in_ (fun (w : World) (hT : Tab w) => impl_GcrFaults (repV (flipAt C a)) w (by rw [HMD.out.size]; omega) hT)
      rw [HMD.out.grps] at HRP
      rw [HMD.out.faults] at HGF
      have HMD2 := Hid.in_ HMD.out
      clear HMD HM HCB HCS
      generalize repV (flipAt C a) = F at *
      generalize repD (flipAt C a) = D at *
      generalize flipAt C a = W at *
      go_wp2_with fail
      refine (HRP.out _ HTB.out).mono ?_
      rintro e w7 ⟨v7, rfl, ho7, hb7⟩
      obtain ⟨K, i, hai, hi⟩ : ∃ K i, a = 5 * K + i ∧ i < 5 := ⟨a / 5, a % 5, by omega, by omega⟩
      have hMD := HMD2.out
      rw [show a / 5 = K by omega] at hMD
      have hFs := hMD.size
      have hWs := hMD.sizeW
      have hDD := hMD.doubt
      have HPR := Hid.in_ hMD.pre
      have HPO := Hid.in_ hMD.post
      have HDI := Hid.in_ hMD.dist
      obtain ⟨q, hq⟩ : ∃ q, 5 * K = q := ⟨_, rfl⟩
      obtain ⟨q5, hq5⟩ : ∃ q5, q + 5 = q5 := ⟨_, rfl⟩
      rw [hq, hq5] at HDI
      rw [hq, hq5] at HPO
      rw [hq] at HPR
      rw [hFs] at HPO
      have HB7 := Hid.in_ (bstep HB6.out hb7)
      have HG8 := Hid.in_ (HGF.out w7 (Tab.step HB7.out HT.out))
      have HX := Hid.in_ (fun w : World => impl_GcrDistance (F.extract q q5) (W.extract q q5) w (by rw [ByteArray.size_extract]; omega) (by rw [ByteArray.size_extract]; omega))
      have hCK : C.size % 5 = 0 ∨ True := .inr trivial
      have hq5C : q5 ≤ C.size := by
        have h1 := grps_size hMD.grps
        obtain ⟨N, h1, _⟩ := h1
        omega
      have k1 : (a : Int).tdiv 5 = (K : Int) := by rw [Int.tdiv_eq_ediv_of_nonneg (by omega)]; omega
      have k2 : (a : Int) / 5 = (K : Int) := by omega
      have k3 : IntKind.i64.wrap (K : Int) = (K : Int) := IntWalk.i64_in _ (by omega)
      have k4 : (K : Int) * 5 = (q : Int) := by omega
      have k5 : IntKind.i64.wrap (q : Int) = (q : Int) := IntWalk.i64_in _ (by omega)
      have k6 : (q : Int) + 5 = (q5 : Int) := by omega
      have k7 : IntKind.i64.wrap (q5 : Int) = (q5 : Int) := IntWalk.i64_in _ (by omega)
      have b1 : (0 : Int) ≤ (q : Int) := by omega
      have b2 : (q : Int) ≤ (C.size : Int) := by omega
      have b3 : (0 : Int) ≤ (q5 : Int) := by omega
      have b4 : (q5 : Int) ≤ (C.size : Int) := by omega
      have b5 : (q : Int) ≤ (q5 : Int) := by omega
      have e1 := HPR.out
      have e2 := HPO.out
      generalize gcrDist (F.extract q q5) (W.extract q q5) = dd at *
      have hdd := HDI.out
      have HB7' := Hid.in_ hb7
      clear hMD HMD2 hai hq hq5 HGF HRP hb7 kc hcv hsub f1 f2 hCK
      have HZ8 := Hid.in_ (show Calls Tryd.prog 17 #[.string F] w7 fun e w' => ∃ A c, e = .returned (.slice A 0 c) ∧ Below w7.heap.size w7 w' from HG8.out.mono fun e w' ⟨v, he, ho, hb⟩ => by
        obtain ⟨A, c, rfl, _, _, _⟩ := own_shape ho
        exact ⟨A, c, he, hb⟩)
      rcases hDD with rfl | rfl
      · obtain ⟨A7, c7, rfl, _, _, _⟩ := own_shape ho7
        have HO7 := Hid.in_ ho7
        clear ho7
        go_wp2_with (go_at_call 17; refine HZ8.out.mono ?_; rintro e w8 ⟨A8, c8, rfl, hb8⟩)
        have HB8 := Hid.in_ (bstep HB7.out hb8)
        clear hb8
        go_quiet (fail)
        go_wp2_with fail
        go_region_held3 (fun _ => True) (exact True.intro) ((go_at_call 18; refine (HX.out _).mono ?_; rintro e w9 ⟨rfl, hb9⟩))
        all_goals
          go_wp2
          go_ret
          exact ⟨by first | rfl | (congr 2; exact decide_eq_true hdd), bstep (below_drewN HB8.out _) (bstep (Below.refl _ _).drew hb9)⟩
      · obtain ⟨A7, c7, rfl, _, _, hA7⟩ := own_shape ho7
        obtain ⟨g7, rfl, _, _, hx7, _⟩ := hA7 (by simp)
        have HC7 := Hid.in_ (show w7.cell? ⟨g7, 0, none⟩ = some (.int .i64 (K : Int)) from hx7 0 _ rfl)
        clear ho7 hA7 hx7
        go_wp2_with (go_at_call 17; refine HZ8.out.mono ?_; rintro e w8 ⟨A8, c8, rfl, hb8⟩; have c0 := cstep hb8 HC7.out)
        have HB8 := Hid.in_ (bstep HB7.out hb8)
        clear hb8
        go_quiet (fail)
        go_wp2_with fail
        go_region_held3 (fun _ => True) (exact True.intro) ((go_at_call 18; refine (HX.out _).mono ?_; rintro e w9 ⟨rfl, hb9⟩))
        all_goals
          go_wp2
          go_ret
          exact ⟨by first | rfl | (congr 2; exact decide_eq_true hdd), bstep (below_drewN HB8.out _) (bstep (Below.refl _ _).drew hb9)⟩

set_option maxRecDepth 100000 in
theorem FnGcrRepair_contract (H : Type) (enc : TypeId × Value → H) (W : World) (base : Nat) (args : Array Value) (ds gs : List (DataW H)) (before : List MemPlace)
    (hval : ∀ (j : Nat) t v, Tryd.f4.params[j]? = some t → args[j]? = some v → Value.okWide Tryd.prog W .any base t v)
    (hW : DataW.Whole enc Tryd.prog Tryd.f4.params.toList Rows.fnGcrRepairSpec.vars false W args.toList ds gs before) (hL : laidMetH Tryd.prog Rows.fnGcrRepairRow.laid W) :
    Calls Tryd.prog 4 args W fun e W' => ∃ v, e = .returned v ∧ Rows.fnGcrRepairSpec.post enc Tryd.prog Tryd.f4 false true false false W args v W' := by
  have hW' := hW
  obtain ⟨p, q, hA0, hV, hbe, hfz, hnd⟩ := hW
  have hA : DataW.TrodAll enc Tryd.prog W 0 (fun _ => true) true Tryd.f4.params.toList args.toList ds p := hA0
  rw [Tryd.params4] at hA hval
  obtain ⟨v0, vs0, d0, ds0, p0, q0, hargs, rfl, rfl, h0, r0⟩ := trodAll_cons hA
  obtain ⟨v1, vs1, d1, ds1, p1, q1, rfl, rfl, rfl, h1, r1⟩ := trodAll_cons r0
  obtain ⟨rfl, rfl, rfl⟩ := trodAll_nil r1
  obtain rfl : args = #[v0, v1] := by cases args; simp_all
  obtain ⟨gl, hgl⟩ : ∃ l : List (DataW H), l = gs := ⟨_, rfl⟩
  obtain ⟨g0, hgs⟩ : ∃ g0, gs = [g0] := vars_1 hV
  subst hgs
  obtain ⟨A0, cap0, l0, rfl, s0⟩ := slice_U8 (hval 0 33 v0 rfl rfl) h0
  obtain ⟨A1, cap1, l1, rfl, s1⟩ := slice_U8 (hval 1 33 v1 rfl rfl) h1
  clear hA0
  have hT : Tab W := strs_laid (Rows.fnGcrRepairRow.laid[1]) (g := 0) (by kernel_rfl) (by kernel_rfl) Tryd.underlying65 Tryd.underlying9 (by kernel_rfl) (by kernel_rfl) rfl (List.mem_filter.2 ⟨List.getElem_mem _, by kernel_rfl⟩) hL (by decide)
  refine (FnGcrRepair_walk A0 cap0 l0 W s0 A1 cap1 l1 s1 hT).mono fun e W' ⟨he, hb⟩ => ?_
  subst he
  exact ⟨_, rfl, law_post_vars Tryd.laidOut (by kernel_rfl) (by kernel_rfl) rfl Tryd.underlying4 rfl hW' hb⟩

theorem FnGcrRepair_laid (os : Os) : laidMet Tryd.prog Rows.fnGcrRepairRow.laid ((laidWorld Tryd.prog os Rows.fnGcrRepairRow.laid).forCall (fun _ _ => 0) ⟨#[], #[.slice none 0 0, .slice none 0 0], []⟩).memory := laidMet_of_run' 8 (by kernel_rfl) (by kernel_rfl)
theorem FnGcrRepair_reads (os : Os) {H : Type} (enc : TypeId × Value → H) : (DataW.whole enc Tryd.prog ((laidWorld Tryd.prog os Rows.fnGcrRepairRow.laid).forCall (fun _ _ => 0) ⟨#[], #[.slice none 0 0, .slice none 0 0], []⟩).memory Tryd.f4.params.toList Rows.fnGcrRepairSpec.vars false #[.slice none 0 0, .slice none 0 0].toList 8).isSome = true := by kernel_rfl
set_option maxRecDepth 100000 in
theorem FnGcrRepair_lifted (os : Os) (started : os.Started) (H : Type) (enc : TypeId × Value → H) (F : Stop.Interp) :
    ReturnsInHanded {} Tryd.checked os 4 .any ((OpenSpec.ofChange Rows.fnGcrRepairSpec).preRow enc Tryd.prog Tryd.f4 Rows.fnGcrRepairRow.domain false Rows.fnGcrRepairRow.laid) (((OpenSpec.ofChange Rows.fnGcrRepairSpec).at F).post enc Tryd.prog Tryd.f4 false true false false) := by
  have hx := (Option.some_get (FnGcrRepair_reads os enc)).symm
  refine returnsInHanded_of_row (C := Tryd.checked) (s := OpenSpec.ofChange Rows.fnGcrRepairSpec) Tryd.own started (by kernel_rfl) Tryd.func4
    (witness_row_at (enc := enc) (C := Tryd.checked) false (laidWorld Tryd.prog os Rows.fnGcrRepairRow.laid) #[.slice none 0 0, .slice none 0 0] (laidWorld_os _ _ _) (by kernel_rfl) (by kernel_rfl) (by kernel_rfl)
      (OpenSpec.preRow_of_cond 8 hx rfl (fun k hk => by cases hk) (by kernel_rfl) (FnGcrRepair_laid os))) ?_
  intro W base args ds gs before hval hW _ _ _ hL _ _
  exact FnGcrRepair_contract H enc W base args ds gs before hval hW hL

theorem FnGcrRepair_said : Rows.FnGcrRepairSaid :=
  OpenClaim.holds_of_cond 4 Tryd.f4 rfl rfl rfl rfl rfl rfl rfl ⟨rfl, rfl, rfl, rfl, rfl⟩ rfl rfl rfl rfl rfl (by kernel_rfl) Tryd.func4 (by kernel_rfl)
    (of_decide_eq_true (by kernel_rfl)) (by unfold Func.isWrapper; first | (rw [if_pos (by decide +kernel)]; kernel_rfl) | (rw [if_neg (by decide +kernel)]; exact ⟨rfl, rfl⟩))
    (fun os started H enc _ F => by rw [OpenClaim.pre_eq_preRow]; exact FnGcrRepair_lifted os started H enc F)
theorem FnGcrRepair_plain (f : FuncId) (fn : Func) (hf : Tryd.pinned.checked.prog.funcNamed Rows.fnGcrRepairRow.func = some f) (hfn : Tryd.pinned.checked.prog.funcs[f]? = some fn) :
    false = Tryd.pinned.checked.prog.looks [] ∧ ∀ (j : Nat) t, fn.params[j]? = some t → Tryd.pinned.checked.prog.wantsStandIn t = false := by
  obtain rfl : f = 4 := Option.some.inj ((show Tryd.prog.funcNamed Rows.fnGcrRepairRow.func = some 4 by kernel_rfl).symm.trans hf) |>.symm
  obtain rfl : fn = Tryd.f4 := (Option.some.inj (Tryd.func4.symm.trans hfn)).symm
  exact ⟨by kernel_rfl, fun j t ht => noStandIn (P := Tryd.prog) (fn := Tryd.f4) (by kernel_rfl) j t ht⟩
theorem FnGcrRepair_proved : Rows.FnGcrRepairCardSaid :=
  Claim7.holds_tied_plain_at .later [] _ _ _ _ FnGcrRepair_said (fun _ h => by cases h) (by kernel_rfl) (fun _ h => by cases h) fnGcrRepair_row_tie rfl ⟨rfl, rfl⟩ (by kernel_rfl) rfl FnGcrRepair_plain (by kernel_rfl)
#print axioms FnGcrRepair_proved
end Go.Proofs.YtklaakhdpfgffabDoor
