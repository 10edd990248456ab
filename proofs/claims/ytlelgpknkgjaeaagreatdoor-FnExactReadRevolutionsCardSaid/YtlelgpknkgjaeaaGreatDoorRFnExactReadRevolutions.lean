/- 'FnExactReadRevolutions': for every input the law returns true, and each argument reads behind the call as it read before. No condition. -/
import Derived.Test.YtlelgpknkgjaeaaGreatDoorPD
import Derived.Test.YtlelgpknkgjaeaaGreatDoorCards
import Derived.Test.YtlelgpknkgjaeaaGreatDoorTie
namespace Go.Proofs.YtlelgpknkgjaeaaGreatDoor
open Go.ChangeShapes Go.WideShapes Go.ChangeAt Go.RowKit
open Go.ChangeMaps (open_string shut_string)
set_option linter.unusedVariables false
theorem sumTo_bound {l : List VotR} {B : Nat} (h : ∀ r ∈ l, r.l.length ≤ B) : ∀ k, sumTo l k ≤ B * k
  | 0 => by simp [sumTo]
  | k + 1 => by
    have ih := sumTo_bound h k
    cases hk : l[k]? with
    | none =>
      have : sumTo l (k + 1) = sumTo l k := by unfold sumTo; rw [List.take_add_one, hk]; simp
      rw [this, Nat.mul_add]; omega
    | some r =>
      have := h r (List.mem_of_getElem? hk)
      rw [sumTo_next hk, Nat.mul_add]; omega
theorem mg_weak {ls : List (List FndR)} (hg : ∀ f ∈ ls.flatten, goodF f) (a : AdrR) : (mergeV ls a).l.length ≤ 1024 := by
  have key : ∀ st : Int, (st = 1 ∨ st = 3) → (dataOf ls.flatten a st).length ≠ 0 → (placesTo (diffAt (dataOf ls.flatten a st)) (revLen (dataOf ls.flatten a st))).length ≤ 1024 := by
    intro st hst hne
    have hsz := data_size hg (a := a) hst
    obtain ⟨s, hs⟩ : ∃ s, s ∈ dataOf ls.flatten a st := by
      cases hd : dataOf ls.flatten a st with
      | nil => rw [hd] at hne; exact absurd rfl hne
      | cons x r => exact ⟨x, by simp⟩
    have h1 := hsz s hs
    have h2 := placesTo_len (diffAt (dataOf ls.flatten a st)) (revLen (dataOf ls.flatten a st))
    omega
  by_cases h1 : (dataOf ls.flatten a 1).length ≠ 0
  · rw [merge_one h1]; exact key 1 (.inl rfl) h1
  · by_cases h3 : (dataOf ls.flatten a 3).length ≠ 0
    · rw [merge_two h1 h3]; exact key 3 (.inr rfl) h3
    · rw [merge_none h1 h3]; exact Nat.zero_le _
theorem rr_bounds (l : List ByteArray) (f : Int) : (rrV l f).length ≤ 320 ∧ ∀ r ∈ rrV l f, r.l.length ≤ 1024 := by
  unfold rrV
  split
  · rename_i h
    obtain ⟨h64, hg, _⟩ := rds_facts l f
    have h5 : (rdsV l f).length ≤ 5 := by
      have h1 := h.1
      unfold rrOk revsOk at h1
      rw [Bool.and_eq_true, Bool.and_eq_true] at h1
      have := inB_t h1.1.1
      unfold rdsV
      rw [List.length_map]
      omega
    refine ⟨?_, fun r hr => ?_⟩
    · unfold mgV
      rw [List.length_map]
      exact Nat.le_trans (keysOf_len _) (flat_small h5 h64)
    · unfold mgV at hr
      obtain ⟨a, _, rfl⟩ := List.mem_map.1 hr
      exact mg_weak hg a
  · exact ⟨Nat.zero_le _, fun r hr => by cases hr⟩
theorem VRow.str {w w' : World} {b B s n : Nat} {v x : Value} {os : List VotO} {xs : List Value} (h : VRow w b v os) (hx : w.ownsRow B 9 s x n xs) (hg : w.grownBy w' x.ownBlock) : VRow w' b v os :=
  ⟨kept_apart (by decide) h.row hx hg, fun o ho => kept_apart (by decide) (h.weak o ho) hx hg, h.apart⟩
set_option maxHeartbeats 4000000 in
theorem FnExactReadRevolutions_walk (A0 : Option Addr) (cap0 : Nat) (l0 : List ByteArray) (w : World) (s0 : ArgS w A0 l0.length cap0 1 (Strs l0)) (k0 : ∀ r ∈ l0, r.size ≤ maxLen) (a1 : Int) (w1 : (Lit.int .i64 a1).wf = true) (hT : Tab w) :
    Calls Tryz.prog 5 #[.slice A0 l0.length cap0, .int .i64 a1] w fun e w' => e = .returned (.bool true) ∧ Below w.heap.size w w' := by
  obtain ⟨n, hn⟩ : ∃ n, l0.length = n := ⟨_, rfl⟩
  rw [hn] at s0 ⊢
  have HN := Hid.in_ hn
  have HS := Hid.in_ s0
  have HK := Hid.in_ k0
  have HT := Hid.in_ hT
  obtain ⟨hM1, hM2⟩ := rr_bounds l0 a1
  have hne : ¬ ((1 : Int) + (n : Int) < 0) := by omega
  obtain ⟨V, hV⟩ : ∃ V, rrV l0 a1 = V := ⟨_, rfl⟩
  obtain ⟨m, hVm⟩ : ∃ m, V.length = m := ⟨_, rfl⟩
  rw [hV] at hM1 hM2
  rw [hVm] at hM1
  have HV := Hid.in_ hV
  have HVM := Hid.in_ hVm
  have HSV := Hid.in_ (show sumTo V m ≤ 1048576 from by have := sumTo_bound hM2 m; have h2 : 1024 * m ≤ 1024 * 320 := Nat.mul_le_mul_left 1024 hM1; omega)
  have HSL := Hid.in_ (sumTo_le hVm)
  have hne2 : ¬ (((posAt 1 V m : Nat) : Int) < 0) := by omega
  clear s0 k0 hn hT w1
  go_enter Tryz.func5, Tryz.ntmps5
  go_wp2_with fail
  refine (laws_szStringS _ _ HS.out HN.out HK.out (by omega) (by omega)).mono ?_
  rintro e w1 ⟨rfl | ⟨r, rfl, hr0, hr1, hr2⟩, hb1⟩
  · go_wp2
    go_ret
    exact ⟨rfl, hb1⟩
  have HZ := Hid.in_ (show ∀ s ∈ l0, s.size ≤ 1048576 from fun s hs => by have := hr2 s hs; omega)
  have hn2 : n ≤ 1048576 := by omega
  have HI := Hid.in_ (show ∀ (v : Value) (b : Nat) (w' : World), Below w.heap.size w w' → w'.ownsRow b 9 1 v n (Strs l0) → Calls Tryz.prog 20 #[v, .int .i64 a1] w' fun e w'' => ∃ v' os', e = .returned (.tuple #[v', .int .i64 (rrC l0 a1)]) ∧ os'.map VotO.r = V ∧ VRow w'' w'.heap.size v' os' ∧ Below w'.heap.size w' w'' from fun v b w' hb h => by
    have := impl_ReadRevolutions a1 w' h HZ.out (Tab.step hb HT.out)
    rw [HV.out] at this
    exact this)
  have HSP := Hid.in_ (show ∀ (v : Value) (b : Nat) (w' : World), w'.ownsRow b 9 1 v n (Strs l0) → Calls Tryz.prog 18 #[v, .int .i64 a1] w' fun e w'' => ∃ v' os', e = .returned (.tuple #[v', .int .i64 (rrC l0 a1)]) ∧ os'.map VotO.r = V ∧ VRow w'' w'.heap.size v' os' ∧ Below w'.heap.size w' w'' from fun v b w' h => by
    have := spec_ReadRevolutions a1 w' h HZ.out
    rw [HV.out] at this
    exact this)
  have C0 := Hid.in_ (show ∀ (w' : World), Below w.heap.size w w' → Calls Tryz.prog 19 #[.slice A0 n cap0] w' fun e w'' => ∃ v, e = .returned v ∧ w''.ownsRow w'.heap.size 9 1 v n (Strs l0) ∧ Below w'.heap.size w' w'' from fun w' hw => laws_toStringS _ (HS.out.below hw) HN.out hn2)
  generalize rrC l0 a1 = cd at *
  clear hM2 hV hVm hr1 hr2
  have HB1 := Hid.in_ hb1
  clear hb1
  go_wp2_with fail
  refine (C0.out _ HB1.out).mono ?_
  rintro e w2 ⟨v2, rfl, ho2, hb2⟩
  have hB2 := bstep HB1.out hb2
  go_wp2_with fail
  refine (HSP.out _ _ w2 ho2).mono ?_
  rintro e w3 ⟨v3, p3, rfl, hp3, hr3, hb3⟩
  have hB3 := bstep hB2 hb3
  clear ho2
  go_wp2_with fail
  refine (C0.out _ hB3).mono ?_
  rintro e w4 ⟨v4, rfl, ho4, hb4⟩
  have hB4 := bstep hB3 hb4
  go_wp2_with fail
  refine (HI.out _ _ w4 hB4 ho4).mono ?_
  rintro e w5 ⟨v5, p5, rfl, hp5, hr5, hb5⟩
  have hB5 := bstep hB4 hb5
  have HP3 := Hid.in_ hp3
  have HP5 := Hid.in_ hp5
  have HR3 := Hid.in_ hr3
  have HR5 := Hid.in_ hr5
  have HO4 := Hid.in_ ho4
  have L4 := Hid.in_ hb4
  have L5 := Hid.in_ (show Below w3.heap.size w3 w5 from hb4.trans (hb5.mono hb4.size))
  have G4 := Hid.in_ (show w4.heap.size ≤ w5.heap.size from hb5.size)
  have H45 := Hid.in_ hb5
  clear hp3 hp5 hr3 hr5 ho4 hb4 hb5
  go_wp2_with fail
  refine (laws_eqVotedS _ HR5.out (HR3.out.step L5.out) (HP5.out.trans HP3.out.symm)).mono ?_
  rintro e w6 ⟨rfl, hb6⟩
  have hB6 := bstep hB5 hb6
  go_wp2_with fail
  refine (C0.out _ hB6).mono ?_
  rintro e w7 ⟨v7, rfl, ho7, hb7⟩
  have hB7 := bstep hB6 hb7
  have h57 := hb6.trans (hb7.mono hb6.size)
  have h47 : Below w4.heap.size w4 w7 := H45.out.trans (h57.mono G4.out)
  have ho47 : w7.ownsRow w3.heap.size 9 1 v4 n (Strs l0) := ostep h47 HO4.out
  go_wp2_with fail
  refine (laws_eqStringS _ ho47 ho7).mono ?_
  rintro e w8 ⟨rfl, hb8⟩
  have hB8 := bstep hB7 hb8
  have h58 : Below w5.heap.size w5 w8 := h57.trans (hb8.mono h57.size)
  have L8 := Hid.in_ (show Below w3.heap.size w3 w8 from L5.out.trans (h58.mono L5.out.size))
  have HX8 := Hid.in_ (ostep hb8 ho47)
  have G48 := Hid.in_ (show w4.heap.size ≤ w8.heap.size from Nat.le_trans G4.out h58.size)
  have HR58 := Hid.in_ (HR5.out.step h58)
  have HB8 := Hid.in_ hB8
  have G3 := Hid.in_ (show w.heap.size ≤ w3.heap.size from hB3.size)
  have G43 := Hid.in_ (show w3.heap.size ≤ w4.heap.size from L4.out.size)
  have G4B := Hid.in_ (show w.heap.size ≤ w4.heap.size from hB4.size)
  clear h57 h47 h58 ho47 ho7 hb2 hb6 hb7 hb8 hB2 hB3 hB4 hB5 hB6 hB7 hB8 HB1
  go_wp2_with fail
  refine (laws_markStringS 1 _ HX8.out (by omega) (by omega) hn2).mono ?_
  rintro e w9 ⟨rfl, _, hg9⟩
  have HB9 := Hid.in_ (bgrown HB8.out HX8.out G3.out hg9)
  have L9 := Hid.in_ (L8.out.grown hg9 L8.out.size (fun k hk => (HX8.out.lt k hk).1))
  have HR9 := Hid.in_ (HR58.out.str HX8.out hg9)
  have G9 := Hid.in_ (show w4.heap.size ≤ w9.heap.size from Nat.le_trans G48.out hg9.size)
  clear hg9 HX8 HR58
  go_wp2_with fail
  refine (laws_eqVotedS _ HR9.out (HR3.out.step L9.out) (HP5.out.trans HP3.out.symm)).mono ?_
  rintro e w10 ⟨rfl, hb10⟩
  have HB10 := Hid.in_ (bstep HB9.out hb10)
  have L10 := Hid.in_ (L9.out.trans (hb10.mono L9.out.size))
  have HR10 := Hid.in_ (HR9.out.step hb10)
  have G10 := Hid.in_ (show w4.heap.size ≤ w10.heap.size from Nat.le_trans G9.out hb10.size)
  clear hb10
  go_wp2_with fail
  refine (show Calls Tryz.prog 24 #[v5, .int .i64 1] _ _ from laws_markVotedS 1 _ HR10.out HP5.out HVM.out (by omega) (by omega) (by omega) HSV.out HSL.out G10.out).mono ?_
  rintro e w11 ⟨rfl, ⟨q11, hq11, hr11⟩, hT11⟩
  have HB11 := Hid.in_ (HB10.out.trans (hT11.low.mono G4B.out))
  have L11 := Hid.in_ (L10.out.trans (hT11.low.mono G43.out))
  have HQ11 := Hid.in_ hq11
  have HR11 := Hid.in_ hr11
  clear hT11 hq11 hr11
  go_wp2_with fail
  refine (show Calls Tryz.prog 25 #[v5, .int .i64 1] _ _ from laws_heldVotedS 1 _ HR11.out HQ11.out HVM.out (by omega) (by omega) (by omega) HSV.out HSL.out).mono ?_
  rintro e w12 ⟨rfl, hb12⟩
  have HB12 := Hid.in_ (bstep HB11.out hb12)
  have L12 := Hid.in_ (L11.out.trans (hb12.mono L11.out.size))
  have HR12 := Hid.in_ (HR11.out.step hb12)
  clear hb12
  go_wp2_with fail
  refine (C0.out _ HB12.out).mono ?_
  rintro e w13 ⟨v13, rfl, ho13, hb13⟩
  have HB13 := Hid.in_ (bstep HB12.out hb13)
  have L13 := Hid.in_ (L12.out.trans (hb13.mono L12.out.size))
  have HR13 := Hid.in_ (HR12.out.step hb13)
  clear hb13
  go_wp2_with fail
  refine (HI.out _ _ w13 HB13.out ho13).mono ?_
  rintro e w14 ⟨v14, p14, rfl, hp14, hr14, hb14⟩
  have HB14 := Hid.in_ (bstep HB13.out hb14)
  have L14 := Hid.in_ (L13.out.trans (hb14.mono L13.out.size))
  have HR14 := Hid.in_ (HR13.out.step hb14)
  clear hb14
  go_wp2_with fail
  refine (laws_eqVotedS _ hr14 (HR3.out.step L14.out) (hp14.trans HP3.out.symm)).mono ?_
  rintro e w15 ⟨rfl, hb15⟩
  have HB15 := Hid.in_ (bstep HB14.out hb15)
  have HR15 := Hid.in_ (HR14.out.step hb15)
  clear hb15 hr14 ho13
  go_wp2_with fail
  refine (show Calls Tryz.prog 25 #[v5, .int .i64 1] _ _ from laws_heldVotedS 1 _ HR15.out HQ11.out HVM.out (by omega) (by omega) (by omega) HSV.out HSL.out).mono ?_
  rintro e w16 ⟨rfl, hb16⟩
  have HB16 := Hid.in_ (bstep HB15.out hb16)
  clear hb16
  go_wp2
  go_ret
  exact ⟨rfl, HB16.out⟩

set_option maxRecDepth 100000 in
theorem FnExactReadRevolutions_contract (H : Type) (enc : TypeId × Value → H) (W : World) (base : Nat) (args : Array Value) (ds gs : List (DataW H)) (before : List MemPlace)
    (hval : ∀ (j : Nat) t v, Tryz.f5.params[j]? = some t → args[j]? = some v → Value.okWide Tryz.prog W .any base t v)
    (hW : DataW.Whole enc Tryz.prog Tryz.f5.params.toList Rows.fnExactReadRevolutionsSpec.vars false W args.toList ds gs before) (hL : laidMetH Tryz.prog Rows.fnExactReadRevolutionsRow.laid W) :
    Calls Tryz.prog 5 args W fun e W' => ∃ v, e = .returned v ∧ Rows.fnExactReadRevolutionsSpec.post enc Tryz.prog Tryz.f5 false true false false W args v W' := by
  have hW' := hW
  obtain ⟨p, q, hA0, hV, hbe, hfz, hnd⟩ := hW
  have hA : DataW.TrodAll enc Tryz.prog W 0 (fun _ => true) true Tryz.f5.params.toList args.toList ds p := hA0
  rw [Tryz.params5] at hA hval
  obtain ⟨v0, vs0, d0, ds0, p0, q0, hargs, rfl, rfl, h0, r0⟩ := trodAll_cons hA
  obtain ⟨v1, vs1, d1, ds1, p1, q1, rfl, rfl, rfl, h1, r1⟩ := trodAll_cons r0
  obtain ⟨rfl, rfl, rfl⟩ := trodAll_nil r1
  obtain rfl : args = #[v0, v1] := by cases args; simp_all
  obtain ⟨gl, hgl⟩ : ∃ l : List (DataW H), l = gs := ⟨_, rfl⟩
  obtain ⟨g0, hgs⟩ : ∃ g0, gs = [g0] := vars_1 hV
  subst hgs
  obtain ⟨A0, cap0, l0, rfl, s0, k0⟩ := slice_Strs (hval 0 33 v0 rfl rfl) h0
  obtain ⟨a1, rfl, rfl, rfl, w1⟩ := open_int Tryz.underlying2 (hval 1 2 v1 rfl rfl) h1
  clear hA0
  have hT : Tab W := strs_laid (Rows.fnExactReadRevolutionsRow.laid[1]) (g := 0) (by kernel_rfl) (by kernel_rfl) Tryz.underlying154 Tryz.underlying9 (by kernel_rfl) (by kernel_rfl) rfl (List.mem_filter.2 ⟨List.getElem_mem _, by kernel_rfl⟩) hL (by decide)
  refine (FnExactReadRevolutions_walk A0 cap0 l0 W s0 k0 a1 w1 hT).mono fun e W' ⟨he, hb⟩ => ?_
  subst he
  exact ⟨_, rfl, law_post_vars Tryz.laidOut (by kernel_rfl) (by kernel_rfl) rfl Tryz.underlying4 rfl hW' hb⟩

theorem FnExactReadRevolutions_laid (os : Os) : laidMet Tryz.prog Rows.fnExactReadRevolutionsRow.laid ((laidWorld Tryz.prog os Rows.fnExactReadRevolutionsRow.laid).forCall (fun _ _ => 0) ⟨#[], #[.slice none 0 0, .int .i64 0], []⟩).memory := laidMet_of_run' 8 (by kernel_rfl) (by kernel_rfl)
theorem FnExactReadRevolutions_reads (os : Os) {H : Type} (enc : TypeId × Value → H) : (DataW.whole enc Tryz.prog ((laidWorld Tryz.prog os Rows.fnExactReadRevolutionsRow.laid).forCall (fun _ _ => 0) ⟨#[], #[.slice none 0 0, .int .i64 0], []⟩).memory Tryz.f5.params.toList Rows.fnExactReadRevolutionsSpec.vars false #[.slice none 0 0, .int .i64 0].toList 8).isSome = true := by kernel_rfl
set_option maxRecDepth 100000 in
theorem FnExactReadRevolutions_lifted (os : Os) (started : os.Started) (H : Type) (enc : TypeId × Value → H) (F : Stop.Interp) :
    ReturnsInHanded {} Tryz.checked os 5 .any ((OpenSpec.ofChange Rows.fnExactReadRevolutionsSpec).preRow enc Tryz.prog Tryz.f5 Rows.fnExactReadRevolutionsRow.domain false Rows.fnExactReadRevolutionsRow.laid) (((OpenSpec.ofChange Rows.fnExactReadRevolutionsSpec).at F).post enc Tryz.prog Tryz.f5 false true false false) := by
  have hx := (Option.some_get (FnExactReadRevolutions_reads os enc)).symm
  refine returnsInHanded_of_row (C := Tryz.checked) (s := OpenSpec.ofChange Rows.fnExactReadRevolutionsSpec) Tryz.own started (by kernel_rfl) Tryz.func5
    (witness_row_at (enc := enc) (C := Tryz.checked) false (laidWorld Tryz.prog os Rows.fnExactReadRevolutionsRow.laid) #[.slice none 0 0, .int .i64 0] (laidWorld_os _ _ _) (by kernel_rfl) (by kernel_rfl) (by kernel_rfl)
      (OpenSpec.preRow_of_cond 8 hx rfl (fun k hk => by cases hk) (by kernel_rfl) (FnExactReadRevolutions_laid os))) ?_
  intro W base args ds gs before hval hW _ _ _ hL _ _
  exact FnExactReadRevolutions_contract H enc W base args ds gs before hval hW hL

theorem FnExactReadRevolutions_said : Rows.FnExactReadRevolutionsSaid :=
  OpenClaim.holds_of_cond 5 Tryz.f5 rfl rfl rfl rfl rfl rfl rfl ⟨rfl, rfl, rfl, rfl, rfl⟩ rfl rfl rfl rfl rfl (by kernel_rfl) Tryz.func5 (by kernel_rfl)
    (of_decide_eq_true (by kernel_rfl)) (by unfold Func.isWrapper; first | (rw [if_pos (by decide +kernel)]; kernel_rfl) | (rw [if_neg (by decide +kernel)]; exact ⟨rfl, rfl⟩))
    (fun os started H enc _ F => by rw [OpenClaim.pre_eq_preRow]; exact FnExactReadRevolutions_lifted os started H enc F)
theorem FnExactReadRevolutions_plain (f : FuncId) (fn : Func) (hf : Tryz.pinned.checked.prog.funcNamed Rows.fnExactReadRevolutionsRow.func = some f) (hfn : Tryz.pinned.checked.prog.funcs[f]? = some fn) :
    false = Tryz.pinned.checked.prog.looks [] ∧ ∀ (j : Nat) t, fn.params[j]? = some t → Tryz.pinned.checked.prog.wantsStandIn t = false := by
  obtain rfl : f = 5 := Option.some.inj ((show Tryz.prog.funcNamed Rows.fnExactReadRevolutionsRow.func = some 5 by kernel_rfl).symm.trans hf) |>.symm
  obtain rfl : fn = Tryz.f5 := (Option.some.inj (Tryz.func5.symm.trans hfn)).symm
  exact ⟨by kernel_rfl, fun j t ht => noStandIn (P := Tryz.prog) (fn := Tryz.f5) (by kernel_rfl) j t ht⟩
theorem FnExactReadRevolutions_proved : Rows.FnExactReadRevolutionsCardSaid :=
  Claim7.holds_tied_plain_at .later [] _ _ _ _ FnExactReadRevolutions_said (fun _ h => by cases h) (by kernel_rfl) (fun _ h => by cases h) fnExactReadRevolutions_row_tie rfl ⟨rfl, rfl⟩ (by kernel_rfl) rfl FnExactReadRevolutions_plain (by kernel_rfl)
#print axioms FnExactReadRevolutions_proved
end Go.Proofs.YtlelgpknkgjaeaaGreatDoor
