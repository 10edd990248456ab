/- 'FnExactMergeFound': for every input the law returns true, and each argument reads behind the call as it read before. No condition. -/
import Derived.Test.YtlelgpknkgjaeaaLaw
import Derived.Test.YtlelgpknkgjaeaaMgV
import Derived.Test.YtlelgpknkgjaeaaVotHd
import Derived.Test.YtlelgpknkgjaeaaRows
namespace Go.Proofs.Ytlelgpknkgjaeaa
open Go.ChangeShapes Go.WideShapes Go.ChangeAt Go.RowKit
open Go.ChangeMaps (open_string shut_string)
set_option linter.unusedVariables false
theorem VRow.tch {w w' : World} {b B : Nat} {v : Value} {os : List VotO} (k : Tch fndT B w w') (h : VRow w b v os) : VRow w' b v os :=
  ⟨k.own h.row (by decide), fun o ho => k.own (h.weak o ho) (by decide), h.apart⟩
theorem sumTo_bound {l : List VotR} {B : Nat} (h : ∀ r ∈ l, r.l.length ≤ B) : ∀ k, sumTo l k ≤ B * k
  | 0 => by simp [sumTo]
  | k + 1 => by
    have ih := sumTo_bound h k
    cases hk : l[k]? with
    | none =>
      have : sumTo l (k + 1) = sumTo l k := by unfold sumTo; rw [List.take_add_one, hk]; simp
      rw [this, Nat.mul_add]; omega
    | some r =>
      have := h r (List.mem_of_getElem? hk)
      rw [sumTo_next hk, Nat.mul_add]; omega
theorem mg_weak {ls : List (List FndR)} (hg : ∀ f ∈ ls.flatten, goodF f) (a : AdrR) : (mergeV ls a).l.length ≤ 1024 := by
  have key : ∀ st : Int, (st = 1 ∨ st = 3) → (dataOf ls.flatten a st).length ≠ 0 → (placesTo (diffAt (dataOf ls.flatten a st)) (revLen (dataOf ls.flatten a st))).length ≤ 1024 := by
    intro st hst hne
    have hsz := data_size hg (a := a) hst
    obtain ⟨s, hs⟩ : ∃ s, s ∈ dataOf ls.flatten a st := by
      cases hd : dataOf ls.flatten a st with
      | nil => rw [hd] at hne; exact absurd rfl hne
      | cons x r => exact ⟨x, by simp⟩
    have h1 := hsz s hs
    have h2 := placesTo_len (diffAt (dataOf ls.flatten a st)) (revLen (dataOf ls.flatten a st))
    omega
  by_cases h1 : (dataOf ls.flatten a 1).length ≠ 0
  · rw [merge_one h1]; exact key 1 (.inl rfl) h1
  · by_cases h3 : (dataOf ls.flatten a 3).length ≠ 0
    · rw [merge_two h1 h3]; exact key 3 (.inr rfl) h3
    · rw [merge_none h1 h3]; exact Nat.zero_le _
theorem mf_bounds (ls : List (List FndR)) : (mfVal ls).length ≤ 320 ∧ ∀ r ∈ mfVal ls, r.l.length ≤ 1024 := by
  unfold mfVal
  split
  · rename_i h
    have hlen : inB (ls.length : Int) 1 5 = true := by unfold okMF at h; rw [Bool.and_eq_true] at h; exact h.1
    have hall : ∀ j fs, j < ls.length → ls[j]? = some fs → okFnds fs = true := fun j fs _ hj => by
      unfold okMF at h
      rw [Bool.and_eq_true, List.all_eq_true] at h
      exact h.2 fs (List.mem_of_getElem? hj)
    obtain ⟨_, _, h64, hg, _⟩ := mf_yes rfl hlen hall
    have h5 := inB_t hlen
    refine ⟨?_, fun r hr => ?_⟩
    · unfold mgV
      rw [List.length_map]
      exact Nat.le_trans (keysOf_len _) (flat_small (by omega) h64)
    · unfold mgV at hr
      obtain ⟨a, _, rfl⟩ := List.mem_map.1 hr
      exact mg_weak hg a
  · exact ⟨Nat.zero_le _, fun r hr => by cases hr⟩
set_option maxHeartbeats 4000000 in
theorem FnExactMergeFound_walk (A0 : Option Addr) (cap0 : Nat) (l0 : List FsA) (w : World) (s0 : ArgS w A0 l0.length cap0 1 (l0.flatMap FsA.cells)) (k0 : ∀ r ∈ l0, r.ok w) :
    Calls Try.prog 7 #[.slice A0 l0.length cap0] w fun e w' => e = .returned (.bool true) ∧ Below w.heap.size w w' := by
  obtain ⟨n, hn⟩ : ∃ n, l0.length = n := ⟨_, rfl⟩
  rw [hn] at s0 ⊢
  have HN := Hid.in_ hn
  have HS := Hid.in_ s0
  have HK := Hid.in_ k0
  obtain ⟨ls, hl⟩ : ∃ ls, l0.map FsA.r = ls := ⟨_, rfl⟩
  have HLN := Hid.in_ (show ls.length = n by rw [← hl, List.length_map, hn])
  obtain ⟨hM1, hM2⟩ := mf_bounds ls
  clear s0 k0 hn
  go_enter Try.func7, Try.ntmps7
  go_wp2_with fail
  refine (laws_szFoundSS _ _ w HS.out HN.out HK.out (Below.refl _ _) (by omega) (by omega)).mono ?_
  rintro e w1 ⟨rfl | ⟨r, rfl, hr0, hr1, hr2⟩, hb1⟩
  · go_wp2
    go_ret
    exact ⟨rfl, hb1⟩
  rw [hl] at hr1
  have hn2 : n ≤ 1048576 := by omega
  have hsum : sumL ls n ≤ 1048576 := by omega
  have HZ0 := Hid.in_ (show ∀ r ∈ l0, r.r.length ≤ 1048576 from fun x hx => by
    obtain ⟨j, hj⟩ := List.getElem?_of_mem hx
    have h1 : ls[j]? = some x.r := by rw [← hl, List.getElem?_map, hj]; rfl
    have h2 : j < ls.length := (List.getElem?_eq_some_iff.1 h1).1
    have h3 := sumL_next h1
    have h4 := sumL_mono ls n (j + 1) (by rw [← HLN.out]; omega)
    omega)
  have HD := Hid.in_ (show ∀ fs ∈ ls, ∀ f ∈ fs, f.d.size ≤ 1048576 from fun fs hfs f hf => by
    rw [← hl] at hfs
    obtain ⟨y, hy, rfl⟩ := List.mem_map.1 hfs
    have := hr2 y hy f hf
    omega)
  have HSM := Hid.in_ hsum
  have C0 := Hid.in_ (show ∀ (w' : World), Below w.heap.size w w' → Calls Try.prog 37 #[.slice A0 n cap0] w' fun e w'' => ∃ v os, e = .returned v ∧ os.map FsO.r = ls ∧ FsRow w'' w'.heap.size v os ∧ Below w'.heap.size w' w'' from fun w' hw => by
    rw [← hl]
    exact laws_toFoundSS w' w (HS.out.below hw) HN.out HK.out hw HZ0.out hn2)
  have hne : ¬ (((1 + 8 * sumL ls n : Nat) : Int) < 0) := by omega
  obtain ⟨V, hV⟩ : ∃ V, mfVal ls = V := ⟨_, rfl⟩
  obtain ⟨m, hVm⟩ : ∃ m, V.length = m := ⟨_, rfl⟩
  rw [hV] at hM1 hM2
  rw [hVm] at hM1
  have HV := Hid.in_ hV
  have HVM := Hid.in_ hVm
  have HSV := Hid.in_ (show sumTo V m ≤ 1048576 from by have := sumTo_bound hM2 m; have h2 : 1024 * m ≤ 1024 * 320 := Nat.mul_le_mul_left 1024 hM1; omega)
  have HSL := Hid.in_ (sumTo_le hVm)
  have hne2 : ¬ (((posAt 1 V m : Nat) : Int) < 0) := by omega
  have HI := Hid.in_ (show ∀ (v : Value) (b : Nat) (os : List FsO) (w : World), FsRow w b v os → os.map FsO.r = ls → Calls Try.prog 38 #[v] w fun e w' => ∃ v' os', e = .returned (.tuple #[v', .int .i64 (mfCode ls)]) ∧ os'.map VotO.r = V ∧ VRow w' w.heap.size v' os' ∧ Below w.heap.size w w' from fun v b os w h hl => by
    have := impl_MergeFound w h hl HLN.out HD.out
    rw [HV.out] at this
    exact this)
  have HSP := Hid.in_ (show ∀ (v : Value) (b : Nat) (os : List FsO) (w : World), FsRow w b v os → os.map FsO.r = ls → Calls Try.prog 36 #[v] w fun e w' => ∃ v' os', e = .returned (.tuple #[v', .int .i64 (mfCode ls)]) ∧ os'.map VotO.r = V ∧ VRow w' w.heap.size v' os' ∧ Below w.heap.size w w' from fun v b os w h hl => by
    have := spec_MergeFound w h hl HLN.out HD.out
    rw [HV.out] at this
    exact this)
  generalize mfCode ls = cd at *
  clear hr1 hr2 hsum hl hM2 hV hVm
  have HB1 := Hid.in_ hb1
  clear hb1
  go_wp2_with fail
  refine (C0.out _ HB1.out).mono ?_
  rintro e w2 ⟨v2, o2, rfl, he2, ho2, hb2⟩
  have hB2 := bstep HB1.out hb2
  go_wp2_with fail
  refine (HSP.out _ _ _ w2 ho2 he2).mono ?_
  rintro e w3 ⟨v3, p3, rfl, hp3, hr3, hb3⟩
  have hB3 := bstep hB2 hb3
  clear ho2 he2
  go_wp2_with fail
  refine (C0.out _ hB3).mono ?_
  rintro e w4 ⟨v4, o4, rfl, he4, ho4, hb4⟩
  have hB4 := bstep hB3 hb4
  have HE4 := Hid.in_ he4
  clear he4
  go_wp2_with fail
  refine (HI.out _ _ _ w4 ho4 HE4.out).mono ?_
  rintro e w5 ⟨v5, p5, rfl, hp5, hr5, hb5⟩
  have hB5 := bstep hB4 hb5
  have HP3 := Hid.in_ hp3
  have HP5 := Hid.in_ hp5
  have HR3 := Hid.in_ hr3
  have HR5 := Hid.in_ hr5
  have HO4 := Hid.in_ ho4
  have L4 := Hid.in_ hb4
  have L5 := Hid.in_ (show Below w3.heap.size w3 w5 from hb4.trans (hb5.mono hb4.size))
  have G4 := Hid.in_ (show w4.heap.size ≤ w5.heap.size from hb5.size)
  have H45 := Hid.in_ hb5
  clear hp3 hp5 hr3 hr5 ho4 hb4 hb5
  go_wp2_with fail
  refine (laws_eqVotedS _ HR5.out (HR3.out.step L5.out) (HP5.out.trans HP3.out.symm)).mono ?_
  rintro e w6 ⟨rfl, hb6⟩
  have hB6 := bstep hB5 hb6
  go_wp2_with fail
  refine (C0.out _ hB6).mono ?_
  rintro e w7 ⟨v7, o7, rfl, he7, ho7, hb7⟩
  have hB7 := bstep hB6 hb7
  have h57 := hb6.trans (hb7.mono hb6.size)
  have HE7 := Hid.in_ he7
  have h47 : Below w4.heap.size w4 w7 := by
    have hb5 := L5.out
    exact H45.out.trans (h57.mono G4.out)
  have ho47 : FsRow w7 w3.heap.size v4 o4 := FsRow.step h47 HO4.out
  go_wp2_with fail
  refine (laws_eqFoundSS _ ho47 ho7 (HE4.out.trans HE7.out.symm)).mono ?_
  rintro e w8 ⟨rfl, hb8⟩
  have hB8 := bstep hB7 hb8
  have h58 : Below w5.heap.size w5 w8 := h57.trans (hb8.mono h57.size)
  have L8 := Hid.in_ (show Below w3.heap.size w3 w8 from L5.out.trans (h58.mono L5.out.size))
  have HX8 := Hid.in_ (FsRow.step hb8 ho47)
  have G48 := Hid.in_ (show w4.heap.size ≤ w8.heap.size from Nat.le_trans G4.out h58.size)
  have HR58 := Hid.in_ (HR5.out.step h58)
  have HB8 := Hid.in_ hB8
  have G3 := Hid.in_ (show w.heap.size ≤ w3.heap.size from hB3.size)
  have G43 := Hid.in_ (show w3.heap.size ≤ w4.heap.size from L4.out.size)
  have G4B := Hid.in_ (show w.heap.size ≤ w4.heap.size from hB4.size)
  clear h57 h47 h58 ho47 ho7 he7 hb2 hb6 hb7 hb8 hB2 hB3 hB4 hB5 hB6 hB7 hB8 HB1
  go_wp2_with fail
  refine (show Calls Try.prog 40 #[v4, .int .i64 1] _ _ from laws_markFoundSS 1 _ HX8.out HE4.out HLN.out (by omega) (by omega) hn2 HSM.out L8.out.size).mono ?_
  rintro e w9 ⟨rfl, hT9⟩
  have HB9 := Hid.in_ (HB8.out.trans (hT9.low.mono G3.out))
  have L9 := Hid.in_ (L8.out.trans hT9.low)
  have HR9 := Hid.in_ (VRow.tch hT9 HR58.out)
  have G9 := Hid.in_ (show w4.heap.size ≤ w9.heap.size from Nat.le_trans G48.out hT9.size)
  clear hT9 HX8 HR58
  go_wp2_with fail
  refine (laws_eqVotedS _ HR9.out (HR3.out.step L9.out) (HP5.out.trans HP3.out.symm)).mono ?_
  rintro e w10 ⟨rfl, hb10⟩
  have HB10 := Hid.in_ (bstep HB9.out hb10)
  have L10 := Hid.in_ (L9.out.trans (hb10.mono L9.out.size))
  have HR10 := Hid.in_ (HR9.out.step hb10)
  have G10 := Hid.in_ (show w4.heap.size ≤ w10.heap.size from Nat.le_trans G9.out hb10.size)
  clear hb10
  go_wp2_with fail
  refine (show Calls Try.prog 32 #[v5, .int .i64 1] _ _ from laws_markVotedS 1 _ HR10.out HP5.out HVM.out (by omega) (by omega) (by omega) HSV.out HSL.out G10.out).mono ?_
  rintro e w11 ⟨rfl, ⟨q11, hq11, hr11⟩, hT11⟩
  have HB11 := Hid.in_ (HB10.out.trans (hT11.low.mono G4B.out))
  have L11 := Hid.in_ (L10.out.trans (hT11.low.mono G43.out))
  have HQ11 := Hid.in_ hq11
  have HR11 := Hid.in_ hr11
  clear hT11 hq11 hr11
  go_wp2_with fail
  refine (show Calls Try.prog 41 #[v5, .int .i64 1] _ _ from laws_heldVotedS 1 _ HR11.out HQ11.out HVM.out (by omega) (by omega) (by omega) HSV.out HSL.out).mono ?_
  rintro e w12 ⟨rfl, hb12⟩
  have HB12 := Hid.in_ (bstep HB11.out hb12)
  have L12 := Hid.in_ (L11.out.trans (hb12.mono L11.out.size))
  have HR12 := Hid.in_ (HR11.out.step hb12)
  clear hb12
  go_wp2_with fail
  refine (C0.out _ HB12.out).mono ?_
  rintro e w13 ⟨v13, o13, rfl, he13, ho13, hb13⟩
  have HB13 := Hid.in_ (bstep HB12.out hb13)
  have L13 := Hid.in_ (L12.out.trans (hb13.mono L12.out.size))
  have HR13 := Hid.in_ (HR12.out.step hb13)
  clear hb13
  go_wp2_with fail
  refine (HI.out _ _ _ w13 ho13 he13).mono ?_
  rintro e w14 ⟨v14, p14, rfl, hp14, hr14, hb14⟩
  have HB14 := Hid.in_ (bstep HB13.out hb14)
  have L14 := Hid.in_ (L13.out.trans (hb14.mono L13.out.size))
  have HR14 := Hid.in_ (HR13.out.step hb14)
  clear hb14
  go_wp2_with fail
  refine (laws_eqVotedS _ hr14 (HR3.out.step L14.out) (hp14.trans HP3.out.symm)).mono ?_
  rintro e w15 ⟨rfl, hb15⟩
  have HB15 := Hid.in_ (bstep HB14.out hb15)
  have HR15 := Hid.in_ (HR14.out.step hb15)
  clear hb15 hr14 ho13 he13
  go_wp2_with fail
  refine (show Calls Try.prog 41 #[v5, .int .i64 1] _ _ from laws_heldVotedS 1 _ HR15.out HQ11.out HVM.out (by omega) (by omega) (by omega) HSV.out HSL.out).mono ?_
  rintro e w16 ⟨rfl, hb16⟩
  have HB16 := Hid.in_ (bstep HB15.out hb16)
  clear hb16
  go_wp2
  go_ret
  exact ⟨rfl, HB16.out⟩

set_option maxRecDepth 100000 in
theorem FnExactMergeFound_lifted (os : Os) (started : os.Started) (H : Type) (enc : TypeId × Value → H) :
    ReturnsInHanded {} Try.checked os 7 .any (Rows.fnExactMergeFoundSpec.pre6 enc Try.prog Try.f7 Rows.fnExactMergeFoundRow.domain false) (Rows.fnExactMergeFoundSpec.post enc Try.prog Try.f7 false true false false) := by
  refine returnsInHanded_of_change (C := Try.checked) Try.own started (by kernel_rfl) Try.func7
    (ChangeSpec.witness6 (enc := enc) (C := Try.checked) false ⟨#[], #[.slice none 0 0], []⟩ 8 (by kernel_rfl) (by kernel_rfl) (by kernel_rfl) (by kernel_rfl)) ?_
  intro W base args ds gs before hval0 hW hcnd _
  have hval : ∀ (j : Nat) t v, Try.f7.params[j]? = some t → args[j]? = some v → Value.okWide Try.prog W .any base t v := hval0
  have hW' := hW
  obtain ⟨p, q, hA0, hV, hbe, hfz, hnd⟩ := hW
  have hA : DataW.TrodAll enc Try.prog W 0 (fun _ => true) true Try.f7.params.toList args.toList ds p := hA0
  rw [Try.params7] at hA hval
  obtain ⟨v0, vs0, d0, ds0, p0, q0, hargs, rfl, rfl, h0, r0⟩ := trodAll_cons hA
  obtain ⟨rfl, rfl, rfl⟩ := trodAll_nil r0
  obtain rfl : args = #[v0] := by cases args; simp_all
  obtain ⟨rfl, _⟩ := trodVars_none hV
  obtain ⟨A0, cap0, l0, rfl, s0, k0⟩ := slice_FsA (hval 0 58 v0 rfl rfl) h0
  clear hA0 hval0
  refine (FnExactMergeFound_walk A0 cap0 l0 W s0 k0).mono fun e W' ⟨he, hb⟩ => ?_
  subst he
  exact ⟨_, rfl, law_post Try.laidOut (by kernel_rfl) rfl Try.underlying4 rfl rfl hW' hb⟩

theorem FnExactMergeFound_over : Rows.fnExactMergeFoundRow.holds Try.pinned (OpenSpec.ofChange Rows.fnExactMergeFoundSpec) :=
  OpenClaim.holds_of_wide 7 Try.f7 rfl rfl rfl rfl rfl rfl rfl ⟨rfl, rfl, rfl, rfl, rfl⟩ rfl rfl rfl rfl rfl (by kernel_rfl) Try.func7 (by kernel_rfl)
    (of_decide_eq_true (by kernel_rfl)) (by unfold Func.isWrapper; first | (rw [if_pos (by decide +kernel)]; kernel_rfl) | (rw [if_neg (by decide +kernel)]; exact ⟨rfl, rfl⟩))
    (fun os started H enc _ => FnExactMergeFound_lifted os started H enc)

theorem FnExactMergeFound_proved : Rows.FnExactMergeFoundSaid := FnExactMergeFound_over
#print axioms FnExactMergeFound_proved
end Go.Proofs.Ytlelgpknkgjaeaa
