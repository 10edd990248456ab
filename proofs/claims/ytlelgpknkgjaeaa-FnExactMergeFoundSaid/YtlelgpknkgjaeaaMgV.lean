/- 'MergeFound' of the program and of the reference. -/
import Derived.Test.YtlelgpknkgjaeaaMgF
namespace Go.Proofs.Ytlelgpknkgjaeaa
open Go.ChangeShapes Go.WideShapes Go.ChangeAt Go.RowKit
set_option linter.unusedSimpArgs false
set_option linter.unusedVariables false
set_option maxRecDepth 4000

def okMF (ls : List (List FndR)) : Bool := inB ls.length 1 5 && ls.all okFnds
def mfVal (ls : List (List FndR)) : List VotR := if okMF ls = true then mgV ls else []
def mfCode (ls : List (List FndR)) : Int := if okMF ls = true then 0 else 1
theorem ret_vi {v : Value} {a b : Int} (h : a = b) : Ending.returned (.tuple #[v, .int .i64 a]) = .returned (.tuple #[v, .int .i64 b]) := by rw [h]
theorem okFnd_good {f : FndR} (h : okFnd f = true) : goodF f ∧ 1 ≤ f.t ∧ f.t ≤ 4 := by
  unfold okFnd validFound at h
  simp only [Bool.and_eq_true] at h
  obtain ⟨⟨_, h2⟩, h3⟩ := h
  have h4 := inB_t h2
  refine ⟨fun ht => ?_, h4.1, h4.2⟩
  rw [if_neg (by omega), if_neg (by omega)] at h3
  simp only [Bool.and_eq_true, beq_iff_eq] at h3
  refine ⟨h3.2, ?_⟩
  have : sizeBytes f.s ≤ 32 := by unfold sizeBytes; split <;> (try split) <;> omega
  omega
theorem mf_bad {ls : List (List FndR)} (h : okMF ls = false) : mfVal ls = [] ∧ mfCode ls = 1 := by unfold mfVal mfCode; rw [h]; exact ⟨rfl, rfl⟩
theorem mf_len {ls : List (List FndR)} (h : inB ls.length 1 5 = false) : mfVal ls = [] ∧ mfCode ls = 1 := mf_bad (by unfold okMF; rw [h]; rfl)
theorem mf_no {ls : List (List FndR)} {k : Nat} {fs : List FndR} (hk : ls[k]? = some fs) (h : okFnds fs = false) : mfVal ls = [] ∧ mfCode ls = 1 := mf_bad (by
  unfold okMF
  cases hb : ls.all okFnds
  · exact Bool.and_false _
  · rw [List.all_eq_true] at hb
    rw [hb fs (List.mem_of_getElem? hk)] at h
    cases h)
theorem mf_yes {ls : List (List FndR)} {n : Nat} (hn : ls.length = n) (h : inB (n : Int) 1 5 = true) (ha : ∀ j fs, j < n → ls[j]? = some fs → okFnds fs = true) :
    mfVal ls = mgV ls ∧ mfCode ls = 0 ∧ (∀ fs ∈ ls, fs.length ≤ 64) ∧ (∀ f ∈ ls.flatten, goodF f) ∧ (∀ f ∈ ls.flatten, 1 ≤ f.t ∧ f.t ≤ 4) := by
  have hall : ∀ fs ∈ ls, okFnds fs = true := fun fs hfs => by
    obtain ⟨j, hj⟩ := List.getElem?_of_mem hfs
    exact ha j fs (by rw [← hn]; exact (List.getElem?_eq_some_iff.1 hj).1) hj
  have hok : okMF ls = true := by unfold okMF; rw [hn, h, Bool.true_and, List.all_eq_true]; exact hall
  have hf : ∀ f ∈ ls.flatten, okFnd f = true := fun f hf => by
    obtain ⟨fs, hfs, hff⟩ := List.mem_flatten.1 hf
    have := hall fs hfs
    unfold okFnds at this
    rw [Bool.and_eq_true, List.all_eq_true] at this
    exact this.1 f hff
  refine ⟨by unfold mfVal; rw [if_pos hok], by unfold mfCode; rw [if_pos hok], fun fs hfs => ?_, fun f h => (okFnd_good (hf f h)).1, fun f h => (okFnd_good (hf f h)).2⟩
  have := hall fs hfs
  unfold okFnds at this
  rw [Bool.and_eq_true] at this
  exact of_decide_eq_true this.2
set_option maxHeartbeats 4000000 in
theorem spec_MergeFound {v : Value} {b n : Nat} {os : List FsO} {ls : List (List FndR)} (w : World) (h : FsRow w b v os) (hl : os.map FsO.r = ls) (hn : ls.length = n) (hd : ∀ fs ∈ ls, ∀ f ∈ fs, f.d.size ≤ 1048576) :
    Calls Try.prog 36 #[v] w fun e w' => ∃ v' os', e = .returned (.tuple #[v', .int .i64 (mfCode ls)]) ∧ os'.map VotO.r = mfVal ls ∧ VRow w' w.heap.size v' os' ∧ Below w.heap.size w w' := by
  have hno : os.length = n := by rw [← hn, ← hl, List.length_map]
  have HFS := Hid.in_ h
  have HE := Hid.in_ h.each
  obtain ⟨A, c, rfl, _, hcn, hA⟩ := own_shape h.row
  rw [hno] at hcn hA HFS ⊢
  have H1 := Hid.in_ hA
  have HNO := Hid.in_ hno
  have HLS := Hid.in_ hl
  have HNN := Hid.in_ hn
  have HD := Hid.in_ hd
  clear h hl hd hno hA
  cases hin : inB (n : Int) 1 5
  · have HX := Hid.in_ (mf_len (ls := ls) (by rw [hn]; exact hin))
    clear hn
    go_enter Try.func36, Try.ntmps36
    go_wp2_with (go_at_call 42; refine (bool_is (spec_l00In _ _ _ _) (by assumption)).mono ?_; rintro e w' ⟨rfl, rfl⟩)
    go_ret2
    exact ⟨_, [], ret_vi HX.out.2.symm, by rw [HX.out.1]; rfl, VRow.nil _ _, Below.refl _ _⟩
  · have hin5 := inB_t hin
    have HIN := Hid.in_ hin
    clear hn
    go_enter Try.func36, Try.ntmps36
    go_wp2_with (go_at_call 42; refine (bool_is (spec_l00In _ _ _ _) (by assumption)).mono ?_; rintro e w' ⟨rfl, rfl⟩)
    go_loopg [4] n (fun m vi wr => ∃ k : Nat, k + m = n ∧ vi = .int .i64 k ∧ Hid (∀ j fs, j < k → ls[j]? = some fs → okFnds fs = true) ∧ Hid (Below w.heap.size w wr))
    case atStart => exact ⟨0, by omega, rfl, fun j fs hj => absurd hj (by omega), Below.refl _ _⟩
    case round =>
      obtain ⟨k, hkm, rfl, HA, HB⟩ := hrel
      have HK := Hid.in_ hkm
      clear hkm
      by_cases hlt : k < n
      · obtain ⟨g, rfl, _, hg, hx, _⟩ := H1.out (by omega)
        obtain ⟨⟨fs, fv⟩, ho⟩ := get_lt os k (by rw [HNO.out]; exact hlt)
        have hbx := Box.elem FsO.len hx ho
        rw [Nat.mul_one] at hbx
        have hc0 : w.cell? ⟨g, k, none⟩ = some fv := by have := hbx 0 _ rfl; exact this
        have hfr : w.ownsRow b 128 8 fv fs.length (fs.flatMap FndR.cells) := HE.out _ (List.mem_of_getElem? ho)
        have hli : ls[k]? = some fs := fso_get HLS.out ho
        have HLI := Hid.in_ hli
        have c0 : wr.cell? ⟨g, k, none⟩ = some fv := cstep HB.out hc0
        have HV := Hid.in_ (spec_l09List wr (own_below hfr HB.out (Nat.le_refl _)) (fun x hx => HD.out fs (List.mem_of_getElem? hli) x hx))
        clear hbx hx ho hfr hli hc0
        cases hok : okFnds fs
        · rw [hok] at HV
          have HX := Hid.in_ (mf_no HLI.out hok)
          clear hok
          go_wp2_with fail
          refine HV.out.mono ?_
          rintro e w2 ⟨rfl, hb2⟩
          have HB2 := Hid.in_ (HB.out.trans (hb2.mono HB.out.size))
          clear hb2 c0
          go_wp2
          go_ret2
          exact ⟨_, [], ret_vi HX.out.2.symm, by rw [HX.out.1]; rfl, VRow.nil _ _, HB2.out⟩
        · rw [hok] at HV
          have HOK := Hid.in_ hok
          clear hok
          go_wp2_with fail
          refine HV.out.mono ?_
          rintro e w2 ⟨rfl, hb2⟩
          have HB2 := Hid.in_ (HB.out.trans (hb2.mono HB.out.size))
          clear hb2 c0
          go_wp2
          have hk := HK.out
          go_roundg (gk - 1)
          case measure => omega
          case rel =>
            refine ⟨k + 1, by omega, by go_num, Hid.in_ (fun j x hj hx => ?_), HB2⟩
            rcases Nat.lt_or_ge j k with h1 | h1
            · exact HA.out j x h1 hx
            · obtain rfl : j = k := by omega
              rw [HLI.out] at hx
              injection hx with hx
              rw [← hx]; exact HOK.out
      · have hk := HK.out
        obtain rfl : k = n := by omega
        have HY := Hid.in_ (mf_yes HNN.out HIN.out HA.out)
        go_wp2_with fail
        refine (spec_l10Merge wr (HFS.out.below HB.out (Nat.le_refl _)) HLS.out HNN.out HY.out.2.2.1 (by omega) HY.out.2.2.2.1).mono ?_
        rintro e w2 ⟨v2, os2, rfl, hm2, hr2, hb2⟩
        have HB2 := Hid.in_ (HB.out.trans (hb2.mono HB.out.size))
        have HR2 := Hid.in_ (hr2.base HB.out.size)
        have HM2 := Hid.in_ hm2
        clear hb2 hr2 hm2
        go_wp2
        go_ret2
        exact ⟨_, os2, ret_vi HY.out.2.1.symm, by rw [HY.out.1]; exact HM2.out, HR2.out, HB2.out⟩
theorem impl_sizeF (A : Option Addr) (n c : Nat) (w : World) (hn : n ≤ 9223372036854775807) :
    Calls Try.prog 75 #[.slice A n c] w fun e w' => e = .returned (.int .i64 n) ∧ w = w' := by
  go_enter Try.func75, Try.ntmps75
  go_wp2
  go_ret
  exact ⟨rfl, rfl⟩
set_option maxHeartbeats 4000000 in
theorem impl_MergeFound {v : Value} {b n : Nat} {os : List FsO} {ls : List (List FndR)} (w : World) (h : FsRow w b v os) (hl : os.map FsO.r = ls) (hn : ls.length = n) (hd : ∀ fs ∈ ls, ∀ f ∈ fs, f.d.size ≤ 1048576) :
    Calls Try.prog 38 #[v] w fun e w' => ∃ v' os', e = .returned (.tuple #[v', .int .i64 (mfCode ls)]) ∧ os'.map VotO.r = mfVal ls ∧ VRow w' w.heap.size v' os' ∧ Below w.heap.size w w' := by
  have hno : os.length = n := by rw [← hn, ← hl, List.length_map]
  have HFS := Hid.in_ h
  have HE := Hid.in_ h.each
  obtain ⟨A, c, rfl, _, hcn, hA⟩ := own_shape h.row
  rw [hno] at hcn hA HFS ⊢
  have H1 := Hid.in_ hA
  have HNO := Hid.in_ hno
  have HLS := Hid.in_ hl
  have HNN := Hid.in_ hn
  have HD := Hid.in_ hd
  clear h hl hd hno hA
  cases hin : inB (n : Int) 1 5
  · have HX := Hid.in_ (mf_len (ls := ls) (by rw [hn]; exact hin))
    clear hn
    go_enter Try.func38, Try.ntmps38
    go_wp2_with (first | (go_at_call 75; refine (impl_sizeF _ _ _ _ (by omega)).mono ?_; rintro e w' ⟨rfl, rfl⟩) | (go_at_call 44; refine (bool_is (impl_within _ _ _ _) (by assumption)).mono ?_; rintro e w' ⟨rfl, rfl⟩))
    go_ret2
    exact ⟨_, [], ret_vi HX.out.2.symm, by rw [HX.out.1]; rfl, VRow.nil _ _, Below.refl _ _⟩
  · have hin5 := inB_t hin
    have HIN := Hid.in_ hin
    clear hn
    go_enter Try.func38, Try.ntmps38
    go_wp2_with (first | (go_at_call 75; refine (impl_sizeF _ _ _ _ (by omega)).mono ?_; rintro e w' ⟨rfl, rfl⟩) | (go_at_call 44; refine (bool_is (impl_within _ _ _ _) (by assumption)).mono ?_; rintro e w' ⟨rfl, rfl⟩))
    go_loopg [12] n (fun m vi wr => ∃ k : Nat, k + m = n ∧ vi = .int .i64 k ∧ Hid (∀ j fs, j < k → ls[j]? = some fs → okFnds fs = true) ∧ Hid (Below w.heap.size w wr))
    case atStart => exact ⟨0, by omega, rfl, fun j fs hj => absurd hj (by omega), Below.refl _ _⟩
    case round =>
      obtain ⟨k, hkm, rfl, HA, HB⟩ := hrel
      have HK := Hid.in_ hkm
      clear hkm
      by_cases hlt : k < n
      · obtain ⟨g, rfl, _, hg, hx, _⟩ := H1.out (by omega)
        obtain ⟨⟨fs, fv⟩, ho⟩ := get_lt os k (by rw [HNO.out]; exact hlt)
        have hbx := Box.elem FsO.len hx ho
        rw [Nat.mul_one] at hbx
        have hc0 : w.cell? ⟨g, k, none⟩ = some fv := by have := hbx 0 _ rfl; exact this
        have hfr : w.ownsRow b 128 8 fv fs.length (fs.flatMap FndR.cells) := HE.out _ (List.mem_of_getElem? ho)
        have hli : ls[k]? = some fs := fso_get HLS.out ho
        have HLI := Hid.in_ hli
        have c0 : wr.cell? ⟨g, k, none⟩ = some fv := cstep HB.out hc0
        have HV := Hid.in_ (impl_validFounds wr (own_below hfr HB.out (Nat.le_refl _)) (fun x hx => HD.out fs (List.mem_of_getElem? hli) x hx))
        clear hbx hx ho hfr hli hc0
        cases hok : okFnds fs
        · rw [hok] at HV
          have HX := Hid.in_ (mf_no HLI.out hok)
          clear hok
          go_wp2_with fail
          refine HV.out.mono ?_
          rintro e w2 ⟨rfl, hb2⟩
          have HB2 := Hid.in_ (HB.out.trans (hb2.mono HB.out.size))
          clear hb2 c0
          go_wp2
          go_ret2
          exact ⟨_, [], ret_vi HX.out.2.symm, by rw [HX.out.1]; rfl, VRow.nil _ _, HB2.out⟩
        · rw [hok] at HV
          have HOK := Hid.in_ hok
          clear hok
          go_wp2_with fail
          refine HV.out.mono ?_
          rintro e w2 ⟨rfl, hb2⟩
          have HB2 := Hid.in_ (HB.out.trans (hb2.mono HB.out.size))
          clear hb2 c0
          go_wp2
          have hk := HK.out
          go_roundg (gk - 1)
          case measure => omega
          case rel =>
            refine ⟨k + 1, by omega, by go_num, Hid.in_ (fun j x hj hx => ?_), HB2⟩
            rcases Nat.lt_or_ge j k with h1 | h1
            · exact HA.out j x h1 hx
            · obtain rfl : j = k := by omega
              rw [HLI.out] at hx
              injection hx with hx
              rw [← hx]; exact HOK.out
      · have hk := HK.out
        obtain rfl : k = n := by omega
        have HY := Hid.in_ (mf_yes HNN.out HIN.out HA.out)
        go_wp2_with fail
        refine (impl_mergeFound wr (HFS.out.below HB.out (Nat.le_refl _)) HLS.out HNN.out HY.out.2.2.1 (by omega) HY.out.2.2.2.1 HY.out.2.2.2.2).mono ?_
        rintro e w2 ⟨v2, os2, rfl, hm2, hr2, hb2⟩
        have HB2 := Hid.in_ (HB.out.trans (hb2.mono HB.out.size))
        have HR2 := Hid.in_ (hr2.base HB.out.size)
        have HM2 := Hid.in_ hm2
        clear hb2 hr2 hm2
        go_wp2
        go_ret2
        exact ⟨_, os2, ret_vi HY.out.2.1.symm, by rw [HY.out.1]; exact HM2.out, HR2.out, HB2.out⟩
end Go.Proofs.Ytlelgpknkgjaeaa
