/- 'findMarks', 'FindMarks' of the program. -/
import Derived.Test.YtlelgpknkgjaeaaGreatDoorMksG
import Derived.Test.YtlelgpknkgjaeaaGreatDoorFmS
namespace Go.Proofs.YtlelgpknkgjaeaaGreatDoor
open Go.ChangeShapes Go.WideShapes Go.ChangeAt Go.RowKit
set_option linter.unusedSimpArgs false
set_option linter.unusedVariables false
set_option maxRecDepth 4000

set_option maxHeartbeats 1000000 in
theorem impl_findMarks (s : ByteArray) (f : Int) (w : World) (hv : validCells s = true) (hf : inB f 1 3 = true) (hT : Tab w) :
    Calls Tryz.prog 38 #[.string s, .int .i64 f] w fun e w' => ∃ n v, e = .returned v ∧ w'.ownsRow w.heap.size 51 3 v n ((marksV s f).flatMap MarkR.cells) ∧ Below w.heap.size w w' := by
  by_cases hf3 : f = 3
  · subst hf3
    have HG := Hid.in_ (impl_gcrMarks s w hv hT)
    have HE := Hid.in_ (show gcrI s = marksV s 3 by rw [gcr_eq hv]; rfl)
    clear hv hf hT
    go_enter Tryz.func38, Tryz.ntmps38
    go_wp2_with (go_at_call 67; refine HG.out.mono ?_; rintro e w1 ⟨n, v, rfl, ho, hb⟩)
    go_ret
    exact ⟨n, v, rfl, by rw [← HE.out]; exact ho, hb⟩
  · exact impl_findMarks_f s f w hv hf hf3 hT
set_option maxHeartbeats 1000000 in
theorem impl_FindMarks (s : ByteArray) (f : Int) (w : World) (hs : s.size ≤ 1048576) (hT : Tab w) :
    Calls Tryz.prog 8 #[.string s, .int .i64 f] w fun e w' => ∃ v, e = .returned (.tuple #[v, .int .i64 (fmCode s f)]) ∧ w'.ownsRow w.heap.size 51 3 v (fmVal s f).length ((fmVal s f).flatMap MarkR.cells) ∧ Below w.heap.size w w' := by
  have HC := Hid.in_ (fun w => impl_ValidCells s w (by omega))
  have HF := Hid.in_ (fun w => impl_isFormat f w)
  have HTB := Hid.in_ hT
  clear hT
  cases hv : validCells s
  · obtain ⟨e1, e2⟩ := fm_bad (s := s) (f := f) (by unfold fmOk; rw [hv]; rfl)
    have HE := Hid.in_ e1
    have HE2 := Hid.in_ e2
    rw [hv] at HC
    clear e1 e2 hv
    go_enter Tryz.func8, Tryz.ntmps8
    go_wp2_with (first | (go_at_call 36; refine (HC.out _).mono ?_; rintro e w0 ⟨rfl, hb0⟩; have HB0 := Hid.in_ hb0; clear hb0) | (go_at_call 37; refine (HF.out _).mono ?_; rintro e w3 ⟨rfl, rfl⟩))
    go_ret2
    rw [HE.out, HE2.out]
    exact ⟨_, rfl, World.ownsRow_nil _ _ _ _, HB0.out⟩
  · cases hf : inB f 1 3
    · obtain ⟨e1, e2⟩ := fm_bad (s := s) (f := f) (by unfold fmOk; rw [hv, hf]; rfl)
      have HE := Hid.in_ e1
      have HE2 := Hid.in_ e2
      rw [hv] at HC
      rw [hf] at HF
      clear e1 e2 hv hf
      go_enter Tryz.func8, Tryz.ntmps8
      go_wp2_with (first | (go_at_call 36; refine (HC.out _).mono ?_; rintro e w0 ⟨rfl, hb0⟩; have HB0 := Hid.in_ hb0; clear hb0) | (go_at_call 37; refine (HF.out _).mono ?_; rintro e w3 ⟨rfl, rfl⟩))
      go_ret2
      rw [HE.out, HE2.out]
      exact ⟨_, rfl, World.ownsRow_nil _ _ _ _, HB0.out⟩
    · have HM := Hid.in_ (fun w hT => impl_findMarks s f w hv hf hT)
      have HOK := Hid.in_ (show fmOk s f = true by unfold fmOk; rw [hv, hf]; rfl)
      have HLN := Hid.in_ (marksV_len (f := f) hv)
      rw [hv] at HC
      rw [hf] at HF
      clear hv hf
      go_enter Tryz.func8, Tryz.ntmps8
      go_wp2_with (first | (go_at_call 36; refine (HC.out _).mono ?_; rintro e w0 ⟨rfl, hb0⟩; have HB0 := Hid.in_ hb0; clear hb0) | (go_at_call 37; refine (HF.out _).mono ?_; rintro e w3 ⟨rfl, rfl⟩))
      refine (HM.out _ (HTB.out.step HB0.out)).mono ?_
      rintro e w1 ⟨n, v, rfl, ho1, hb1⟩
      obtain ⟨A, c, hv0, hlv, hnv, hAv⟩ := own_shape ho1
      subst hv0
      have hn := own_n ho1
      have HO := Hid.in_ (own_base ho1 HB0.out.size)
      have HB := Hid.in_ (HB0.out.trans (hb1.mono HB0.out.size))
      have hnb : n ≤ 24000 := by rw [hn]; exact HLN.out
      clear ho1 hb1 hlv hAv
      by_cases hl : n ≤ 64
      · obtain ⟨e1, e2⟩ := fm_good HOK.out (by rw [← hn]; exact hl)
        have HE := Hid.in_ e1
        have HE2 := Hid.in_ e2
        have HN := Hid.in_ hn
        clear e1 e2 hn
        go_wp2
        go_ret2
        rw [HE.out, HE2.out, ← HN.out]
        exact ⟨_, rfl, HO.out, HB.out⟩
      · obtain ⟨e1, e2⟩ := fm_full HOK.out (by rw [← hn]; exact hl)
        have HE := Hid.in_ e1
        have HE2 := Hid.in_ e2
        clear e1 e2 hn
        go_wp2
        go_ret2
        rw [HE.out, HE2.out]
        exact ⟨_, rfl, World.ownsRow_nil _ _ _ _, HB.out⟩
end Go.Proofs.YtlelgpknkgjaeaaGreatDoor
