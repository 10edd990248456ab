/- 'FindMarks' of the reference. -/
import Derived.Test.YtlelgpknkgjaeaaGreatDoorMksS
namespace Go.Proofs.YtlelgpknkgjaeaaGreatDoor
open Go.ChangeShapes Go.WideShapes Go.ChangeAt Go.RowKit
set_option linter.unusedSimpArgs false
set_option linter.unusedVariables false
set_option maxRecDepth 4000

set_option maxHeartbeats 1000000 in
theorem spec_FindMarks (s : ByteArray) (f : Int) (w : World) (hs : s.size ≤ 1048576) :
    Calls Tryz.prog 7 #[.string s, .int .i64 f] w fun e w' => ∃ v, e = .returned (.tuple #[v, .int .i64 (fmCode s f)]) ∧ w'.ownsRow w.heap.size 51 3 v (fmVal s f).length ((fmVal s f).flatMap MarkR.cells) ∧ Below w.heap.size w w' := by
  have HC := Hid.in_ (fun w => spec_ValidCells s w (by omega))
  have HF := Hid.in_ (fun w => spec_l07Format f w)
  cases hv : validCells s
  · obtain ⟨e1, e2⟩ := fm_bad (s := s) (f := f) (by unfold fmOk; rw [hv]; rfl)
    have HE := Hid.in_ e1
    have HE2 := Hid.in_ e2
    rw [hv] at HC
    clear e1 e2 hv
    go_enter Tryz.func7, Tryz.ntmps7
    go_wp2_with (first | (go_at_call 33; refine (HC.out _).mono ?_; rintro e w0 ⟨rfl, rfl⟩) | (go_at_call 34; refine (HF.out _).mono ?_; rintro e w0 ⟨rfl, rfl⟩))
    go_ret2
    rw [HE.out, HE2.out]
    exact ⟨_, rfl, World.ownsRow_nil _ _ _ _, Below.refl _ _⟩
  · cases hf : inB f 1 3
    · obtain ⟨e1, e2⟩ := fm_bad (s := s) (f := f) (by unfold fmOk; rw [hv, hf]; rfl)
      have HE := Hid.in_ e1
      have HE2 := Hid.in_ e2
      rw [hv] at HC
      rw [hf] at HF
      clear e1 e2 hv hf
      go_enter Tryz.func7, Tryz.ntmps7
      go_wp2_with (first | (go_at_call 33; refine (HC.out _).mono ?_; rintro e w0 ⟨rfl, rfl⟩) | (go_at_call 34; refine (HF.out _).mono ?_; rintro e w0 ⟨rfl, rfl⟩))
      go_ret2
      rw [HE.out, HE2.out]
      exact ⟨_, rfl, World.ownsRow_nil _ _ _ _, Below.refl _ _⟩
    · have HM := Hid.in_ (fun w => spec_l07Marks s f w hv hf)
      have HOK := Hid.in_ (show fmOk s f = true by unfold fmOk; rw [hv, hf]; rfl)
      rw [hv] at HC
      rw [hf] at HF
      clear hv hf
      go_enter Tryz.func7, Tryz.ntmps7
      go_wp2_with (first | (go_at_call 33; refine (HC.out _).mono ?_; rintro e w0 ⟨rfl, rfl⟩) | (go_at_call 34; refine (HF.out _).mono ?_; rintro e w0 ⟨rfl, rfl⟩))
      refine (HM.out _).mono ?_
      rintro e w1 ⟨n, g, cap, rfl, ho1, hb1⟩
      have hn := own_n ho1
      have HO := Hid.in_ ho1
      have HB := Hid.in_ (show Below w.heap.size w w1 from hb1)
      clear ho1 hb1
      by_cases hl : n ≤ 64
      · obtain ⟨e1, e2⟩ := fm_good HOK.out (by rw [← hn]; exact hl)
        have HE := Hid.in_ e1
        have HE2 := Hid.in_ e2
        have HN := Hid.in_ hn
        clear e1 e2 hn
        go_wp2
        go_ret2
        rw [HE.out, HE2.out, ← HN.out]
        exact ⟨_, rfl, HO.out, HB.out⟩
      · obtain ⟨e1, e2⟩ := fm_full HOK.out (by rw [← hn]; exact hl)
        have HE := Hid.in_ e1
        have HE2 := Hid.in_ e2
        clear e1 e2 hn
        go_wp2
        go_ret2
        rw [HE.out, HE2.out]
        exact ⟨_, rfl, World.ownsRow_nil _ _ _ _, HB.out⟩
end Go.Proofs.YtlelgpknkgjaeaaGreatDoor
