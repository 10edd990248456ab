/- 'ValidVoted' of the program and of the reference. -/
import Derived.Test.YtlelgpknkgjaeaaVotedL
import Derived.Test.YtlelgpknkgjaeaaMark
import Derived.Lib.Strings
namespace Go.Proofs.Ytlelgpknkgjaeaa
open Go.ChangeShapes Go.WideShapes Go.ChangeAt Go.RowKit
set_option linter.unusedSimpArgs false
set_option linter.unusedVariables false
set_option maxRecDepth 8000

def votBase (c h n s vo : Int) : Bool := inB c 0 255 && (inB h 0 255 && (inB n 0 255 && (inB s 0 2 && inB vo 1 5)))
def votWhole (s : Int) (d : ByteArray) : Bool := decide ((d.size : Int) = sizeBytes s)
def votState (t : Int) (l : List Int) : Bool := if t = 1 then decide (l.length = 0) else if t = 5 then decide (0 < l.length) else t == 3
def votIn (s : Int) (d : ByteArray) (t : Int) (x : Bool) (l : List Int) : Bool :=
  if t = 4 then d.toList.isEmpty && (decide (l.length = 0) && !x) else votWhole s d && (rises l 0 ((d.size : Int) - 1) && votState t l)
def validVoted (c h n s : Int) (d : ByteArray) (t : Int) (x : Bool) (l : List Int) (vo : Int) : Bool := votBase c h n s vo && votIn s d t x l
theorem vot_cases (c h n s vo : Int) :
    (inB c 0 255 = false ∧ Hid (votBase c h n s vo = false)) ∨ (inB c 0 255 = true ∧ inB h 0 255 = false ∧ Hid (votBase c h n s vo = false)) ∨
    (inB c 0 255 = true ∧ inB h 0 255 = true ∧ inB n 0 255 = false ∧ Hid (votBase c h n s vo = false)) ∨
    (inB c 0 255 = true ∧ inB h 0 255 = true ∧ inB n 0 255 = true ∧ inB s 0 2 = false ∧ Hid (votBase c h n s vo = false)) ∨
    (inB c 0 255 = true ∧ inB h 0 255 = true ∧ inB n 0 255 = true ∧ inB s 0 2 = true ∧ inB vo 1 5 = false ∧ Hid (votBase c h n s vo = false)) ∨
    (inB c 0 255 = true ∧ inB h 0 255 = true ∧ inB n 0 255 = true ∧ inB s 0 2 = true ∧ inB vo 1 5 = true ∧ Hid (votBase c h n s vo = true)) := by
  unfold Hid votBase
  cases inB c 0 255 <;> cases inB h 0 255 <;> cases inB n 0 255 <;> cases inB s 0 2 <;> cases inB vo 1 5 <;> simp
theorem vot_five (t : Int) : t = 1 ∨ t = 5 ∨ t = 3 ∨ t = 4 ∨ (t ≠ 1 ∧ t ≠ 5 ∧ t ≠ 3 ∧ t ≠ 4 ∧ (t == 1) = false ∧ (t == 5) = false ∧ (t == 3) = false ∧ (t == 4) = false) := by
  by_cases h1 : t = 1
  · exact .inl h1
  by_cases h2 : t = 5
  · exact .inr (.inl h2)
  by_cases h3 : t = 3
  · exact .inr (.inr (.inl h3))
  by_cases h4 : t = 4
  · exact .inr (.inr (.inr (.inl h4)))
  exact .inr (.inr (.inr (.inr ⟨h1, h2, h3, h4, beq_eq_false_iff_ne.2 h1, beq_eq_false_iff_ne.2 h2, beq_eq_false_iff_ne.2 h3, beq_eq_false_iff_ne.2 h4⟩)))
theorem isEmpty_size' (s : ByteArray) : s.toList.isEmpty = decide (s.size = 0) := by
  rw [show s.toList = s.data.toList from by cases s; exact Lib.toList_data _]
  have h : s.size = s.data.toList.length := by simp
  rw [h]
  cases s.data.toList <;> simp
/-- The reference's order of the tests. -/
def votSpec (s : Int) (d : ByteArray) (t : Int) (x : Bool) (l : List Int) : Bool :=
  rises l 0 ((d.size : Int) - 1) && (if t = 1 then votWhole s d && decide (l.length = 0) else if t = 5 then votWhole s d && decide (0 < l.length) else if t = 3 then votWhole s d else (t == 4) && (d.toList.isEmpty && !x))
theorem vot_spec (s : Int) (d : ByteArray) (t : Int) (x : Bool) (l : List Int) : votSpec s d t x l = votIn s d t x l := by
  unfold votSpec votIn votState
  obtain rfl | rfl | rfl | rfl | ⟨h1, h2, h3, h4, e1, e2, e3, e4⟩ := vot_five t
  · simp only [if_pos rfl, show ¬ (1 : Int) = 4 by decide, if_neg, not_false_eq_true]
    cases rises l 0 ((d.size : Int) - 1) <;> cases votWhole s d <;> simp
  · simp only [if_pos rfl, show ¬ (5 : Int) = 4 by decide, show ¬ (5 : Int) = 1 by decide, if_neg, not_false_eq_true]
    cases rises l 0 ((d.size : Int) - 1) <;> cases votWhole s d <;> simp
  · simp only [if_pos rfl, show ¬ (3 : Int) = 4 by decide, show ¬ (3 : Int) = 1 by decide, show ¬ (3 : Int) = 5 by decide, if_neg, not_false_eq_true]
    cases rises l 0 ((d.size : Int) - 1) <;> cases votWhole s d <;> simp
  · simp only [if_pos rfl, show ¬ (4 : Int) = 1 by decide, show ¬ (4 : Int) = 5 by decide, show ¬ (4 : Int) = 3 by decide, if_neg, not_false_eq_true]
    rw [isEmpty_size']
    by_cases hd : d.size = 0
    · rw [hd, show ((0 : Nat) : Int) - 1 = -1 from rfl, rises_none]
      cases x <;> simp
    · rw [decide_eq_false hd]
      simp
  · simp only [h1, h2, h3, h4, if_neg, not_false_eq_true, e4, e3]
    cases rises l 0 ((d.size : Int) - 1) <;> cases votWhole s d <;> simp
set_option maxHeartbeats 800000 in
theorem impl_ValidVoted (c h n s : Int) (d : ByteArray) (t : Int) (x : Bool) (vo : Int) {v : Value} {N b : Nat} {l : List Int} (w : World) (ho : w.ownsRow b 2 1 v N (I64 l)) (hd : d.size ≤ 1048576) (hN2 : N ≤ 1048576) :
    Calls Try.prog 68 #[.agg #[.int .i64 c, .int .i64 h, .int .i64 n, .int .i64 s, .string d, .int .i64 t, .bool x, v, .int .i64 vo]] w fun e w' => e = .returned (.bool (validVoted c h n s d t x l vo)) ∧ Below w.heap.size w w' := by
  have hlx : l.length = N := by have := ho.1; rw [I64_len] at this; omega
  obtain ⟨A, cp, rfl, _, _, _⟩ := own_shape ho
  have HR := Hid.in_ (fun q => impl_rises 0 ((d.size : Int) - 1) ((w.alloc (.cells #[.int .i64 c, .int .i64 h, .int .i64 n, .int .i64 s, .string d, .int .i64 t, .bool x, .slice A N cp, .int .i64 vo] 77)).drewN q) (own_drewN (ho.alloc _) q))
  have HB := Hid.in_ (balloc (Below.refl w.heap.size w) (.cells #[.int .i64 c, .int .i64 h, .int .i64 n, .int .i64 s, .string d, .int .i64 t, .bool x, .slice A N cp, .int .i64 vo] 77))
  have HL := Hid.in_ hlx
  clear ho hlx
  obtain ⟨h1, HV⟩ | ⟨h1, h2, HV⟩ | ⟨h1, h2, h3, HV⟩ | ⟨h1, h2, h3, h4, HV⟩ | ⟨h1, h2, h3, h4, h5, HV⟩ | ⟨h1, h2, h3, h4, h5, HV⟩ := vot_cases c h n s vo
  case inr.inr.inr.inr.inr =>
    have HV2 := Hid.in_ (show validVoted c h n s d t x l vo = votIn s d t x l by unfold validVoted; rw [HV.out]; rfl)
    have HSB := Hid.in_ (fun w => impl_sizeBytes s w h4)
    by_cases ht4 : t = 4
    · subst ht4
      have HI := Hid.in_ (show votIn s d 4 x l = (d.toList.isEmpty && (decide (N = 0) && !x)) by unfold votIn; rw [if_pos rfl, HL.out])
      cases he : d.toList.isEmpty
      · rw [he] at HI
        go_enter Try.func68, Try.ntmps68
        go_wp2_with (first | (go_at_call 87; refine (bool_is (impl_isByte _ _) (by assumption)).mono ?_; rintro e w' ⟨rfl, rfl⟩) | (go_at_call 44; refine (bool_is (impl_within _ _ _ _) (by assumption)).mono ?_; rintro e w' ⟨rfl, rfl⟩))
        go_ret
        exact ⟨ret_bool (by rw [HV2.out, HI.out]; rfl), HB.out⟩
      · rw [he] at HI
        by_cases hn0 : N = 0
        · rw [decide_eq_true hn0] at HI
          subst hn0
          cases x
          all_goals
            go_enter Try.func68, Try.ntmps68
            go_wp2_with (first | (go_at_call 87; refine (bool_is (impl_isByte _ _) (by assumption)).mono ?_; rintro e w' ⟨rfl, rfl⟩) | (go_at_call 44; refine (bool_is (impl_within _ _ _ _) (by assumption)).mono ?_; rintro e w' ⟨rfl, rfl⟩))
            go_ret
            exact ⟨ret_bool (by rw [HV2.out, HI.out]; rfl), HB.out⟩
        · rw [decide_eq_false hn0] at HI
          have hn1 : 0 < N := by omega
          go_enter Try.func68, Try.ntmps68
          go_wp2_with (first | (go_at_call 87; refine (bool_is (impl_isByte _ _) (by assumption)).mono ?_; rintro e w' ⟨rfl, rfl⟩) | (go_at_call 44; refine (bool_is (impl_within _ _ _ _) (by assumption)).mono ?_; rintro e w' ⟨rfl, rfl⟩))
          go_ret
          exact ⟨ret_bool (by rw [HV2.out, HI.out]; rfl), HB.out⟩
    · have e4 : (t == 4) = false := beq_eq_false_iff_ne.2 ht4
      have HI := Hid.in_ (show votIn s d t x l = (votWhole s d && (rises l 0 ((d.size : Int) - 1) && votState t l)) by unfold votIn; rw [if_neg ht4])
      by_cases hw : (d.size : Int) = sizeBytes s
      · have HW := Hid.in_ (show votWhole s d = true from decide_eq_true hw)
        generalize sizeBytes s = Z at *
        have hwb : ((d.size : Int) != Z) = false := by rw [hw]; simp
        clear hw
        cases hr : rises l 0 ((d.size : Int) - 1)
        · rw [hr] at HI HR
          go_enter Try.func68, Try.ntmps68
          go_wp2_with (first | (go_at_call 87; refine (bool_is (impl_isByte _ _) (by assumption)).mono ?_; rintro e w' ⟨rfl, rfl⟩) | (go_at_call 44; refine (bool_is (impl_within _ _ _ _) (by assumption)).mono ?_; rintro e w' ⟨rfl, rfl⟩))
          go_quiet (first | (go_at_call 91; first | exact quiet_left (HSB.out _) | exact quiet_add_left (HSB.out _)) | (go_at_call 92; first | exact quiet_left (HR.out _) | exact quiet_add_left (HR.out _)))
          go_wp2
          go_ret
          exact ⟨ret_bool (by rw [HV2.out, HI.out, HW.out]; rfl), below_drewN HB.out _⟩
        · rw [hr] at HI HR
          have hts : t = 1 ∨ t = 5 ∨ (t ≠ 1 ∧ t ≠ 5 ∧ (t == 1) = false ∧ (t == 5) = false) := by
            by_cases a1 : t = 1
            · exact .inl a1
            by_cases a2 : t = 5
            · exact .inr (.inl a2)
            · exact .inr (.inr ⟨a1, a2, beq_eq_false_iff_ne.2 a1, beq_eq_false_iff_ne.2 a2⟩)
          obtain rfl | rfl | ⟨a1, a2, a3, a4⟩ := hts
          · have HS := Hid.in_ (show votState 1 l = ((N : Int) == 0) by unfold votState; rw [if_pos rfl, HL.out]; by_cases h : N = 0 <;> simp [h])
            go_enter Try.func68, Try.ntmps68
            go_wp2_with (first | (go_at_call 87; refine (bool_is (impl_isByte _ _) (by assumption)).mono ?_; rintro e w' ⟨rfl, rfl⟩) | (go_at_call 44; refine (bool_is (impl_within _ _ _ _) (by assumption)).mono ?_; rintro e w' ⟨rfl, rfl⟩))
            go_quiet (first | (go_at_call 91; first | exact quiet_left (HSB.out _) | exact quiet_add_left (HSB.out _)) | (go_at_call 92; first | exact quiet_left (HR.out _) | exact quiet_add_left (HR.out _)))
            go_wp2
            go_ret
            exact ⟨ret_bool (by rw [HV2.out, HI.out, HW.out, HS.out]; try simp), below_drewN HB.out _⟩
          · have HS := Hid.in_ (show votState 5 l = decide (0 < N) by unfold votState; rw [if_neg (by decide), if_pos rfl, HL.out])
            go_enter Try.func68, Try.ntmps68
            go_wp2_with (first | (go_at_call 87; refine (bool_is (impl_isByte _ _) (by assumption)).mono ?_; rintro e w' ⟨rfl, rfl⟩) | (go_at_call 44; refine (bool_is (impl_within _ _ _ _) (by assumption)).mono ?_; rintro e w' ⟨rfl, rfl⟩))
            go_quiet (first | (go_at_call 91; first | exact quiet_left (HSB.out _) | exact quiet_add_left (HSB.out _)) | (go_at_call 92; first | exact quiet_left (HR.out _) | exact quiet_add_left (HR.out _)))
            go_wp2
            go_ret
            exact ⟨ret_bool (by rw [HV2.out, HI.out, HW.out, HS.out]; try simp), below_drewN HB.out _⟩
          · have HS := Hid.in_ (show votState t l = (t == 3) by unfold votState; rw [if_neg a1, if_neg a2])
            go_enter Try.func68, Try.ntmps68
            go_wp2_with (first | (go_at_call 87; refine (bool_is (impl_isByte _ _) (by assumption)).mono ?_; rintro e w' ⟨rfl, rfl⟩) | (go_at_call 44; refine (bool_is (impl_within _ _ _ _) (by assumption)).mono ?_; rintro e w' ⟨rfl, rfl⟩))
            go_quiet (first | (go_at_call 91; first | exact quiet_left (HSB.out _) | exact quiet_add_left (HSB.out _)) | (go_at_call 92; first | exact quiet_left (HR.out _) | exact quiet_add_left (HR.out _)))
            go_wp2
            go_ret
            exact ⟨ret_bool (by rw [HV2.out, HI.out, HW.out, HS.out]; try rfl), below_drewN HB.out _⟩
      · have HW := Hid.in_ (show votWhole s d = false from decide_eq_false hw)
        generalize sizeBytes s = Z at *
        have hwb : ((d.size : Int) != Z) = true := bne_iff_ne.2 hw
        clear hw
        go_enter Try.func68, Try.ntmps68
        go_wp2_with (first | (go_at_call 87; refine (bool_is (impl_isByte _ _) (by assumption)).mono ?_; rintro e w' ⟨rfl, rfl⟩) | (go_at_call 44; refine (bool_is (impl_within _ _ _ _) (by assumption)).mono ?_; rintro e w' ⟨rfl, rfl⟩))
        go_quiet ((go_at_call 91; first | exact quiet_left (HSB.out _) | exact quiet_add_left (HSB.out _)))
        go_wp2
        go_ret
        exact ⟨ret_bool (by rw [HV2.out, HI.out, HW.out]; rfl), below_drewN HB.out _⟩
  all_goals
    have HV2 := Hid.in_ (show validVoted c h n s d t x l vo = false by unfold validVoted; rw [HV.out]; rfl)
    go_enter Try.func68, Try.ntmps68
    go_wp2_with (first | (go_at_call 87; refine (bool_is (impl_isByte _ _) (by assumption)).mono ?_; rintro e w' ⟨rfl, rfl⟩) | (go_at_call 44; refine (bool_is (impl_within _ _ _ _) (by assumption)).mono ?_; rintro e w' ⟨rfl, rfl⟩))
    go_ret
    exact ⟨ret_bool HV2.out.symm, HB.out⟩
end Go.Proofs.Ytlelgpknkgjaeaa
