/- 'ValidVoted' of the reference. -/
import Derived.Test.YtlelgpknkgjaeaaVoted
import Derived.Deep.RegionWith
namespace Go.Proofs.Ytlelgpknkgjaeaa
open Go.ChangeShapes Go.WideShapes Go.ChangeAt Go.RowKit
set_option linter.unusedSimpArgs false
set_option linter.unusedVariables false
set_option maxRecDepth 8000

theorem quiet_v {P : Program} {f : FuncId} {args : Array Value} {w : World} {n : Nat} {v : Value}
    (h : Calls P f args (w.drewN n) fun e w' => e = .returned v ∧ ∃ m, w' = (w.drewN n).drewN m) : Calls P f args (w.drewN n) fun e w'' => e = .returned v ∧ ∃ m, w'' = w.drewN m :=
  h.mono fun _ _ ⟨he, q, hq⟩ => ⟨he, _, hq.trans (drewN_sum _ _ _)⟩
theorem beq_n0 (N : Nat) : (((N : Int) == 0) = decide (N = 0)) := by
  cases N with
  | zero => rfl
  | succ n => rw [decide_eq_false (by omega)]; exact beq_eq_false_iff_ne.2 (by omega)
theorem three_size {s : Int} (h : inB s 0 2 = true) : (s = 0 ∧ sizeBytes s = 8) ∨ (s = 1 ∧ sizeBytes s = 16) ∨ (s = 2 ∧ sizeBytes s = 32) := by
  obtain rfl | rfl | rfl := three0 h
  · exact .inl ⟨rfl, rfl⟩
  · exact .inr (.inl ⟨rfl, rfl⟩)
  · exact .inr (.inr ⟨rfl, rfl⟩)
set_option maxHeartbeats 2000000 in
theorem spec_l10Voted {c h n s : Int} {d : ByteArray} {t : Int} {x : Bool} {vo : Int} {A : Option Addr} {N cp b g : Nat} {l : List Int} (w : World) (ho : w.ownsRow b 2 1 (.slice A N cp) N (I64 l)) (hd : d.size ≤ 1048576) (hN2 : N ≤ 1048576)
    (hB : Box w g [.int .i64 c, .int .i64 h, .int .i64 n, .int .i64 s, .string d, .int .i64 t, .bool x, .slice A N cp, .int .i64 vo]) :
    Calls Try.prog 90 #[.pointer (some ⟨g, 0, none⟩)] w fun e w' => e = .returned (.bool (validVoted c h n s d t x l vo)) ∧ ∃ k, w' = w.drewN k := by
  have hlx : l.length = N := by have := ho.1; rw [I64_len] at this; omega
  have HR := Hid.in_ (fun q => spec_l00Rises 0 ((d.size : Int) - 1) (w.drewN q) (own_drewN ho q))
  have HL := Hid.in_ hlx
  have c0 := hB 0 _ rfl
  have c1 := hB 1 _ rfl
  have c2 := hB 2 _ rfl
  have c3 := hB 3 _ rfl
  have c4 := hB 4 _ rfl
  have c5 := hB 5 _ rfl
  have c6 := hB 6 _ rfl
  have c7 := hB 7 _ rfl
  have c8 := hB 8 _ rfl
  clear ho hlx hB
  obtain ⟨h1, HV⟩ | ⟨h1, h2, HV⟩ | ⟨h1, h2, h3, HV⟩ | ⟨h1, h2, h3, h4, HV⟩ | ⟨h1, h2, h3, h4, h5, HV⟩ | ⟨h1, h2, h3, h4, h5, HV⟩ := vot_cases c h n s vo
  case inr.inr.inr.inr.inr =>
    have HV2 := Hid.in_ (show validVoted c h n s d t x l vo = votSpec s d t x l by unfold validVoted; rw [HV.out, vot_spec]; rfl)
    cases hr : rises l 0 ((d.size : Int) - 1)
    · have HI := Hid.in_ (show votSpec s d t x l = false by unfold votSpec; rw [hr]; rfl)
      rw [hr] at HR
      clear hr
      go_enter Try.func90, Try.ntmps90
      go_wp2_with fail
      go_quiet (first | (go_at_call 42; first | exact quiet_left (bool_is (spec_l00In _ _ _ _) (by assumption)) | exact quiet_add_left (bool_is (spec_l00In _ _ _ _) (by assumption))) | (go_at_call 111; exact quiet_v (HR.out _)))
      go_wp2
      go_ret
      exact ⟨ret_bool (by rw [HV2.out, HI.out]), _, rfl⟩
    · have HI := Hid.in_ (show votSpec s d t x l = (if t = 1 then votWhole s d && decide (N = 0) else if t = 5 then votWhole s d && decide (0 < N) else if t = 3 then votWhole s d else (t == 4) && (d.toList.isEmpty && !x)) by unfold votSpec; rw [hr, HL.out]; rfl)
      rw [hr] at HR
      clear hr
      have hW : ∃ W : Bool, votWhole s d = W ∧ ∀ Z, sizeBytes s = Z → ((d.size : Int) == Z) = W := ⟨_, rfl, fun Z hZ => by
        unfold votWhole
        rw [hZ]
        by_cases h : (d.size : Int) = Z <;> simp [h]⟩
      obtain ⟨W, hW1, hW2⟩ := hW
      rw [hW1] at HI
      clear hW1
      obtain rfl | rfl | rfl | rfl | ⟨a1, a2, a3, a4, e1, e2, e3, e4⟩ := vot_five t
      · rw [if_pos rfl] at HI
        obtain ⟨rfl, hZ⟩ | ⟨rfl, hZ⟩ | ⟨rfl, hZ⟩ := three_size h4
        all_goals
          have hwb := hW2 _ hZ
          clear hW2 hZ
          cases W
          all_goals
            go_enter Try.func90, Try.ntmps90
            go_wp2_with fail
            go_quiet (first | (go_at_call 42; first | exact quiet_left (bool_is (spec_l00In _ _ _ _) (by assumption)) | exact quiet_add_left (bool_is (spec_l00In _ _ _ _) (by assumption))) | (go_at_call 111; exact quiet_v (HR.out _)))
            go_wp2_with fail
            go_quiet (fail)
            go_wp2
            go_ret
            exact ⟨ret_bool (by rw [HV2.out, HI.out]; first | done | (simp; done) | exact (by simp [beq_n0]) | (simp; exact beq_n0 N)), _, by first | rfl | exact drewN_sum _ _ _⟩
      · rw [if_neg (by decide), if_pos rfl] at HI
        obtain ⟨rfl, hZ⟩ | ⟨rfl, hZ⟩ | ⟨rfl, hZ⟩ := three_size h4
        all_goals
          have hwb := hW2 _ hZ
          clear hW2 hZ
          cases W
          all_goals
            go_enter Try.func90, Try.ntmps90
            go_wp2_with fail
            go_quiet (first | (go_at_call 42; first | exact quiet_left (bool_is (spec_l00In _ _ _ _) (by assumption)) | exact quiet_add_left (bool_is (spec_l00In _ _ _ _) (by assumption))) | (go_at_call 111; exact quiet_v (HR.out _)))
            go_wp2_with fail
            go_quiet (fail)
            go_wp2
            go_ret
            exact ⟨ret_bool (by rw [HV2.out, HI.out]; try simp), _, by first | rfl | exact drewN_sum _ _ _⟩
      · rw [if_neg (by decide), if_neg (by decide), if_pos rfl] at HI
        obtain ⟨rfl, hZ⟩ | ⟨rfl, hZ⟩ | ⟨rfl, hZ⟩ := three_size h4
        all_goals
          have hwb := hW2 _ hZ
          clear hW2 hZ
          cases W
          all_goals
            go_enter Try.func90, Try.ntmps90
            go_wp2_with fail
            go_quiet (first | (go_at_call 42; first | exact quiet_left (bool_is (spec_l00In _ _ _ _) (by assumption)) | exact quiet_add_left (bool_is (spec_l00In _ _ _ _) (by assumption))) | (go_at_call 111; exact quiet_v (HR.out _)))
            go_wp2_with fail
            go_quiet (fail)
            go_wp2
            go_ret
            exact ⟨ret_bool (by rw [HV2.out, HI.out]; try simp), _, by first | rfl | exact drewN_sum _ _ _⟩
      · rw [if_neg (by decide), if_neg (by decide), if_neg (by decide)] at HI
        obtain ⟨rfl, hZ⟩ | ⟨rfl, hZ⟩ | ⟨rfl, hZ⟩ := three_size h4
        all_goals
          have hwb := hW2 _ hZ
          clear hW2 hZ
          cases W
          all_goals
            cases he : d.toList.isEmpty
            case' false => rw [he] at HI
            case' true =>
              rw [he] at HI
              cases x
            all_goals
              go_enter Try.func90, Try.ntmps90
              go_wp2_with fail
              go_quiet (first | (go_at_call 42; first | exact quiet_left (bool_is (spec_l00In _ _ _ _) (by assumption)) | exact quiet_add_left (bool_is (spec_l00In _ _ _ _) (by assumption))) | (go_at_call 111; exact quiet_v (HR.out _)))
              go_wp2_with fail
              go_quiet (fail)
              go_wp2
              go_ret
              exact ⟨ret_bool (by rw [HV2.out, HI.out]; try simp), _, by first | rfl | exact drewN_sum _ _ _⟩
      · rw [if_neg a1, if_neg a2, if_neg a3, e4] at HI
        obtain ⟨rfl, hZ⟩ | ⟨rfl, hZ⟩ | ⟨rfl, hZ⟩ := three_size h4
        all_goals
          have hwb := hW2 _ hZ
          clear hW2 hZ
          cases W
          all_goals
            go_enter Try.func90, Try.ntmps90
            go_wp2_with fail
            go_quiet (first | (go_at_call 42; first | exact quiet_left (bool_is (spec_l00In _ _ _ _) (by assumption)) | exact quiet_add_left (bool_is (spec_l00In _ _ _ _) (by assumption))) | (go_at_call 111; exact quiet_v (HR.out _)))
            go_wp2_with fail
            go_quiet (fail)
            go_wp2
            go_ret
            exact ⟨ret_bool (by rw [HV2.out, HI.out]; try simp), _, by first | rfl | exact drewN_sum _ _ _⟩
  all_goals
    have HV2 := Hid.in_ (show validVoted c h n s d t x l vo = false by unfold validVoted; rw [HV.out]; rfl)
    go_enter Try.func90, Try.ntmps90
    go_wp2_with fail
    go_quiet ((go_at_call 42; first | exact quiet_left (bool_is (spec_l00In _ _ _ _) (by assumption)) | exact quiet_add_left (bool_is (spec_l00In _ _ _ _) (by assumption))))
    go_wp2
    go_ret
    exact ⟨ret_bool HV2.out.symm, _, rfl⟩
theorem spec_ValidVoted (c h n s : Int) (d : ByteArray) (t : Int) (x : Bool) (vo : Int) {v : Value} {N b : Nat} {l : List Int} (w : World) (ho : w.ownsRow b 2 1 v N (I64 l)) (hd : d.size ≤ 1048576) (hN2 : N ≤ 1048576) :
    Calls Try.prog 67 #[.agg #[.int .i64 c, .int .i64 h, .int .i64 n, .int .i64 s, .string d, .int .i64 t, .bool x, v, .int .i64 vo]] w fun e w' => e = .returned (.bool (validVoted c h n s d t x l vo)) ∧ Below w.heap.size w w' := by
  obtain ⟨A, cp, rfl, _, _, _⟩ := own_shape ho
  have hB := Hid.in_ (Box.new w [.int .i64 c, .int .i64 h, .int .i64 n, .int .i64 s, .string d, .int .i64 t, .bool x, .slice A N cp, .int .i64 vo] 77)
  have HO := Hid.in_ (ho.alloc (.cells #[.int .i64 c, .int .i64 h, .int .i64 n, .int .i64 s, .string d, .int .i64 t, .bool x, .slice A N cp, .int .i64 vo] 77))
  clear ho
  go_enter Try.func67, Try.ntmps67
  go_wp2_with fail
  refine (spec_l10Voted _ HO.out hd hN2 hB.out).mono ?_
  rintro e w' ⟨rfl, k, rfl⟩
  go_wp2
  go_ret
  exact ⟨rfl, below_drewN ((Below.refl _ _).alloc (Nat.le_refl _) _) _⟩
end Go.Proofs.Ytlelgpknkgjaeaa
