/- 'VotedText' of the program and of the reference. -/
import Derived.Test.YtklaakhdpfgffaaDoorVotP
import Derived.Test.YtklaakhdpfgffaaDoorVotedS
import Derived.Deep.RegionHeld3
namespace Go.Proofs.YtklaakhdpfgffaaDoor
open Go.ChangeShapes Go.WideShapes Go.ChangeAt Go.RowKit
set_option linter.unusedSimpArgs false
set_option linter.unusedVariables false
set_option maxRecDepth 4000

set_option maxHeartbeats 8000000 in
theorem impl_VotedText {v : Value} {N b : Nat} {l : List Int} (c h n s : Int) (d : ByteArray) (t : Int) (x : Bool) (vo : Int) (w : World) (ho : w.ownsRow b 2 1 v N (I64 l)) (hd : d.size ≤ 1048576) (hN2 : N ≤ 1048576) (hP : PowT w) :
    Calls Tryd.prog 18 #[.agg #[.int .i64 c, .int .i64 h, .int .i64 n, .int .i64 s, .string d, .int .i64 t, .bool x, v, .int .i64 vo]] w fun e w' => e = .returned (.string (votedText c h n s d t x l vo)) ∧ Below w.heap.size w w' := by
  have hlx : l.length = N := by have := ho.1; rw [I64_len] at this; omega
  have HO := Hid.in_ ho
  obtain ⟨A, cp, rfl, _, hn, hA⟩ := own_shape ho
  have HA := Hid.in_ hA
  have HLX := Hid.in_ hlx
  have hB := Hid.in_ (Box.new w [.int .i64 c, .int .i64 h, .int .i64 n, .int .i64 s, .string d, .int .i64 t, .bool x, .slice A N cp, .int .i64 vo] 40)
  have HB0 := Hid.in_ (balloc (Below.refl w.heap.size w) (.cells #[.int .i64 c, .int .i64 h, .int .i64 n, .int .i64 s, .string d, .int .i64 t, .bool x, .slice A N cp, .int .i64 vo] 40))
  have HO0 := Hid.in_ (ostep HB0.out ho)
  have HP := Hid.in_ (tab_step hP HB0.out)
  have HV := Hid.in_ (fun w ho => impl_ValidVoted c h n s d t x vo (v := .slice A N cp) (N := N) (b := b) (l := l) w ho hd hN2)
  clear hP
  clear ho hA hlx
  obtain ⟨h1, HS⟩ | ⟨h1, c', h', n', s', t', vo', rfl, rfl, rfl, rfl, rfl, rfl, hc, hh, hn0, hs, ht1, ht5, ht2, hv5, hl32, hl31, HS⟩ := vott_cases c h n s d t x l vo
  · rw [h1] at HV
    obtain ⟨c0, c1, c2, c3, c4, c5, c6, c7, c8⟩ := box9 hB.out
    go_enter Tryd.func18, Tryd.ntmps18
    go_wp2_with fail
    refine (HV.out _ HO0.out).mono ?_
    rintro e w1 ⟨rfl, hb1⟩
    have HB1 := Hid.in_ (bstep HB0.out hb1)
    clear hb1
    go_wp2
    go_ret
    exact ⟨ret_strD HS.out.symm, HB1.out⟩
  · rw [h1] at HV
    have HT := Hid.in_ (fun w hP => impl_sectorText c' h' n' s' (t' : Int) w hc hh hn0 hs (by omega) (by omega) hP)
    have HD := Hid.in_ (fun w hP => impl_decimal vo' w (by omega) hP)
    have HJ := Hid.in_ (fun w ho hP => impl_joinNumbers (v := .slice A N cp) (n := N) (b := b) (l := l) ⟨#[32]⟩ w ho (fun y hy => by have := hl31 y hy; omega) (by rw [← HLX.out]; omega) (by decide) hP)
    have zT := secText_size (t' : Int) hc hh hn0 hs
    have zP := decS_size vo'
    have zJ := joinS_size hl32 hl31
    unfold votTxt votHead at HS
    rw [HLX.out] at HS
    generalize secText c' h' n' s' (t' : Int) = T at *
    generalize decS vo' = P at *
    generalize joinS l ⟨#[32]⟩ = J at *
    clear hl31 hl32
    have y0 : (⟨#[47]⟩ : ByteArray).size = 1 := rfl
    have y1 : (⟨#[32]⟩ : ByteArray).size = 1 := rfl
    have y2 : (⟨#[32, 100, 101, 108, 101, 116, 101, 100]⟩ : ByteArray).size = 8 := rfl
    have y3 : (⟨#[32, 118, 111, 116, 101, 115, 32]⟩ : ByteArray).size = 7 := rfl
    have y4 : (⟨#[32, 119, 101, 97, 107, 32]⟩ : ByteArray).size = 6 := rfl
    have y5 : (⟨#[32, 119, 101, 97, 107]⟩ : ByteArray).size = 5 := rfl
    rcases Nat.eq_zero_or_pos N with h0 | h0
    · subst h0
      rw [if_pos rfl] at HS
      cases x
      · rw [if_neg (by decide)] at HS
        have no1 : ¬ ((⟨#[32, 118, 111, 116, 101, 115, 32]⟩ : ByteArray).size + (P : ByteArray).size > 9223372036854775807) := by omega
        have z1 : (⟨#[32, 118, 111, 116, 101, 115, 32]⟩ ++ P : ByteArray).size ≤ 37 := by rw [ByteArray.size_append]; omega
        have no2 : ¬ ((T : ByteArray).size + (⟨#[32, 118, 111, 116, 101, 115, 32]⟩ ++ P : ByteArray).size > 9223372036854775807) := by omega
        have z2 : (T ++ (⟨#[32, 118, 111, 116, 101, 115, 32]⟩ ++ P) : ByteArray).size ≤ 1137 := by rw [ByteArray.size_append]; omega
        obtain ⟨c0, c1, c2, c3, c4, c5, c6, c7, c8⟩ := box9 hB.out
        go_enter Tryd.func18, Tryd.ntmps18
        go_wp2_with fail
        refine (HV.out _ HO0.out).mono ?_
        rintro e w1 ⟨rfl, hb1⟩
        have HX1 := Hid.in_ (Box.step hb1 hB.out)
        have HB1 := Hid.in_ (bstep HB0.out hb1)
        have HP1 := Hid.in_ (tab_step HP.out hb1)
        clear hb1 c0 c1 c2 c3 c4 c5 c6 c7 c8
        obtain ⟨c0, c1, c2, c3, c4, c5, c6, c7, c8⟩ := box9 HX1.out
        go_wp2_with fail
        refine (HT.out _ HP1.out).mono ?_
        rintro e w2 ⟨rfl, hb2⟩
        have HX2 := Hid.in_ (Box.step hb2 HX1.out)
        have HB2 := Hid.in_ (bstep HB1.out hb2)
        have HP2 := Hid.in_ (tab_step HP1.out hb2)
        clear hb2 c0 c1 c2 c3 c4 c5 c6 c7 c8
        obtain ⟨c0, c1, c2, c3, c4, c5, c6, c7, c8⟩ := box9 HX2.out
        go_wp2_with fail
        refine (HD.out _ HP2.out).mono ?_
        rintro e w3 ⟨rfl, hb3⟩
        have HX3 := Hid.in_ (Box.step hb3 HX2.out)
        have HB3 := Hid.in_ (bstep HB2.out hb3)
        have HP3 := Hid.in_ (tab_step HP2.out hb3)
        clear hb3 c0 c1 c2 c3 c4 c5 c6 c7 c8
        obtain ⟨c0, c1, c2, c3, c4, c5, c6, c7, c8⟩ := box9 HX3.out
        go_wp2
        go_ret
        exact ⟨ret_strD HS.out.symm, HB3.out⟩
      · rw [if_pos rfl] at HS
        have no0 : ¬ ((T : ByteArray).size + (⟨#[32, 100, 101, 108, 101, 116, 101, 100]⟩ : ByteArray).size > 9223372036854775807) := by omega
        have z0 : (T ++ ⟨#[32, 100, 101, 108, 101, 116, 101, 100]⟩ : ByteArray).size ≤ 1108 := by rw [ByteArray.size_append]; omega
        have no1 : ¬ ((⟨#[32, 118, 111, 116, 101, 115, 32]⟩ : ByteArray).size + (P : ByteArray).size > 9223372036854775807) := by omega
        have z1 : (⟨#[32, 118, 111, 116, 101, 115, 32]⟩ ++ P : ByteArray).size ≤ 37 := by rw [ByteArray.size_append]; omega
        have no2 : ¬ ((T ++ ⟨#[32, 100, 101, 108, 101, 116, 101, 100]⟩ : ByteArray).size + (⟨#[32, 118, 111, 116, 101, 115, 32]⟩ ++ P : ByteArray).size > 9223372036854775807) := by omega
        have z2 : (T ++ ⟨#[32, 100, 101, 108, 101, 116, 101, 100]⟩ ++ (⟨#[32, 118, 111, 116, 101, 115, 32]⟩ ++ P) : ByteArray).size ≤ 1145 := by rw [ByteArray.size_append]; omega
        obtain ⟨c0, c1, c2, c3, c4, c5, c6, c7, c8⟩ := box9 hB.out
        go_enter Tryd.func18, Tryd.ntmps18
        go_wp2_with fail
        refine (HV.out _ HO0.out).mono ?_
        rintro e w1 ⟨rfl, hb1⟩
        have HX1 := Hid.in_ (Box.step hb1 hB.out)
        have HB1 := Hid.in_ (bstep HB0.out hb1)
        have HP1 := Hid.in_ (tab_step HP.out hb1)
        clear hb1 c0 c1 c2 c3 c4 c5 c6 c7 c8
        obtain ⟨c0, c1, c2, c3, c4, c5, c6, c7, c8⟩ := box9 HX1.out
        go_wp2_with fail
        refine (HT.out _ HP1.out).mono ?_
        rintro e w2 ⟨rfl, hb2⟩
        have HX2 := Hid.in_ (Box.step hb2 HX1.out)
        have HB2 := Hid.in_ (bstep HB1.out hb2)
        have HP2 := Hid.in_ (tab_step HP1.out hb2)
        clear hb2 c0 c1 c2 c3 c4 c5 c6 c7 c8
        obtain ⟨c0, c1, c2, c3, c4, c5, c6, c7, c8⟩ := box9 HX2.out
        go_wp2_with fail
        refine (HD.out _ HP2.out).mono ?_
        rintro e w3 ⟨rfl, hb3⟩
        have HX3 := Hid.in_ (Box.step hb3 HX2.out)
        have HB3 := Hid.in_ (bstep HB2.out hb3)
        have HP3 := Hid.in_ (tab_step HP2.out hb3)
        clear hb3 c0 c1 c2 c3 c4 c5 c6 c7 c8
        obtain ⟨c0, c1, c2, c3, c4, c5, c6, c7, c8⟩ := box9 HX3.out
        go_wp2
        go_ret
        exact ⟨ret_strD HS.out.symm, HB3.out⟩
    · rw [if_neg (by omega)] at HS
      have h0' : (0 : Int) < (N : Int) := by omega
      cases x
      · rw [if_neg (by decide)] at HS
        have no1 : ¬ ((⟨#[32, 118, 111, 116, 101, 115, 32]⟩ : ByteArray).size + (P : ByteArray).size > 9223372036854775807) := by omega
        have z1 : (⟨#[32, 118, 111, 116, 101, 115, 32]⟩ ++ P : ByteArray).size ≤ 37 := by rw [ByteArray.size_append]; omega
        have no2 : ¬ ((T : ByteArray).size + (⟨#[32, 118, 111, 116, 101, 115, 32]⟩ ++ P : ByteArray).size > 9223372036854775807) := by omega
        have z2 : (T ++ (⟨#[32, 118, 111, 116, 101, 115, 32]⟩ ++ P) : ByteArray).size ≤ 1137 := by rw [ByteArray.size_append]; omega
        have no3 : ¬ ((⟨#[32, 119, 101, 97, 107, 32]⟩ : ByteArray).size + (J : ByteArray).size > 9223372036854775807) := by omega
        have z3 : (⟨#[32, 119, 101, 97, 107, 32]⟩ ++ J : ByteArray).size ≤ 2006 := by rw [ByteArray.size_append]; omega
        have no4 : ¬ ((T ++ (⟨#[32, 118, 111, 116, 101, 115, 32]⟩ ++ P) : ByteArray).size + (⟨#[32, 119, 101, 97, 107, 32]⟩ ++ J : ByteArray).size > 9223372036854775807) := by omega
        have z4 : (T ++ (⟨#[32, 118, 111, 116, 101, 115, 32]⟩ ++ P) ++ (⟨#[32, 119, 101, 97, 107, 32]⟩ ++ J) : ByteArray).size ≤ 3143 := by rw [ByteArray.size_append]; omega
        obtain ⟨c0, c1, c2, c3, c4, c5, c6, c7, c8⟩ := box9 hB.out
        go_enter Tryd.func18, Tryd.ntmps18
        go_wp2_with fail
        refine (HV.out _ HO0.out).mono ?_
        rintro e w1 ⟨rfl, hb1⟩
        have HX1 := Hid.in_ (Box.step hb1 hB.out)
        have HB1 := Hid.in_ (bstep HB0.out hb1)
        have HP1 := Hid.in_ (tab_step HP.out hb1)
        clear hb1 c0 c1 c2 c3 c4 c5 c6 c7 c8
        obtain ⟨c0, c1, c2, c3, c4, c5, c6, c7, c8⟩ := box9 HX1.out
        go_wp2_with fail
        refine (HT.out _ HP1.out).mono ?_
        rintro e w2 ⟨rfl, hb2⟩
        have HX2 := Hid.in_ (Box.step hb2 HX1.out)
        have HB2 := Hid.in_ (bstep HB1.out hb2)
        have HP2 := Hid.in_ (tab_step HP1.out hb2)
        clear hb2 c0 c1 c2 c3 c4 c5 c6 c7 c8
        obtain ⟨c0, c1, c2, c3, c4, c5, c6, c7, c8⟩ := box9 HX2.out
        go_wp2_with fail
        refine (HD.out _ HP2.out).mono ?_
        rintro e w3 ⟨rfl, hb3⟩
        have HX3 := Hid.in_ (Box.step hb3 HX2.out)
        have HB3 := Hid.in_ (bstep HB2.out hb3)
        have HP3 := Hid.in_ (tab_step HP2.out hb3)
        clear hb3 c0 c1 c2 c3 c4 c5 c6 c7 c8
        obtain ⟨c0, c1, c2, c3, c4, c5, c6, c7, c8⟩ := box9 HX3.out
        go_wp2_with fail
        refine (HJ.out _ (ostep HB3.out HO.out) HP3.out).mono ?_
        rintro e w4 ⟨rfl, hb4⟩
        have HB4 := Hid.in_ (bstep HB3.out hb4)
        clear hb4
        go_wp2
        go_ret
        exact ⟨ret_strD HS.out.symm, HB4.out⟩
      · rw [if_pos rfl] at HS
        have no0 : ¬ ((T : ByteArray).size + (⟨#[32, 100, 101, 108, 101, 116, 101, 100]⟩ : ByteArray).size > 9223372036854775807) := by omega
        have z0 : (T ++ ⟨#[32, 100, 101, 108, 101, 116, 101, 100]⟩ : ByteArray).size ≤ 1108 := by rw [ByteArray.size_append]; omega
        have no1 : ¬ ((⟨#[32, 118, 111, 116, 101, 115, 32]⟩ : ByteArray).size + (P : ByteArray).size > 9223372036854775807) := by omega
        have z1 : (⟨#[32, 118, 111, 116, 101, 115, 32]⟩ ++ P : ByteArray).size ≤ 37 := by rw [ByteArray.size_append]; omega
        have no2 : ¬ ((T ++ ⟨#[32, 100, 101, 108, 101, 116, 101, 100]⟩ : ByteArray).size + (⟨#[32, 118, 111, 116, 101, 115, 32]⟩ ++ P : ByteArray).size > 9223372036854775807) := by omega
        have z2 : (T ++ ⟨#[32, 100, 101, 108, 101, 116, 101, 100]⟩ ++ (⟨#[32, 118, 111, 116, 101, 115, 32]⟩ ++ P) : ByteArray).size ≤ 1145 := by rw [ByteArray.size_append]; omega
        have no3 : ¬ ((⟨#[32, 119, 101, 97, 107, 32]⟩ : ByteArray).size + (J : ByteArray).size > 9223372036854775807) := by omega
        have z3 : (⟨#[32, 119, 101, 97, 107, 32]⟩ ++ J : ByteArray).size ≤ 2006 := by rw [ByteArray.size_append]; omega
        have no4 : ¬ ((T ++ ⟨#[32, 100, 101, 108, 101, 116, 101, 100]⟩ ++ (⟨#[32, 118, 111, 116, 101, 115, 32]⟩ ++ P) : ByteArray).size + (⟨#[32, 119, 101, 97, 107, 32]⟩ ++ J : ByteArray).size > 9223372036854775807) := by omega
        have z4 : (T ++ ⟨#[32, 100, 101, 108, 101, 116, 101, 100]⟩ ++ (⟨#[32, 118, 111, 116, 101, 115, 32]⟩ ++ P) ++ (⟨#[32, 119, 101, 97, 107, 32]⟩ ++ J) : ByteArray).size ≤ 3151 := by rw [ByteArray.size_append]; omega
        obtain ⟨c0, c1, c2, c3, c4, c5, c6, c7, c8⟩ := box9 hB.out
        go_enter Tryd.func18, Tryd.ntmps18
        go_wp2_with fail
        refine (HV.out _ HO0.out).mono ?_
        rintro e w1 ⟨rfl, hb1⟩
        have HX1 := Hid.in_ (Box.step hb1 hB.out)
        have HB1 := Hid.in_ (bstep HB0.out hb1)
        have HP1 := Hid.in_ (tab_step HP.out hb1)
        clear hb1 c0 c1 c2 c3 c4 c5 c6 c7 c8
        obtain ⟨c0, c1, c2, c3, c4, c5, c6, c7, c8⟩ := box9 HX1.out
        go_wp2_with fail
        refine (HT.out _ HP1.out).mono ?_
        rintro e w2 ⟨rfl, hb2⟩
        have HX2 := Hid.in_ (Box.step hb2 HX1.out)
        have HB2 := Hid.in_ (bstep HB1.out hb2)
        have HP2 := Hid.in_ (tab_step HP1.out hb2)
        clear hb2 c0 c1 c2 c3 c4 c5 c6 c7 c8
        obtain ⟨c0, c1, c2, c3, c4, c5, c6, c7, c8⟩ := box9 HX2.out
        go_wp2_with fail
        refine (HD.out _ HP2.out).mono ?_
        rintro e w3 ⟨rfl, hb3⟩
        have HX3 := Hid.in_ (Box.step hb3 HX2.out)
        have HB3 := Hid.in_ (bstep HB2.out hb3)
        have HP3 := Hid.in_ (tab_step HP2.out hb3)
        clear hb3 c0 c1 c2 c3 c4 c5 c6 c7 c8
        obtain ⟨c0, c1, c2, c3, c4, c5, c6, c7, c8⟩ := box9 HX3.out
        go_wp2_with fail
        refine (HJ.out _ (ostep HB3.out HO.out) HP3.out).mono ?_
        rintro e w4 ⟨rfl, hb4⟩
        have HB4 := Hid.in_ (bstep HB3.out hb4)
        clear hb4
        go_wp2
        go_ret
        exact ⟨ret_strD HS.out.symm, HB4.out⟩
theorem vw_at {k : Nat} (h1 : 1 ≤ k) (h5 : k ≤ 5) (h2 : k ≠ 2) : ([.string ⟨#[]⟩, .string ⟨#[103, 111, 111, 100]⟩, .string ⟨#[]⟩, .string ⟨#[98, 97, 100, 45, 100, 97, 116, 97]⟩, .string ⟨#[110, 111, 45, 100, 97, 116, 97]⟩, .string ⟨#[119, 101, 97, 107]⟩] : List Value)[k]? = some (.string (secW (k : Int))) := by
  obtain rfl | rfl | rfl | rfl : k = 1 ∨ k = 3 ∨ k = 4 ∨ k = 5 := by omega
  all_goals rfl
set_option maxHeartbeats 8000000 in
theorem spec_VotedText {v : Value} {N b : Nat} {l : List Int} (c h n s : Int) (d : ByteArray) (t : Int) (x : Bool) (vo : Int) (w : World) (ho : w.ownsRow b 2 1 v N (I64 l)) (hd : d.size ≤ 1048576) (hN2 : N ≤ 1048576) :
    Calls Tryd.prog 16 #[.agg #[.int .i64 c, .int .i64 h, .int .i64 n, .int .i64 s, .string d, .int .i64 t, .bool x, v, .int .i64 vo]] w fun e w' => e = .returned (.string (votedText c h n s d t x l vo)) ∧ Below w.heap.size w w' := by
  have hlx : l.length = N := by have := ho.1; rw [I64_len] at this; omega
  have HO := Hid.in_ ho
  obtain ⟨A, cp, rfl, _, hn, hA⟩ := own_shape ho
  have HA := Hid.in_ hA
  have HLX := Hid.in_ hlx
  have hB := Hid.in_ (Box.new w [.int .i64 c, .int .i64 h, .int .i64 n, .int .i64 s, .string d, .int .i64 t, .bool x, .slice A N cp, .int .i64 vo] 40)
  have HB0 := Hid.in_ (balloc (Below.refl w.heap.size w) (.cells #[.int .i64 c, .int .i64 h, .int .i64 n, .int .i64 s, .string d, .int .i64 t, .bool x, .slice A N cp, .int .i64 vo] 40))
  have HO0 := Hid.in_ (ostep HB0.out ho)
  have HV := Hid.in_ (fun (w0 : World) (ho : w0.ownsRow b 2 1 (.slice A N cp) N (I64 l)) (h : Box w0 w.heap.size [.int .i64 c, .int .i64 h, .int .i64 n, .int .i64 s, .string d, .int .i64 t, .bool x, .slice A N cp, .int .i64 vo]) => show Calls Tryd.prog 41 #[.pointer (some ⟨w.heap.size, 0, none⟩)] w0 fun e w' => e = .returned (.bool (validVoted c _ n s d t x l vo)) ∧ Below w0.heap.size w0 w' from
    (spec_l10Voted w0 ho hd hN2 h).mono fun e w' ⟨he, k, hk⟩ => ⟨he, hk ▸ below_drewN (Below.refl _ _) k⟩)
  clear ho hA hlx
  obtain ⟨h1, HS⟩ | ⟨h1, c', h', n', s', t', vo', rfl, rfl, rfl, rfl, rfl, rfl, hc, hh, hn0, hs, ht1, ht5, ht2, hv5, hl32, hl31, HS⟩ := vott_cases c h n s d t x l vo
  · rw [h1] at HV
    go_enter Tryd.func16, Tryd.ntmps16
    go_wp2_with fail
    refine (HV.out _ HO0.out hB.out).mono ?_
    rintro e w1 ⟨rfl, hb1⟩
    go_wp2
    go_ret
    exact ⟨ret_strD HS.out.symm, bstep HB0.out hb1⟩
  · rw [h1] at HV
    have HG := Hid.in_ (fun (m : Nat) (D : ByteArray) (w : World) (h : Hid (decS m = D ∧ m ≤ 7999)) => show Calls Tryd.prog 37 #[.int .i64 m] w fun e w' => e = .returned (.string D) ∧ Below w.heap.size w w' from by
      have := spec_l09Dec m m w (Nat.le_refl _) (by have := h.out.2; omega)
      rw [h.out.1] at this
      exact this)
    have zC := decS_255 hc
    have zH := decS_255 hh
    have zN' := decS_255 hn0
    have zS := decS_255 hs
    have zP := decS_size vo'
    have zW := secW_size (t' : Int)
    rw [votTxt_to, HLX.out] at HS
    obtain ⟨Hd, EHd⟩ : ∃ Hd, Hid (votHead c' h' n' s' (t' : Int) x vo' = Hd) := ⟨_, rfl⟩
    rw [EHd.out] at HS
    unfold votHead secText secHead at EHd
    obtain ⟨W, HWt⟩ : ∃ W, Hid (secW (t' : Int) = W) := ⟨_, rfl⟩
    rw [HWt.out] at EHd zW
    obtain ⟨C, EC⟩ : ∃ D, Hid (decS c' = D ∧ c' ≤ 7999) := ⟨_, rfl, by omega⟩
    rw [EC.out.1] at EHd zC
    obtain ⟨H, EH⟩ : ∃ D, Hid (decS h' = D ∧ h' ≤ 7999) := ⟨_, rfl, by omega⟩
    rw [EH.out.1] at EHd zH
    obtain ⟨N', EN'⟩ : ∃ D, Hid (decS n' = D ∧ n' ≤ 7999) := ⟨_, rfl, by omega⟩
    rw [EN'.out.1] at EHd zN'
    obtain ⟨S, ES⟩ : ∃ D, Hid (decS s' = D ∧ s' ≤ 7999) := ⟨_, rfl, by omega⟩
    rw [ES.out.1] at EHd zS
    obtain ⟨P, EP⟩ : ∃ D, Hid (decS vo' = D ∧ vo' ≤ 7999) := ⟨_, rfl, by omega⟩
    rw [EP.out.1] at EHd zP
    have x1 : (0 : Int) ≤ (t' : Int) := by omega
    have x2 : (t' : Int) < 6 := by omega
    have y0 : (⟨#[47]⟩ : ByteArray).size = 1 := rfl
    have y1 : (⟨#[32]⟩ : ByteArray).size = 1 := rfl
    have y2 : (⟨#[32, 100, 101, 108, 101, 116, 101, 100]⟩ : ByteArray).size = 8 := rfl
    have y3 : (⟨#[32, 118, 111, 116, 101, 115, 32]⟩ : ByteArray).size = 7 := rfl
    have y4 : (⟨#[32, 119, 101, 97, 107, 32]⟩ : ByteArray).size = 6 := rfl
    have y5 : (⟨#[32, 119, 101, 97, 107]⟩ : ByteArray).size = 5 := rfl
    cases x
    · rw [if_neg (by decide)] at EHd
      have no0 : ¬ ((C : ByteArray).size + (⟨#[47]⟩ : ByteArray).size > 9223372036854775807) := by omega
      have z0 : (C ++ ⟨#[47]⟩ : ByteArray).size ≤ 257 := by rw [ByteArray.size_append]; omega
      have hadd0 : ∀ w0 : World, (Op.stringOp .add (C) (⟨#[47]⟩)).run Tryd.prog w0 = .ok (.string (C ++ ⟨#[47]⟩)) w0 := fun w0 => run_string_add_sum w0 _ _ (by omega)
      have no1 : ¬ ((C ++ ⟨#[47]⟩ : ByteArray).size + (H : ByteArray).size > 9223372036854775807) := by omega
      have z1 : (C ++ ⟨#[47]⟩ ++ H : ByteArray).size ≤ 513 := by rw [ByteArray.size_append]; omega
      have hadd1 : ∀ w0 : World, (Op.stringOp .add (C ++ ⟨#[47]⟩) (H)).run Tryd.prog w0 = .ok (.string (C ++ ⟨#[47]⟩ ++ H)) w0 := fun w0 => run_string_add_sum w0 _ _ (by omega)
      have no2 : ¬ ((C ++ ⟨#[47]⟩ ++ H : ByteArray).size + (⟨#[47]⟩ : ByteArray).size > 9223372036854775807) := by omega
      have z2 : (C ++ ⟨#[47]⟩ ++ H ++ ⟨#[47]⟩ : ByteArray).size ≤ 514 := by rw [ByteArray.size_append]; omega
      have hadd2 : ∀ w0 : World, (Op.stringOp .add (C ++ ⟨#[47]⟩ ++ H) (⟨#[47]⟩)).run Tryd.prog w0 = .ok (.string (C ++ ⟨#[47]⟩ ++ H ++ ⟨#[47]⟩)) w0 := fun w0 => run_string_add_sum w0 _ _ (by omega)
      have no3 : ¬ ((C ++ ⟨#[47]⟩ ++ H ++ ⟨#[47]⟩ : ByteArray).size + (N' : ByteArray).size > 9223372036854775807) := by omega
      have z3 : (C ++ ⟨#[47]⟩ ++ H ++ ⟨#[47]⟩ ++ N' : ByteArray).size ≤ 770 := by rw [ByteArray.size_append]; omega
      have hadd3 : ∀ w0 : World, (Op.stringOp .add (C ++ ⟨#[47]⟩ ++ H ++ ⟨#[47]⟩) (N')).run Tryd.prog w0 = .ok (.string (C ++ ⟨#[47]⟩ ++ H ++ ⟨#[47]⟩ ++ N')) w0 := fun w0 => run_string_add_sum w0 _ _ (by omega)
      have no4 : ¬ ((C ++ ⟨#[47]⟩ ++ H ++ ⟨#[47]⟩ ++ N' : ByteArray).size + (⟨#[32]⟩ : ByteArray).size > 9223372036854775807) := by omega
      have z4 : (C ++ ⟨#[47]⟩ ++ H ++ ⟨#[47]⟩ ++ N' ++ ⟨#[32]⟩ : ByteArray).size ≤ 771 := by rw [ByteArray.size_append]; omega
      have hadd4 : ∀ w0 : World, (Op.stringOp .add (C ++ ⟨#[47]⟩ ++ H ++ ⟨#[47]⟩ ++ N') (⟨#[32]⟩)).run Tryd.prog w0 = .ok (.string (C ++ ⟨#[47]⟩ ++ H ++ ⟨#[47]⟩ ++ N' ++ ⟨#[32]⟩)) w0 := fun w0 => run_string_add_sum w0 _ _ (by omega)
      have no5 : ¬ ((C ++ ⟨#[47]⟩ ++ H ++ ⟨#[47]⟩ ++ N' ++ ⟨#[32]⟩ : ByteArray).size + (S : ByteArray).size > 9223372036854775807) := by omega
      have z5 : (C ++ ⟨#[47]⟩ ++ H ++ ⟨#[47]⟩ ++ N' ++ ⟨#[32]⟩ ++ S : ByteArray).size ≤ 1027 := by rw [ByteArray.size_append]; omega
      have hadd5 : ∀ w0 : World, (Op.stringOp .add (C ++ ⟨#[47]⟩ ++ H ++ ⟨#[47]⟩ ++ N' ++ ⟨#[32]⟩) (S)).run Tryd.prog w0 = .ok (.string (C ++ ⟨#[47]⟩ ++ H ++ ⟨#[47]⟩ ++ N' ++ ⟨#[32]⟩ ++ S)) w0 := fun w0 => run_string_add_sum w0 _ _ (by omega)
      have no6 : ¬ ((C ++ ⟨#[47]⟩ ++ H ++ ⟨#[47]⟩ ++ N' ++ ⟨#[32]⟩ ++ S : ByteArray).size + (⟨#[32]⟩ : ByteArray).size > 9223372036854775807) := by omega
      have z6 : (C ++ ⟨#[47]⟩ ++ H ++ ⟨#[47]⟩ ++ N' ++ ⟨#[32]⟩ ++ S ++ ⟨#[32]⟩ : ByteArray).size ≤ 1028 := by rw [ByteArray.size_append]; omega
      have hadd6 : ∀ w0 : World, (Op.stringOp .add (C ++ ⟨#[47]⟩ ++ H ++ ⟨#[47]⟩ ++ N' ++ ⟨#[32]⟩ ++ S) (⟨#[32]⟩)).run Tryd.prog w0 = .ok (.string (C ++ ⟨#[47]⟩ ++ H ++ ⟨#[47]⟩ ++ N' ++ ⟨#[32]⟩ ++ S ++ ⟨#[32]⟩)) w0 := fun w0 => run_string_add_sum w0 _ _ (by omega)
      have no7 : ¬ ((C ++ ⟨#[47]⟩ ++ H ++ ⟨#[47]⟩ ++ N' ++ ⟨#[32]⟩ ++ S ++ ⟨#[32]⟩ : ByteArray).size + (W : ByteArray).size > 9223372036854775807) := by omega
      have z7 : (C ++ ⟨#[47]⟩ ++ H ++ ⟨#[47]⟩ ++ N' ++ ⟨#[32]⟩ ++ S ++ ⟨#[32]⟩ ++ W : ByteArray).size ≤ 1036 := by rw [ByteArray.size_append]; omega
      have hadd7 : ∀ w0 : World, (Op.stringOp .add (C ++ ⟨#[47]⟩ ++ H ++ ⟨#[47]⟩ ++ N' ++ ⟨#[32]⟩ ++ S ++ ⟨#[32]⟩) (W)).run Tryd.prog w0 = .ok (.string (C ++ ⟨#[47]⟩ ++ H ++ ⟨#[47]⟩ ++ N' ++ ⟨#[32]⟩ ++ S ++ ⟨#[32]⟩ ++ W)) w0 := fun w0 => run_string_add_sum w0 _ _ (by omega)
      have no8 : ¬ ((⟨#[32, 118, 111, 116, 101, 115, 32]⟩ : ByteArray).size + (P : ByteArray).size > 9223372036854775807) := by omega
      have z8 : (⟨#[32, 118, 111, 116, 101, 115, 32]⟩ ++ P : ByteArray).size ≤ 8007 := by rw [ByteArray.size_append]; omega
      have no9 : ¬ ((C ++ ⟨#[47]⟩ ++ H ++ ⟨#[47]⟩ ++ N' ++ ⟨#[32]⟩ ++ S ++ ⟨#[32]⟩ ++ W : ByteArray).size + (⟨#[32, 118, 111, 116, 101, 115, 32]⟩ ++ P : ByteArray).size > 9223372036854775807) := by omega
      have z9 : (C ++ ⟨#[47]⟩ ++ H ++ ⟨#[47]⟩ ++ N' ++ ⟨#[32]⟩ ++ S ++ ⟨#[32]⟩ ++ W ++ (⟨#[32, 118, 111, 116, 101, 115, 32]⟩ ++ P) : ByteArray).size ≤ 9043 := by rw [ByteArray.size_append]; omega
      have HHD := Hid.in_ (show (C ++ ⟨#[47]⟩ ++ H ++ ⟨#[47]⟩ ++ N' ++ ⟨#[32]⟩ ++ S ++ ⟨#[32]⟩ ++ W ++ (⟨#[32, 118, 111, 116, 101, 115, 32]⟩ ++ P) : ByteArray).size ≤ 9043 from by assumption)
      go_enter Tryd.func16, Tryd.ntmps16
      go_wp2_with fail
      refine (HV.out _ HO0.out hB.out).mono ?_
      rintro e w1 ⟨rfl, hb1⟩
      go_upto_region 4 with fail
      have HQ := Hid.in_ (show Box (w1.alloc (.cells #[.string ⟨#[]⟩, .string ⟨#[103, 111, 111, 100]⟩, .string ⟨#[]⟩, .string ⟨#[98, 97, 100, 45, 100, 97, 116, 97]⟩, .string ⟨#[110, 111, 45, 100, 97, 116, 97]⟩, .string ⟨#[119, 101, 97, 107]⟩] 9)) w.heap.size _ ∧ (w1.alloc (.cells #[.string ⟨#[]⟩, .string ⟨#[103, 111, 111, 100]⟩, .string ⟨#[]⟩, .string ⟨#[98, 97, 100, 45, 100, 97, 116, 97]⟩, .string ⟨#[110, 111, 45, 100, 97, 116, 97]⟩, .string ⟨#[119, 101, 97, 107]⟩] 9)).cell? ⟨w1.heap.size, t', none⟩ = some (.string W) from ⟨Box.step (bstep hb1 (balloc (Below.refl _ _) _)) hB.out, by rw [← HWt.out]; exact Box.new w1 [.string ⟨#[]⟩, .string ⟨#[103, 111, 111, 100]⟩, .string ⟨#[]⟩, .string ⟨#[98, 97, 100, 45, 100, 97, 116, 97]⟩, .string ⟨#[110, 111, 45, 100, 97, 116, 97]⟩, .string ⟨#[119, 101, 97, 107]⟩] 9 t' _ (vw_at ht1 ht5 ht2)⟩)
      have HB1 := Hid.in_ (balloc (bstep HB0.out hb1) (.cells #[.string ⟨#[]⟩, .string ⟨#[103, 111, 111, 100]⟩, .string ⟨#[]⟩, .string ⟨#[98, 97, 100, 45, 100, 97, 116, 97]⟩, .string ⟨#[110, 111, 45, 100, 97, 116, 97]⟩, .string ⟨#[119, 101, 97, 107]⟩] 9))
      clear hb1
      generalize w1.heap.size = g at *
      generalize w1.alloc (.cells #[.string ⟨#[]⟩, .string ⟨#[103, 111, 111, 100]⟩, .string ⟨#[]⟩, .string ⟨#[98, 97, 100, 45, 100, 97, 116, 97]⟩, .string ⟨#[110, 111, 45, 100, 97, 116, 97]⟩, .string ⟨#[119, 101, 97, 107]⟩] 9) = wA at *
      have q0 : wA.cell? ⟨w.heap.size, 0, none⟩ = some (.int .i64 (c' : Int)) := HQ.out.1 0 _ rfl
      have q1 : wA.cell? ⟨w.heap.size, 1, none⟩ = some (.int .i64 (h' : Int)) := HQ.out.1 1 _ rfl
      have q2 : wA.cell? ⟨w.heap.size, 2, none⟩ = some (.int .i64 (n' : Int)) := HQ.out.1 2 _ rfl
      have q3 : wA.cell? ⟨w.heap.size, 3, none⟩ = some (.int .i64 (s' : Int)) := HQ.out.1 3 _ rfl
      have q5 : wA.cell? ⟨w.heap.size, 5, none⟩ = some (.int .i64 (t' : Int)) := HQ.out.1 5 _ rfl
      have q6 : wA.cell? ⟨w.heap.size, 6, none⟩ = some (.bool false) := HQ.out.1 6 _ rfl
      have q7 : wA.cell? ⟨w.heap.size, 7, none⟩ = some (.slice A N cp) := HQ.out.1 7 _ rfl
      have q8 : wA.cell? ⟨w.heap.size, 8, none⟩ = some (.int .i64 (vo' : Int)) := HQ.out.1 8 _ rfl
      have qW : wA.cell? ⟨g, t', none⟩ = some (.string W) := HQ.out.2
      go_region_held3 (fun w' => w'.cell? ⟨w.heap.size, 0, none⟩ = some (.int .i64 (c' : Int)) ∧ w'.cell? ⟨w.heap.size, 1, none⟩ = some (.int .i64 (h' : Int)) ∧ w'.cell? ⟨w.heap.size, 2, none⟩ = some (.int .i64 (n' : Int)) ∧ w'.cell? ⟨w.heap.size, 3, none⟩ = some (.int .i64 (s' : Int)) ∧ w'.cell? ⟨w.heap.size, 5, none⟩ = some (.int .i64 (t' : Int)) ∧ w'.cell? ⟨w.heap.size, 6, none⟩ = some (.bool false) ∧ w'.cell? ⟨w.heap.size, 7, none⟩ = some (.slice A N cp) ∧ w'.cell? ⟨w.heap.size, 8, none⟩ = some (.int .i64 (vo' : Int)) ∧ w'.cell? ⟨g, t', none⟩ = some (.string W) ∧ Below w.heap.size w w')
        (first | exact ⟨e0, e1, e2, e3, e5, e6, e7, e8, eW, eB⟩ | exact ⟨q0, q1, q2, q3, q5, q6, q7, q8, qW, HB1.out.drew⟩ | exact ⟨q0, q1, q2, q3, q5, q6, q7, q8, qW, HB1.out⟩ | assumption)
        (first | (go_at_call 37; refine (HG.out _ _ _ (by assumption)).mono ?_; rintro e w6 ⟨rfl, hb6⟩; have e0 : w6.cell? ⟨w.heap.size, 0, none⟩ = some (.int .i64 (c' : Int)) := (by first | exact cstep hb6 e0 | exact cstep hb6 q0); have e1 : w6.cell? ⟨w.heap.size, 1, none⟩ = some (.int .i64 (h' : Int)) := (by first | exact cstep hb6 e1 | exact cstep hb6 q1); have e2 : w6.cell? ⟨w.heap.size, 2, none⟩ = some (.int .i64 (n' : Int)) := (by first | exact cstep hb6 e2 | exact cstep hb6 q2); have e3 : w6.cell? ⟨w.heap.size, 3, none⟩ = some (.int .i64 (s' : Int)) := (by first | exact cstep hb6 e3 | exact cstep hb6 q3); have e5 : w6.cell? ⟨w.heap.size, 5, none⟩ = some (.int .i64 (t' : Int)) := (by first | exact cstep hb6 e5 | exact cstep hb6 q5); have e6 : w6.cell? ⟨w.heap.size, 6, none⟩ = some (.bool false) := (by first | exact cstep hb6 e6 | exact cstep hb6 q6); have e7 : w6.cell? ⟨w.heap.size, 7, none⟩ = some (.slice A N cp) := (by first | exact cstep hb6 e7 | exact cstep hb6 q7); have e8 : w6.cell? ⟨w.heap.size, 8, none⟩ = some (.int .i64 (vo' : Int)) := (by first | exact cstep hb6 e8 | exact cstep hb6 q8); have eW : w6.cell? ⟨g, t', none⟩ = some (.string W) := (by first | exact cstep hb6 eW | exact cstep hb6 qW); have eB : Below w.heap.size w w6 := (by first | exact bstep eB hb6 | exact bstep HB1.out.drew hb6 | exact bstep HB1.out hb6)))
      all_goals
        have HB2 := Hid.in_ eB
        clear eB
        go_wp2_with fail
        refine (HG.out _ _ _ (by assumption)).mono ?_
        rintro e w7 ⟨rfl, hb7⟩
        have f7 : w7.cell? ⟨w.heap.size, 7, none⟩ = some (.slice A N cp) := cstep hb7 e7
        have HB7 := Hid.in_ (bstep HB2.out hb7)
        have HF7 := Hid.in_ f7
        clear hb7 q0 q1 q2 q3 q5 q6 q7 q8 qW e0 e1 e2 e3 e5 e6 e7 e8 eW
        go_wp2_with fail
        rw [EHd.out]
        have HHD' := Hid.in_ (show Hd.size ≤ 9043 from by rw [← EHd.out]; exact HHD.out)
        clear no0 z0 no1 z1 no2 z2 no3 z3 no4 z4 no5 z5 no6 z6 no7 z7 no8 z8 no9 z9 hadd0 hadd1 hadd2 hadd3 hadd4 hadd5 hadd6 hadd7 HHD
        go_loopg [4, 5] N (fun m v i wr => ∃ k : Nat, k + m = N ∧ i = .int .i64 k ∧ v = .string (votTo Hd l k) ∧ Hid (Below w.heap.size w wr) ∧ Hid (wr.cell? ⟨w.heap.size, 7, none⟩ = some (.slice A N cp)))
        case atStart => exact ⟨0, by omega, rfl, rfl, HB7, HF7⟩
        case round =>
          clear HB7 HF7 HB2 HB1 HQ
          obtain ⟨k, hkm, rfl, rfl, HB, HF⟩ := hrel
          have HK := Hid.in_ hkm
          have hXs := votTo_size Hd hl31 k (by rw [HLX.out]; omega)
          have hHs := HHD'.out
          clear hkm
          by_cases hlt : k < N
          · obtain ⟨g1, rfl, _, hg, hx, _⟩ := HA.out (by omega)
            obtain ⟨y, hy⟩ := get_lt l k (by rw [HLX.out]; exact hlt)
            have c0 := cstep HB.out (hx k _ (I64_get hy))
            have f7 := HF.out
            obtain ⟨y0, y31⟩ := hl31 y (List.mem_of_getElem? hy)
            have hgd : l.getD k 0 = y := by rw [List.getD_eq_getElem?_getD, hy]; rfl
            obtain ⟨y, rfl⟩ := Int.eq_ofNat_of_zero_le y0
            have HCk := Hid.in_ (HG.out y (decS y) wr ⟨rfl, by omega⟩)
            have zD := decS_size y
            have hk32 : k < 32 := by have := HLX.out; omega
            have hXb : (votTo Hd l k).size ≤ 12000 := by omega
            clear hk32
            have zy1 : (⟨#[32]⟩ : ByteArray).size = 1 := rfl
            have zy5 : (⟨#[32, 119, 101, 97, 107]⟩ : ByteArray).size = 5 := rfl
            rcases Nat.eq_zero_or_pos k with hk0 | hk0
            · subst hk0
              have HE := Hid.in_ (show votTo Hd l (0 + 1) = votTo Hd l 0 ++ ⟨#[32, 119, 101, 97, 107]⟩ ++ (⟨#[32]⟩ ++ decS y) from by
                show (if 0 = 0 then Hd ++ ⟨#[32, 119, 101, 97, 107]⟩ else votTo Hd l 0) ++ (⟨#[32]⟩ ++ decI (l.getD 0 0)) = _
                rw [if_pos rfl, hgd]
                rfl)
              clear hx hy hgd hXs hHs hl31 hg
              generalize votTo Hd l 0 = X at *
              generalize decS y = D at *
              have n1 : ¬ (X.size + (⟨#[32, 119, 101, 97, 107]⟩ : ByteArray).size > 9223372036854775807) := by omega
              have n2 : ¬ ((⟨#[32]⟩ : ByteArray).size + D.size > 9223372036854775807) := by omega
              have m1 : (X ++ ⟨#[32, 119, 101, 97, 107]⟩ : ByteArray).size ≤ 12005 := by rw [ByteArray.size_append]; omega
              have m2 : (⟨#[32]⟩ ++ D : ByteArray).size ≤ 34 := by rw [ByteArray.size_append]; omega
              have n3 : ¬ ((X ++ ⟨#[32, 119, 101, 97, 107]⟩ : ByteArray).size + (⟨#[32]⟩ ++ D : ByteArray).size > 9223372036854775807) := by omega
              go_wp2_with fail
              refine HCk.out.mono ?_
              rintro e w2 ⟨rfl, hb2⟩
              have HB2 := Hid.in_ (bstep HB.out hb2)
              have HF2 := Hid.in_ (cstep hb2 HF.out)
              clear hb2
              go_wp2
              have hk := HK.out
              go_roundg (gk - 1)
              case measure => omega
              case rel => exact ⟨0 + 1, by omega, by go_num, by rw [HE.out], HB2, HF2⟩
            · have hk1 : ((k : Int) == 0) = false := beq_eq_false_iff_ne.2 (by omega)
              have HE := Hid.in_ (show votTo Hd l (k + 1) = votTo Hd l k ++ (⟨#[32]⟩ ++ decS y) from by
                show (if k = 0 then Hd ++ ⟨#[32, 119, 101, 97, 107]⟩ else votTo Hd l k) ++ (⟨#[32]⟩ ++ decI (l.getD k 0)) = _
                rw [if_neg (by omega), hgd]
                rfl)
              clear hx hy hgd hXs hHs hl31 hg
              generalize votTo Hd l k = X at *
              generalize decS y = D at *
              have n2 : ¬ ((⟨#[32]⟩ : ByteArray).size + D.size > 9223372036854775807) := by omega
              have m2 : (⟨#[32]⟩ ++ D : ByteArray).size ≤ 34 := by rw [ByteArray.size_append]; omega
              have n3 : ¬ (X.size + (⟨#[32]⟩ ++ D : ByteArray).size > 9223372036854775807) := by omega
              go_wp2_with fail
              refine HCk.out.mono ?_
              rintro e w2 ⟨rfl, hb2⟩
              have HB2 := Hid.in_ (bstep HB.out hb2)
              have HF2 := Hid.in_ (cstep hb2 HF.out)
              clear hb2
              go_wp2
              have hk := HK.out
              go_roundg (gk - 1)
              case measure => omega
              case rel => exact ⟨k + 1, by omega, by go_num, by rw [HE.out], HB2, HF2⟩
          · have hk := HK.out
            obtain rfl : k = N := by omega
            have f7 := HF.out
            go_wp2
            go_ret
            exact ⟨ret_strD HS.out.symm, HB.out⟩
    · rw [if_pos rfl] at EHd
      have no0 : ¬ ((C : ByteArray).size + (⟨#[47]⟩ : ByteArray).size > 9223372036854775807) := by omega
      have z0 : (C ++ ⟨#[47]⟩ : ByteArray).size ≤ 257 := by rw [ByteArray.size_append]; omega
      have hadd0 : ∀ w0 : World, (Op.stringOp .add (C) (⟨#[47]⟩)).run Tryd.prog w0 = .ok (.string (C ++ ⟨#[47]⟩)) w0 := fun w0 => run_string_add_sum w0 _ _ (by omega)
      have no1 : ¬ ((C ++ ⟨#[47]⟩ : ByteArray).size + (H : ByteArray).size > 9223372036854775807) := by omega
      have z1 : (C ++ ⟨#[47]⟩ ++ H : ByteArray).size ≤ 513 := by rw [ByteArray.size_append]; omega
      have hadd1 : ∀ w0 : World, (Op.stringOp .add (C ++ ⟨#[47]⟩) (H)).run Tryd.prog w0 = .ok (.string (C ++ ⟨#[47]⟩ ++ H)) w0 := fun w0 => run_string_add_sum w0 _ _ (by omega)
      have no2 : ¬ ((C ++ ⟨#[47]⟩ ++ H : ByteArray).size + (⟨#[47]⟩ : ByteArray).size > 9223372036854775807) := by omega
      have z2 : (C ++ ⟨#[47]⟩ ++ H ++ ⟨#[47]⟩ : ByteArray).size ≤ 514 := by rw [ByteArray.size_append]; omega
      have hadd2 : ∀ w0 : World, (Op.stringOp .add (C ++ ⟨#[47]⟩ ++ H) (⟨#[47]⟩)).run Tryd.prog w0 = .ok (.string (C ++ ⟨#[47]⟩ ++ H ++ ⟨#[47]⟩)) w0 := fun w0 => run_string_add_sum w0 _ _ (by omega)
      have no3 : ¬ ((C ++ ⟨#[47]⟩ ++ H ++ ⟨#[47]⟩ : ByteArray).size + (N' : ByteArray).size > 9223372036854775807) := by omega
      have z3 : (C ++ ⟨#[47]⟩ ++ H ++ ⟨#[47]⟩ ++ N' : ByteArray).size ≤ 770 := by rw [ByteArray.size_append]; omega
      have hadd3 : ∀ w0 : World, (Op.stringOp .add (C ++ ⟨#[47]⟩ ++ H ++ ⟨#[47]⟩) (N')).run Tryd.prog w0 = .ok (.string (C ++ ⟨#[47]⟩ ++ H ++ ⟨#[47]⟩ ++ N')) w0 := fun w0 => run_string_add_sum w0 _ _ (by omega)
      have no4 : ¬ ((C ++ ⟨#[47]⟩ ++ H ++ ⟨#[47]⟩ ++ N' : ByteArray).size + (⟨#[32]⟩ : ByteArray).size > 9223372036854775807) := by omega
      have z4 : (C ++ ⟨#[47]⟩ ++ H ++ ⟨#[47]⟩ ++ N' ++ ⟨#[32]⟩ : ByteArray).size ≤ 771 := by rw [ByteArray.size_append]; omega
      have hadd4 : ∀ w0 : World, (Op.stringOp .add (C ++ ⟨#[47]⟩ ++ H ++ ⟨#[47]⟩ ++ N') (⟨#[32]⟩)).run Tryd.prog w0 = .ok (.string (C ++ ⟨#[47]⟩ ++ H ++ ⟨#[47]⟩ ++ N' ++ ⟨#[32]⟩)) w0 := fun w0 => run_string_add_sum w0 _ _ (by omega)
      have no5 : ¬ ((C ++ ⟨#[47]⟩ ++ H ++ ⟨#[47]⟩ ++ N' ++ ⟨#[32]⟩ : ByteArray).size + (S : ByteArray).size > 9223372036854775807) := by omega
      have z5 : (C ++ ⟨#[47]⟩ ++ H ++ ⟨#[47]⟩ ++ N' ++ ⟨#[32]⟩ ++ S : ByteArray).size ≤ 1027 := by rw [ByteArray.size_append]; omega
      have hadd5 : ∀ w0 : World, (Op.stringOp .add (C ++ ⟨#[47]⟩ ++ H ++ ⟨#[47]⟩ ++ N' ++ ⟨#[32]⟩) (S)).run Tryd.prog w0 = .ok (.string (C ++ ⟨#[47]⟩ ++ H ++ ⟨#[47]⟩ ++ N' ++ ⟨#[32]⟩ ++ S)) w0 := fun w0 => run_string_add_sum w0 _ _ (by omega)
      have no6 : ¬ ((C ++ ⟨#[47]⟩ ++ H ++ ⟨#[47]⟩ ++ N' ++ ⟨#[32]⟩ ++ S : ByteArray).size + (⟨#[32]⟩ : ByteArray).size > 9223372036854775807) := by omega
      have z6 : (C ++ ⟨#[47]⟩ ++ H ++ ⟨#[47]⟩ ++ N' ++ ⟨#[32]⟩ ++ S ++ ⟨#[32]⟩ : ByteArray).size ≤ 1028 := by rw [ByteArray.size_append]; omega
      have hadd6 : ∀ w0 : World, (Op.stringOp .add (C ++ ⟨#[47]⟩ ++ H ++ ⟨#[47]⟩ ++ N' ++ ⟨#[32]⟩ ++ S) (⟨#[32]⟩)).run Tryd.prog w0 = .ok (.string (C ++ ⟨#[47]⟩ ++ H ++ ⟨#[47]⟩ ++ N' ++ ⟨#[32]⟩ ++ S ++ ⟨#[32]⟩)) w0 := fun w0 => run_string_add_sum w0 _ _ (by omega)
      have no7 : ¬ ((C ++ ⟨#[47]⟩ ++ H ++ ⟨#[47]⟩ ++ N' ++ ⟨#[32]⟩ ++ S ++ ⟨#[32]⟩ : ByteArray).size + (W : ByteArray).size > 9223372036854775807) := by omega
      have z7 : (C ++ ⟨#[47]⟩ ++ H ++ ⟨#[47]⟩ ++ N' ++ ⟨#[32]⟩ ++ S ++ ⟨#[32]⟩ ++ W : ByteArray).size ≤ 1036 := by rw [ByteArray.size_append]; omega
      have hadd7 : ∀ w0 : World, (Op.stringOp .add (C ++ ⟨#[47]⟩ ++ H ++ ⟨#[47]⟩ ++ N' ++ ⟨#[32]⟩ ++ S ++ ⟨#[32]⟩) (W)).run Tryd.prog w0 = .ok (.string (C ++ ⟨#[47]⟩ ++ H ++ ⟨#[47]⟩ ++ N' ++ ⟨#[32]⟩ ++ S ++ ⟨#[32]⟩ ++ W)) w0 := fun w0 => run_string_add_sum w0 _ _ (by omega)
      have no8 : ¬ ((C ++ ⟨#[47]⟩ ++ H ++ ⟨#[47]⟩ ++ N' ++ ⟨#[32]⟩ ++ S ++ ⟨#[32]⟩ ++ W : ByteArray).size + (⟨#[32, 100, 101, 108, 101, 116, 101, 100]⟩ : ByteArray).size > 9223372036854775807) := by omega
      have z8 : (C ++ ⟨#[47]⟩ ++ H ++ ⟨#[47]⟩ ++ N' ++ ⟨#[32]⟩ ++ S ++ ⟨#[32]⟩ ++ W ++ ⟨#[32, 100, 101, 108, 101, 116, 101, 100]⟩ : ByteArray).size ≤ 1044 := by rw [ByteArray.size_append]; omega
      have no9 : ¬ ((⟨#[32, 118, 111, 116, 101, 115, 32]⟩ : ByteArray).size + (P : ByteArray).size > 9223372036854775807) := by omega
      have z9 : (⟨#[32, 118, 111, 116, 101, 115, 32]⟩ ++ P : ByteArray).size ≤ 8007 := by rw [ByteArray.size_append]; omega
      have no10 : ¬ ((C ++ ⟨#[47]⟩ ++ H ++ ⟨#[47]⟩ ++ N' ++ ⟨#[32]⟩ ++ S ++ ⟨#[32]⟩ ++ W ++ ⟨#[32, 100, 101, 108, 101, 116, 101, 100]⟩ : ByteArray).size + (⟨#[32, 118, 111, 116, 101, 115, 32]⟩ ++ P : ByteArray).size > 9223372036854775807) := by omega
      have z10 : (C ++ ⟨#[47]⟩ ++ H ++ ⟨#[47]⟩ ++ N' ++ ⟨#[32]⟩ ++ S ++ ⟨#[32]⟩ ++ W ++ ⟨#[32, 100, 101, 108, 101, 116, 101, 100]⟩ ++ (⟨#[32, 118, 111, 116, 101, 115, 32]⟩ ++ P) : ByteArray).size ≤ 9051 := by rw [ByteArray.size_append]; omega
      have HHD := Hid.in_ (show (C ++ ⟨#[47]⟩ ++ H ++ ⟨#[47]⟩ ++ N' ++ ⟨#[32]⟩ ++ S ++ ⟨#[32]⟩ ++ W ++ ⟨#[32, 100, 101, 108, 101, 116, 101, 100]⟩ ++ (⟨#[32, 118, 111, 116, 101, 115, 32]⟩ ++ P) : ByteArray).size ≤ 9051 from by assumption)
      go_enter Tryd.func16, Tryd.ntmps16
      go_wp2_with fail
      refine (HV.out _ HO0.out hB.out).mono ?_
      rintro e w1 ⟨rfl, hb1⟩
      go_upto_region 4 with fail
      have HQ := Hid.in_ (show Box (w1.alloc (.cells #[.string ⟨#[]⟩, .string ⟨#[103, 111, 111, 100]⟩, .string ⟨#[]⟩, .string ⟨#[98, 97, 100, 45, 100, 97, 116, 97]⟩, .string ⟨#[110, 111, 45, 100, 97, 116, 97]⟩, .string ⟨#[119, 101, 97, 107]⟩] 9)) w.heap.size _ ∧ (w1.alloc (.cells #[.string ⟨#[]⟩, .string ⟨#[103, 111, 111, 100]⟩, .string ⟨#[]⟩, .string ⟨#[98, 97, 100, 45, 100, 97, 116, 97]⟩, .string ⟨#[110, 111, 45, 100, 97, 116, 97]⟩, .string ⟨#[119, 101, 97, 107]⟩] 9)).cell? ⟨w1.heap.size, t', none⟩ = some (.string W) from ⟨Box.step (bstep hb1 (balloc (Below.refl _ _) _)) hB.out, by rw [← HWt.out]; exact Box.new w1 [.string ⟨#[]⟩, .string ⟨#[103, 111, 111, 100]⟩, .string ⟨#[]⟩, .string ⟨#[98, 97, 100, 45, 100, 97, 116, 97]⟩, .string ⟨#[110, 111, 45, 100, 97, 116, 97]⟩, .string ⟨#[119, 101, 97, 107]⟩] 9 t' _ (vw_at ht1 ht5 ht2)⟩)
      have HB1 := Hid.in_ (balloc (bstep HB0.out hb1) (.cells #[.string ⟨#[]⟩, .string ⟨#[103, 111, 111, 100]⟩, .string ⟨#[]⟩, .string ⟨#[98, 97, 100, 45, 100, 97, 116, 97]⟩, .string ⟨#[110, 111, 45, 100, 97, 116, 97]⟩, .string ⟨#[119, 101, 97, 107]⟩] 9))
      clear hb1
      generalize w1.heap.size = g at *
      generalize w1.alloc (.cells #[.string ⟨#[]⟩, .string ⟨#[103, 111, 111, 100]⟩, .string ⟨#[]⟩, .string ⟨#[98, 97, 100, 45, 100, 97, 116, 97]⟩, .string ⟨#[110, 111, 45, 100, 97, 116, 97]⟩, .string ⟨#[119, 101, 97, 107]⟩] 9) = wA at *
      have q0 : wA.cell? ⟨w.heap.size, 0, none⟩ = some (.int .i64 (c' : Int)) := HQ.out.1 0 _ rfl
      have q1 : wA.cell? ⟨w.heap.size, 1, none⟩ = some (.int .i64 (h' : Int)) := HQ.out.1 1 _ rfl
      have q2 : wA.cell? ⟨w.heap.size, 2, none⟩ = some (.int .i64 (n' : Int)) := HQ.out.1 2 _ rfl
      have q3 : wA.cell? ⟨w.heap.size, 3, none⟩ = some (.int .i64 (s' : Int)) := HQ.out.1 3 _ rfl
      have q5 : wA.cell? ⟨w.heap.size, 5, none⟩ = some (.int .i64 (t' : Int)) := HQ.out.1 5 _ rfl
      have q6 : wA.cell? ⟨w.heap.size, 6, none⟩ = some (.bool true) := HQ.out.1 6 _ rfl
      have q7 : wA.cell? ⟨w.heap.size, 7, none⟩ = some (.slice A N cp) := HQ.out.1 7 _ rfl
      have q8 : wA.cell? ⟨w.heap.size, 8, none⟩ = some (.int .i64 (vo' : Int)) := HQ.out.1 8 _ rfl
      have qW : wA.cell? ⟨g, t', none⟩ = some (.string W) := HQ.out.2
      go_region_held3 (fun w' => w'.cell? ⟨w.heap.size, 0, none⟩ = some (.int .i64 (c' : Int)) ∧ w'.cell? ⟨w.heap.size, 1, none⟩ = some (.int .i64 (h' : Int)) ∧ w'.cell? ⟨w.heap.size, 2, none⟩ = some (.int .i64 (n' : Int)) ∧ w'.cell? ⟨w.heap.size, 3, none⟩ = some (.int .i64 (s' : Int)) ∧ w'.cell? ⟨w.heap.size, 5, none⟩ = some (.int .i64 (t' : Int)) ∧ w'.cell? ⟨w.heap.size, 6, none⟩ = some (.bool true) ∧ w'.cell? ⟨w.heap.size, 7, none⟩ = some (.slice A N cp) ∧ w'.cell? ⟨w.heap.size, 8, none⟩ = some (.int .i64 (vo' : Int)) ∧ w'.cell? ⟨g, t', none⟩ = some (.string W) ∧ Below w.heap.size w w')
        (first | exact ⟨e0, e1, e2, e3, e5, e6, e7, e8, eW, eB⟩ | exact ⟨q0, q1, q2, q3, q5, q6, q7, q8, qW, HB1.out.drew⟩ | exact ⟨q0, q1, q2, q3, q5, q6, q7, q8, qW, HB1.out⟩ | assumption)
        (first | (go_at_call 37; refine (HG.out _ _ _ (by assumption)).mono ?_; rintro e w6 ⟨rfl, hb6⟩; have e0 : w6.cell? ⟨w.heap.size, 0, none⟩ = some (.int .i64 (c' : Int)) := (by first | exact cstep hb6 e0 | exact cstep hb6 q0); have e1 : w6.cell? ⟨w.heap.size, 1, none⟩ = some (.int .i64 (h' : Int)) := (by first | exact cstep hb6 e1 | exact cstep hb6 q1); have e2 : w6.cell? ⟨w.heap.size, 2, none⟩ = some (.int .i64 (n' : Int)) := (by first | exact cstep hb6 e2 | exact cstep hb6 q2); have e3 : w6.cell? ⟨w.heap.size, 3, none⟩ = some (.int .i64 (s' : Int)) := (by first | exact cstep hb6 e3 | exact cstep hb6 q3); have e5 : w6.cell? ⟨w.heap.size, 5, none⟩ = some (.int .i64 (t' : Int)) := (by first | exact cstep hb6 e5 | exact cstep hb6 q5); have e6 : w6.cell? ⟨w.heap.size, 6, none⟩ = some (.bool true) := (by first | exact cstep hb6 e6 | exact cstep hb6 q6); have e7 : w6.cell? ⟨w.heap.size, 7, none⟩ = some (.slice A N cp) := (by first | exact cstep hb6 e7 | exact cstep hb6 q7); have e8 : w6.cell? ⟨w.heap.size, 8, none⟩ = some (.int .i64 (vo' : Int)) := (by first | exact cstep hb6 e8 | exact cstep hb6 q8); have eW : w6.cell? ⟨g, t', none⟩ = some (.string W) := (by first | exact cstep hb6 eW | exact cstep hb6 qW); have eB : Below w.heap.size w w6 := (by first | exact bstep eB hb6 | exact bstep HB1.out.drew hb6 | exact bstep HB1.out hb6)))
      all_goals
        have HB2 := Hid.in_ eB
        clear eB
        go_wp2_with fail
        refine (HG.out _ _ _ (by assumption)).mono ?_
        rintro e w7 ⟨rfl, hb7⟩
        have f7 : w7.cell? ⟨w.heap.size, 7, none⟩ = some (.slice A N cp) := cstep hb7 e7
        have HB7 := Hid.in_ (bstep HB2.out hb7)
        have HF7 := Hid.in_ f7
        clear hb7 q0 q1 q2 q3 q5 q6 q7 q8 qW e0 e1 e2 e3 e5 e6 e7 e8 eW
        go_wp2_with fail
        rw [EHd.out]
        have HHD' := Hid.in_ (show Hd.size ≤ 9051 from by rw [← EHd.out]; exact HHD.out)
        clear no0 z0 no1 z1 no2 z2 no3 z3 no4 z4 no5 z5 no6 z6 no7 z7 no8 z8 no9 z9 no10 z10 hadd0 hadd1 hadd2 hadd3 hadd4 hadd5 hadd6 hadd7 HHD
        go_loopg [4, 5] N (fun m v i wr => ∃ k : Nat, k + m = N ∧ i = .int .i64 k ∧ v = .string (votTo Hd l k) ∧ Hid (Below w.heap.size w wr) ∧ Hid (wr.cell? ⟨w.heap.size, 7, none⟩ = some (.slice A N cp)))
        case atStart => exact ⟨0, by omega, rfl, rfl, HB7, HF7⟩
        case round =>
          clear HB7 HF7 HB2 HB1 HQ
          obtain ⟨k, hkm, rfl, rfl, HB, HF⟩ := hrel
          have HK := Hid.in_ hkm
          have hXs := votTo_size Hd hl31 k (by rw [HLX.out]; omega)
          have hHs := HHD'.out
          clear hkm
          by_cases hlt : k < N
          · obtain ⟨g1, rfl, _, hg, hx, _⟩ := HA.out (by omega)
            obtain ⟨y, hy⟩ := get_lt l k (by rw [HLX.out]; exact hlt)
            have c0 := cstep HB.out (hx k _ (I64_get hy))
            have f7 := HF.out
            obtain ⟨y0, y31⟩ := hl31 y (List.mem_of_getElem? hy)
            have hgd : l.getD k 0 = y := by rw [List.getD_eq_getElem?_getD, hy]; rfl
            obtain ⟨y, rfl⟩ := Int.eq_ofNat_of_zero_le y0
            have HCk := Hid.in_ (HG.out y (decS y) wr ⟨rfl, by omega⟩)
            have zD := decS_size y
            have hk32 : k < 32 := by have := HLX.out; omega
            have hXb : (votTo Hd l k).size ≤ 12000 := by omega
            clear hk32
            have zy1 : (⟨#[32]⟩ : ByteArray).size = 1 := rfl
            have zy5 : (⟨#[32, 119, 101, 97, 107]⟩ : ByteArray).size = 5 := rfl
            rcases Nat.eq_zero_or_pos k with hk0 | hk0
            · subst hk0
              have HE := Hid.in_ (show votTo Hd l (0 + 1) = votTo Hd l 0 ++ ⟨#[32, 119, 101, 97, 107]⟩ ++ (⟨#[32]⟩ ++ decS y) from by
                show (if 0 = 0 then Hd ++ ⟨#[32, 119, 101, 97, 107]⟩ else votTo Hd l 0) ++ (⟨#[32]⟩ ++ decI (l.getD 0 0)) = _
                rw [if_pos rfl, hgd]
                rfl)
              clear hx hy hgd hXs hHs hl31 hg
              generalize votTo Hd l 0 = X at *
              generalize decS y = D at *
              have n1 : ¬ (X.size + (⟨#[32, 119, 101, 97, 107]⟩ : ByteArray).size > 9223372036854775807) := by omega
              have n2 : ¬ ((⟨#[32]⟩ : ByteArray).size + D.size > 9223372036854775807) := by omega
              have m1 : (X ++ ⟨#[32, 119, 101, 97, 107]⟩ : ByteArray).size ≤ 12005 := by rw [ByteArray.size_append]; omega
              have m2 : (⟨#[32]⟩ ++ D : ByteArray).size ≤ 34 := by rw [ByteArray.size_append]; omega
              have n3 : ¬ ((X ++ ⟨#[32, 119, 101, 97, 107]⟩ : ByteArray).size + (⟨#[32]⟩ ++ D : ByteArray).size > 9223372036854775807) := by omega
              go_wp2_with fail
              refine HCk.out.mono ?_
              rintro e w2 ⟨rfl, hb2⟩
              have HB2 := Hid.in_ (bstep HB.out hb2)
              have HF2 := Hid.in_ (cstep hb2 HF.out)
              clear hb2
              go_wp2
              have hk := HK.out
              go_roundg (gk - 1)
              case measure => omega
              case rel => exact ⟨0 + 1, by omega, by go_num, by rw [HE.out], HB2, HF2⟩
            · have hk1 : ((k : Int) == 0) = false := beq_eq_false_iff_ne.2 (by omega)
              have HE := Hid.in_ (show votTo Hd l (k + 1) = votTo Hd l k ++ (⟨#[32]⟩ ++ decS y) from by
                show (if k = 0 then Hd ++ ⟨#[32, 119, 101, 97, 107]⟩ else votTo Hd l k) ++ (⟨#[32]⟩ ++ decI (l.getD k 0)) = _
                rw [if_neg (by omega), hgd]
                rfl)
              clear hx hy hgd hXs hHs hl31 hg
              generalize votTo Hd l k = X at *
              generalize decS y = D at *
              have n2 : ¬ ((⟨#[32]⟩ : ByteArray).size + D.size > 9223372036854775807) := by omega
              have m2 : (⟨#[32]⟩ ++ D : ByteArray).size ≤ 34 := by rw [ByteArray.size_append]; omega
              have n3 : ¬ (X.size + (⟨#[32]⟩ ++ D : ByteArray).size > 9223372036854775807) := by omega
              go_wp2_with fail
              refine HCk.out.mono ?_
              rintro e w2 ⟨rfl, hb2⟩
              have HB2 := Hid.in_ (bstep HB.out hb2)
              have HF2 := Hid.in_ (cstep hb2 HF.out)
              clear hb2
              go_wp2
              have hk := HK.out
              go_roundg (gk - 1)
              case measure => omega
              case rel => exact ⟨k + 1, by omega, by go_num, by rw [HE.out], HB2, HF2⟩
          · have hk := HK.out
            obtain rfl : k = N := by omega
            have f7 := HF.out
            go_wp2
            go_ret
            exact ⟨ret_strD HS.out.symm, HB.out⟩
end Go.Proofs.YtklaakhdpfgffaaDoor
