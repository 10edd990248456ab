/- 'FoundText' of the program and of the reference. -/
import Derived.Test.YtklaakhdpfgffaaDoorFndT
import Derived.Deep.RegionHeld3
namespace Go.Proofs.YtklaakhdpfgffaaDoor
open Go.ChangeShapes Go.WideShapes Go.ChangeAt Go.RowKit
set_option linter.unusedSimpArgs false
set_option linter.unusedVariables false
set_option maxRecDepth 4000

def fndTxt (c h n s : Nat) (t : Int) (l : Bool) (p : Nat) : ByteArray := (if l = true then secText c h n s t ++ ⟨#[32, 100, 101, 108, 101, 116, 101, 100]⟩ else secText c h n s t) ++ ⟨#[32, 97, 116, 32]⟩ ++ decS p
def foundText (c h n s : Int) (d : ByteArray) (t : Int) (l : Bool) (p : Int) : ByteArray := if validFound c h n s d t l p = true then fndTxt c.toNat h.toNat n.toNat s.toNat t l p.toNat else ⟨#[]⟩
theorem fndt_cases (c h n s : Int) (d : ByteArray) (t : Int) (l : Bool) (p : Int) : (validFound c h n s d t l p = false ∧ Hid (foundText c h n s d t l p = ⟨#[]⟩)) ∨
    (validFound c h n s d t l p = true ∧ ∃ c' h' n' s' t' p' : Nat, c = c' ∧ h = h' ∧ n = n' ∧ s = s' ∧ t = t' ∧ p = p' ∧ c' ≤ 255 ∧ h' ≤ 255 ∧ n' ≤ 255 ∧ s' ≤ 255 ∧ 1 ≤ t' ∧ t' ≤ 4 ∧ p' ≤ 7999 ∧ Hid (foundText c h n s d t l p = fndTxt c' h' n' s' t' l p')) := by
  unfold Hid
  cases hv : validFound c h n s d t l p
  · exact .inl ⟨rfl, by unfold foundText; rw [hv]; rfl⟩
  refine .inr ⟨rfl, ?_⟩
  have hv0 := hv
  unfold validFound foundBase at hv
  simp only [Bool.and_eq_true] at hv
  obtain ⟨⟨⟨⟨⟨⟨a1, a2⟩, a3⟩, a4⟩, a5⟩, a6⟩, _⟩ := hv
  have b1 := inB_t a1
  have b2 := inB_t a2
  have b3 := inB_t a3
  have b4 := inB_t a4
  have b5 := inB_t a5
  have b6 := inB_t a6
  refine ⟨c.toNat, h.toNat, n.toNat, s.toNat, t.toNat, p.toNat, by omega, by omega, by omega, by omega, by omega, by omega, by omega, by omega, by omega, by omega, by omega, by omega, by omega, ?_⟩
  unfold foundText
  rw [if_pos hv0, show ((t.toNat : Nat) : Int) = t by omega]
set_option maxHeartbeats 4000000 in
theorem impl_FoundText (c h n s : Int) (d : ByteArray) (t : Int) (l : Bool) (p : Int) (w : World) (hd : d.size ≤ 1048576) (hP : PowT w) :
    Calls Tryd.prog 14 #[.agg #[.int .i64 c, .int .i64 h, .int .i64 n, .int .i64 s, .string d, .int .i64 t, .bool l, .int .i64 p]] w fun e w' => e = .returned (.string (foundText c h n s d t l p)) ∧ Below w.heap.size w w' := by
  have hB := Hid.in_ (Box.new w [.int .i64 c, .int .i64 h, .int .i64 n, .int .i64 s, .string d, .int .i64 t, .bool l, .int .i64 p] 32).at0
  have HB0 := Hid.in_ (balloc (Below.refl w.heap.size w) (.cells #[.int .i64 c, .int .i64 h, .int .i64 n, .int .i64 s, .string d, .int .i64 t, .bool l, .int .i64 p] 32))
  have HV := Hid.in_ (fun w => impl_ValidFound c h n s d t l p w hd)
  have HP := Hid.in_ (tab_step hP HB0.out)
  clear hP
  obtain ⟨h1, HS⟩ | ⟨h1, c', h', n', s', t', p', rfl, rfl, rfl, rfl, rfl, rfl, hc, hh, hn, hs, ht1, ht4, hp, HS⟩ := fndt_cases c h n s d t l p
  · rw [h1] at HV
    obtain ⟨c0, c1, c2, c3, c4, c5, c6, c7⟩ := boxAt8 hB.out
    go_enter Tryd.func14, Tryd.ntmps14
    go_wp2_with (go_at_call 38; refine (HV.out _).mono ?_; rintro e w1 ⟨rfl, hb1⟩)
    go_ret
    exact ⟨ret_strD HS.out.symm, bstep HB0.out hb1⟩
  · rw [h1] at HV
    have HT := Hid.in_ (fun w hP => impl_sectorText c' h' n' s' (t' : Int) w hc hh hn hs (by omega) (by omega) hP)
    have HD := Hid.in_ (fun w hP => impl_decimal p' w (by omega) hP)
    have zT := secText_size (t' : Int) hc hh hn hs
    have zP := decS_size p'
    unfold fndTxt at HS
    generalize secText c' h' n' s' (t' : Int) = T at *
    generalize decS p' = P at *
    have y0 : (⟨#[47]⟩ : ByteArray).size = 1 := rfl
    have y1 : (⟨#[32]⟩ : ByteArray).size = 1 := rfl
    have y2 : (⟨#[32, 100, 101, 108, 101, 116, 101, 100]⟩ : ByteArray).size = 8 := rfl
    have y3 : (⟨#[32, 97, 116, 32]⟩ : ByteArray).size = 4 := rfl
    cases l
    · rw [if_neg (by decide)] at HS
      have no0 : ¬ ((T : ByteArray).size + (⟨#[32, 97, 116, 32]⟩ : ByteArray).size > 9223372036854775807) := by omega
      have z0 : (T ++ ⟨#[32, 97, 116, 32]⟩ : ByteArray).size ≤ 1104 := by rw [ByteArray.size_append]; omega
      have no1 : ¬ ((T ++ ⟨#[32, 97, 116, 32]⟩ : ByteArray).size + (P : ByteArray).size > 9223372036854775807) := by omega
      have z1 : (T ++ ⟨#[32, 97, 116, 32]⟩ ++ P : ByteArray).size ≤ 9104 := by rw [ByteArray.size_append]; omega
      obtain ⟨c0, c1, c2, c3, c4, c5, c6, c7⟩ := boxAt8 hB.out
      go_enter Tryd.func14, Tryd.ntmps14
      go_wp2_with fail
      refine (HV.out _).mono ?_
      rintro e w1 ⟨rfl, hb1⟩
      have HX1 := Hid.in_ (BoxAt.step hb1 hB.out)
      have HB1 := Hid.in_ (bstep HB0.out hb1)
      have HP1 := Hid.in_ (tab_step HP.out hb1)
      clear hb1 c0 c1 c2 c3 c4 c5 c6 c7
      obtain ⟨c0, c1, c2, c3, c4, c5, c6, c7⟩ := boxAt8 HX1.out
      go_wp2_with fail
      refine (HT.out _ HP1.out).mono ?_
      rintro e w2 ⟨rfl, hb2⟩
      have HX2 := Hid.in_ (BoxAt.step hb2 HX1.out)
      have HB2 := Hid.in_ (bstep HB1.out hb2)
      have HP2 := Hid.in_ (tab_step HP1.out hb2)
      clear hb2 c0 c1 c2 c3 c4 c5 c6 c7
      obtain ⟨c0, c1, c2, c3, c4, c5, c6, c7⟩ := boxAt8 HX2.out
      go_wp2_with fail
      refine (HD.out _ HP2.out).mono ?_
      rintro e w3 ⟨rfl, hb3⟩
      have HB3 := Hid.in_ (bstep HB2.out hb3)
      clear hb3
      go_wp2
      go_ret
      exact ⟨ret_strD HS.out.symm, HB3.out⟩
    · rw [if_pos rfl] at HS
      have no0 : ¬ ((T : ByteArray).size + (⟨#[32, 100, 101, 108, 101, 116, 101, 100]⟩ : ByteArray).size > 9223372036854775807) := by omega
      have z0 : (T ++ ⟨#[32, 100, 101, 108, 101, 116, 101, 100]⟩ : ByteArray).size ≤ 1108 := by rw [ByteArray.size_append]; omega
      have no1 : ¬ ((T ++ ⟨#[32, 100, 101, 108, 101, 116, 101, 100]⟩ : ByteArray).size + (⟨#[32, 97, 116, 32]⟩ : ByteArray).size > 9223372036854775807) := by omega
      have z1 : (T ++ ⟨#[32, 100, 101, 108, 101, 116, 101, 100]⟩ ++ ⟨#[32, 97, 116, 32]⟩ : ByteArray).size ≤ 1112 := by rw [ByteArray.size_append]; omega
      have no2 : ¬ ((T ++ ⟨#[32, 100, 101, 108, 101, 116, 101, 100]⟩ ++ ⟨#[32, 97, 116, 32]⟩ : ByteArray).size + (P : ByteArray).size > 9223372036854775807) := by omega
      have z2 : (T ++ ⟨#[32, 100, 101, 108, 101, 116, 101, 100]⟩ ++ ⟨#[32, 97, 116, 32]⟩ ++ P : ByteArray).size ≤ 9112 := by rw [ByteArray.size_append]; omega
      obtain ⟨c0, c1, c2, c3, c4, c5, c6, c7⟩ := boxAt8 hB.out
      go_enter Tryd.func14, Tryd.ntmps14
      go_wp2_with fail
      refine (HV.out _).mono ?_
      rintro e w1 ⟨rfl, hb1⟩
      have HX1 := Hid.in_ (BoxAt.step hb1 hB.out)
      have HB1 := Hid.in_ (bstep HB0.out hb1)
      have HP1 := Hid.in_ (tab_step HP.out hb1)
      clear hb1 c0 c1 c2 c3 c4 c5 c6 c7
      obtain ⟨c0, c1, c2, c3, c4, c5, c6, c7⟩ := boxAt8 HX1.out
      go_wp2_with fail
      refine (HT.out _ HP1.out).mono ?_
      rintro e w2 ⟨rfl, hb2⟩
      have HX2 := Hid.in_ (BoxAt.step hb2 HX1.out)
      have HB2 := Hid.in_ (bstep HB1.out hb2)
      have HP2 := Hid.in_ (tab_step HP1.out hb2)
      clear hb2 c0 c1 c2 c3 c4 c5 c6 c7
      obtain ⟨c0, c1, c2, c3, c4, c5, c6, c7⟩ := boxAt8 HX2.out
      go_wp2_with fail
      refine (HD.out _ HP2.out).mono ?_
      rintro e w3 ⟨rfl, hb3⟩
      have HB3 := Hid.in_ (bstep HB2.out hb3)
      clear hb3
      go_wp2
      go_ret
      exact ⟨ret_strD HS.out.symm, HB3.out⟩
theorem fw_at {k : Nat} (h1 : 1 ≤ k) (h4 : k ≤ 4) : ([.string ⟨#[]⟩, .string ⟨#[103, 111, 111, 100]⟩, .string ⟨#[98, 97, 100, 45, 105, 100]⟩, .string ⟨#[98, 97, 100, 45, 100, 97, 116, 97]⟩, .string ⟨#[110, 111, 45, 100, 97, 116, 97]⟩] : List Value)[k]? = some (.string (secW (k : Int))) := by
  obtain rfl | rfl | rfl | rfl : k = 1 ∨ k = 2 ∨ k = 3 ∨ k = 4 := by omega
  all_goals rfl
set_option maxHeartbeats 8000000 in
theorem spec_FoundText (c h n s : Int) (d : ByteArray) (t : Int) (l : Bool) (p : Int) (w : World) (hd : d.size ≤ 1048576) :
    Calls Tryd.prog 12 #[.agg #[.int .i64 c, .int .i64 h, .int .i64 n, .int .i64 s, .string d, .int .i64 t, .bool l, .int .i64 p]] w fun e w' => e = .returned (.string (foundText c h n s d t l p)) ∧ Below w.heap.size w w' := by
  have hB0 := Hid.in_ (Box.new w [.int .i64 c, .int .i64 h, .int .i64 n, .int .i64 s, .string d, .int .i64 t, .bool l, .int .i64 p] 32)
  have hB := Hid.in_ hB0.out.at0
  have HB0 := Hid.in_ (balloc (Below.refl w.heap.size w) (.cells #[.int .i64 c, .int .i64 h, .int .i64 n, .int .i64 s, .string d, .int .i64 t, .bool l, .int .i64 p] 32))
  have HV := Hid.in_ (fun (w0 : World) (h : BoxAt w0 w.heap.size 0 [.int .i64 c, .int .i64 h, .int .i64 n, .int .i64 s, .string d, .int .i64 t, .bool l, .int .i64 p]) => show Calls Tryd.prog 36 #[.pointer (some ⟨w.heap.size, 0, none⟩)] w0 fun e w' => e = .returned (.bool (validFound c _ n s d t l p)) ∧ Below w0.heap.size w0 w' from
    (spec_l09Ok w0 hd h).mono fun e w' ⟨he, k, hk⟩ => ⟨he, hk ▸ below_drewN (Below.refl _ _) k⟩)
  obtain ⟨h1, HS⟩ | ⟨h1, c', h', n', s', t', p', rfl, rfl, rfl, rfl, rfl, rfl, hc, hh, hn, hs, ht1, ht4, hp, HS⟩ := fndt_cases c h n s d t l p
  · rw [h1] at HV
    go_enter Tryd.func12, Tryd.ntmps12
    go_wp2_with fail
    refine (HV.out _ hB.out).mono ?_
    rintro e w1 ⟨rfl, hb1⟩
    go_wp2
    go_ret
    exact ⟨ret_strD HS.out.symm, bstep HB0.out hb1⟩
  · rw [h1] at HV
    have HG := Hid.in_ (fun (m : Nat) (D : ByteArray) (w : World) (h : Hid (decS m = D ∧ m ≤ 7999)) => show Calls Tryd.prog 37 #[.int .i64 m] w fun e w' => e = .returned (.string D) ∧ Below w.heap.size w w' from by
      have := spec_l09Dec m m w (Nat.le_refl _) (by have := h.out.2; omega)
      rw [h.out.1] at this
      exact this)
    have zC := decS_255 hc
    have zH := decS_255 hh
    have zN := decS_255 hn
    have zS := decS_255 hs
    have zP := decS_size p'
    have zW := secW_size (t' : Int)
    unfold fndTxt secText secHead at HS
    obtain ⟨W, HWt⟩ : ∃ W, Hid (secW (t' : Int) = W) := ⟨_, rfl⟩
    rw [HWt.out] at HS zW
    obtain ⟨C, EC⟩ : ∃ D, Hid (decS c' = D ∧ c' ≤ 7999) := ⟨_, rfl, by omega⟩
    rw [EC.out.1] at HS zC
    obtain ⟨H, EH⟩ : ∃ D, Hid (decS h' = D ∧ h' ≤ 7999) := ⟨_, rfl, by omega⟩
    rw [EH.out.1] at HS zH
    obtain ⟨N, EN⟩ : ∃ D, Hid (decS n' = D ∧ n' ≤ 7999) := ⟨_, rfl, by omega⟩
    rw [EN.out.1] at HS zN
    obtain ⟨S, ES⟩ : ∃ D, Hid (decS s' = D ∧ s' ≤ 7999) := ⟨_, rfl, by omega⟩
    rw [ES.out.1] at HS zS
    obtain ⟨P, EP⟩ : ∃ D, Hid (decS p' = D ∧ p' ≤ 7999) := ⟨_, rfl, by omega⟩
    rw [EP.out.1] at HS zP
    have x1 : (0 : Int) ≤ (t' : Int) := by omega
    have x2 : (t' : Int) < 5 := by omega
    have y0 : (⟨#[47]⟩ : ByteArray).size = 1 := rfl
    have y1 : (⟨#[32]⟩ : ByteArray).size = 1 := rfl
    have y2 : (⟨#[32, 100, 101, 108, 101, 116, 101, 100]⟩ : ByteArray).size = 8 := rfl
    have y3 : (⟨#[32, 97, 116, 32]⟩ : ByteArray).size = 4 := rfl
    cases l
    · rw [if_neg (by decide)] at HS
      have no0 : ¬ ((C : ByteArray).size + (⟨#[47]⟩ : ByteArray).size > 9223372036854775807) := by omega
      have hadd0 : ∀ w0 : World, (Op.stringOp .add (C) (⟨#[47]⟩)).run Tryd.prog w0 = .ok (.string (C ++ ⟨#[47]⟩)) w0 := fun w0 => run_string_add_sum w0 _ _ (by omega)
      have z0 : (C ++ ⟨#[47]⟩ : ByteArray).size ≤ 257 := by rw [ByteArray.size_append]; omega
      have no1 : ¬ ((C ++ ⟨#[47]⟩ : ByteArray).size + (H : ByteArray).size > 9223372036854775807) := by omega
      have hadd1 : ∀ w0 : World, (Op.stringOp .add (C ++ ⟨#[47]⟩) (H)).run Tryd.prog w0 = .ok (.string (C ++ ⟨#[47]⟩ ++ H)) w0 := fun w0 => run_string_add_sum w0 _ _ (by omega)
      have z1 : (C ++ ⟨#[47]⟩ ++ H : ByteArray).size ≤ 513 := by rw [ByteArray.size_append]; omega
      have no2 : ¬ ((C ++ ⟨#[47]⟩ ++ H : ByteArray).size + (⟨#[47]⟩ : ByteArray).size > 9223372036854775807) := by omega
      have hadd2 : ∀ w0 : World, (Op.stringOp .add (C ++ ⟨#[47]⟩ ++ H) (⟨#[47]⟩)).run Tryd.prog w0 = .ok (.string (C ++ ⟨#[47]⟩ ++ H ++ ⟨#[47]⟩)) w0 := fun w0 => run_string_add_sum w0 _ _ (by omega)
      have z2 : (C ++ ⟨#[47]⟩ ++ H ++ ⟨#[47]⟩ : ByteArray).size ≤ 514 := by rw [ByteArray.size_append]; omega
      have no3 : ¬ ((C ++ ⟨#[47]⟩ ++ H ++ ⟨#[47]⟩ : ByteArray).size + (N : ByteArray).size > 9223372036854775807) := by omega
      have hadd3 : ∀ w0 : World, (Op.stringOp .add (C ++ ⟨#[47]⟩ ++ H ++ ⟨#[47]⟩) (N)).run Tryd.prog w0 = .ok (.string (C ++ ⟨#[47]⟩ ++ H ++ ⟨#[47]⟩ ++ N)) w0 := fun w0 => run_string_add_sum w0 _ _ (by omega)
      have z3 : (C ++ ⟨#[47]⟩ ++ H ++ ⟨#[47]⟩ ++ N : ByteArray).size ≤ 770 := by rw [ByteArray.size_append]; omega
      have no4 : ¬ ((C ++ ⟨#[47]⟩ ++ H ++ ⟨#[47]⟩ ++ N : ByteArray).size + (⟨#[32]⟩ : ByteArray).size > 9223372036854775807) := by omega
      have hadd4 : ∀ w0 : World, (Op.stringOp .add (C ++ ⟨#[47]⟩ ++ H ++ ⟨#[47]⟩ ++ N) (⟨#[32]⟩)).run Tryd.prog w0 = .ok (.string (C ++ ⟨#[47]⟩ ++ H ++ ⟨#[47]⟩ ++ N ++ ⟨#[32]⟩)) w0 := fun w0 => run_string_add_sum w0 _ _ (by omega)
      have z4 : (C ++ ⟨#[47]⟩ ++ H ++ ⟨#[47]⟩ ++ N ++ ⟨#[32]⟩ : ByteArray).size ≤ 771 := by rw [ByteArray.size_append]; omega
      have no5 : ¬ ((C ++ ⟨#[47]⟩ ++ H ++ ⟨#[47]⟩ ++ N ++ ⟨#[32]⟩ : ByteArray).size + (S : ByteArray).size > 9223372036854775807) := by omega
      have hadd5 : ∀ w0 : World, (Op.stringOp .add (C ++ ⟨#[47]⟩ ++ H ++ ⟨#[47]⟩ ++ N ++ ⟨#[32]⟩) (S)).run Tryd.prog w0 = .ok (.string (C ++ ⟨#[47]⟩ ++ H ++ ⟨#[47]⟩ ++ N ++ ⟨#[32]⟩ ++ S)) w0 := fun w0 => run_string_add_sum w0 _ _ (by omega)
      have z5 : (C ++ ⟨#[47]⟩ ++ H ++ ⟨#[47]⟩ ++ N ++ ⟨#[32]⟩ ++ S : ByteArray).size ≤ 1027 := by rw [ByteArray.size_append]; omega
      have no6 : ¬ ((C ++ ⟨#[47]⟩ ++ H ++ ⟨#[47]⟩ ++ N ++ ⟨#[32]⟩ ++ S : ByteArray).size + (⟨#[32]⟩ : ByteArray).size > 9223372036854775807) := by omega
      have hadd6 : ∀ w0 : World, (Op.stringOp .add (C ++ ⟨#[47]⟩ ++ H ++ ⟨#[47]⟩ ++ N ++ ⟨#[32]⟩ ++ S) (⟨#[32]⟩)).run Tryd.prog w0 = .ok (.string (C ++ ⟨#[47]⟩ ++ H ++ ⟨#[47]⟩ ++ N ++ ⟨#[32]⟩ ++ S ++ ⟨#[32]⟩)) w0 := fun w0 => run_string_add_sum w0 _ _ (by omega)
      have z6 : (C ++ ⟨#[47]⟩ ++ H ++ ⟨#[47]⟩ ++ N ++ ⟨#[32]⟩ ++ S ++ ⟨#[32]⟩ : ByteArray).size ≤ 1028 := by rw [ByteArray.size_append]; omega
      have no7 : ¬ ((C ++ ⟨#[47]⟩ ++ H ++ ⟨#[47]⟩ ++ N ++ ⟨#[32]⟩ ++ S ++ ⟨#[32]⟩ : ByteArray).size + (W : ByteArray).size > 9223372036854775807) := by omega
      have hadd7 : ∀ w0 : World, (Op.stringOp .add (C ++ ⟨#[47]⟩ ++ H ++ ⟨#[47]⟩ ++ N ++ ⟨#[32]⟩ ++ S ++ ⟨#[32]⟩) (W)).run Tryd.prog w0 = .ok (.string (C ++ ⟨#[47]⟩ ++ H ++ ⟨#[47]⟩ ++ N ++ ⟨#[32]⟩ ++ S ++ ⟨#[32]⟩ ++ W)) w0 := fun w0 => run_string_add_sum w0 _ _ (by omega)
      have z7 : (C ++ ⟨#[47]⟩ ++ H ++ ⟨#[47]⟩ ++ N ++ ⟨#[32]⟩ ++ S ++ ⟨#[32]⟩ ++ W : ByteArray).size ≤ 1036 := by rw [ByteArray.size_append]; omega
      have no8 : ¬ ((C ++ ⟨#[47]⟩ ++ H ++ ⟨#[47]⟩ ++ N ++ ⟨#[32]⟩ ++ S ++ ⟨#[32]⟩ ++ W : ByteArray).size + (⟨#[32, 97, 116, 32]⟩ : ByteArray).size > 9223372036854775807) := by omega
      have hadd8 : ∀ w0 : World, (Op.stringOp .add (C ++ ⟨#[47]⟩ ++ H ++ ⟨#[47]⟩ ++ N ++ ⟨#[32]⟩ ++ S ++ ⟨#[32]⟩ ++ W) (⟨#[32, 97, 116, 32]⟩)).run Tryd.prog w0 = .ok (.string (C ++ ⟨#[47]⟩ ++ H ++ ⟨#[47]⟩ ++ N ++ ⟨#[32]⟩ ++ S ++ ⟨#[32]⟩ ++ W ++ ⟨#[32, 97, 116, 32]⟩)) w0 := fun w0 => run_string_add_sum w0 _ _ (by omega)
      have z8 : (C ++ ⟨#[47]⟩ ++ H ++ ⟨#[47]⟩ ++ N ++ ⟨#[32]⟩ ++ S ++ ⟨#[32]⟩ ++ W ++ ⟨#[32, 97, 116, 32]⟩ : ByteArray).size ≤ 1040 := by rw [ByteArray.size_append]; omega
      have no9 : ¬ ((C ++ ⟨#[47]⟩ ++ H ++ ⟨#[47]⟩ ++ N ++ ⟨#[32]⟩ ++ S ++ ⟨#[32]⟩ ++ W ++ ⟨#[32, 97, 116, 32]⟩ : ByteArray).size + (P : ByteArray).size > 9223372036854775807) := by omega
      have hadd9 : ∀ w0 : World, (Op.stringOp .add (C ++ ⟨#[47]⟩ ++ H ++ ⟨#[47]⟩ ++ N ++ ⟨#[32]⟩ ++ S ++ ⟨#[32]⟩ ++ W ++ ⟨#[32, 97, 116, 32]⟩) (P)).run Tryd.prog w0 = .ok (.string (C ++ ⟨#[47]⟩ ++ H ++ ⟨#[47]⟩ ++ N ++ ⟨#[32]⟩ ++ S ++ ⟨#[32]⟩ ++ W ++ ⟨#[32, 97, 116, 32]⟩ ++ P)) w0 := fun w0 => run_string_add_sum w0 _ _ (by omega)
      have z9 : (C ++ ⟨#[47]⟩ ++ H ++ ⟨#[47]⟩ ++ N ++ ⟨#[32]⟩ ++ S ++ ⟨#[32]⟩ ++ W ++ ⟨#[32, 97, 116, 32]⟩ ++ P : ByteArray).size ≤ 9040 := by rw [ByteArray.size_append]; omega
      go_enter Tryd.func12, Tryd.ntmps12
      go_wp2_with fail
      refine (HV.out _ hB.out).mono ?_
      rintro e w1 ⟨rfl, hb1⟩
      go_upto_region 4 with fail
      have HQ := Hid.in_ (show Box (w1.alloc (.cells #[.string ⟨#[]⟩, .string ⟨#[103, 111, 111, 100]⟩, .string ⟨#[98, 97, 100, 45, 105, 100]⟩, .string ⟨#[98, 97, 100, 45, 100, 97, 116, 97]⟩, .string ⟨#[110, 111, 45, 100, 97, 116, 97]⟩] 9)) w.heap.size _ ∧ (w1.alloc (.cells #[.string ⟨#[]⟩, .string ⟨#[103, 111, 111, 100]⟩, .string ⟨#[98, 97, 100, 45, 105, 100]⟩, .string ⟨#[98, 97, 100, 45, 100, 97, 116, 97]⟩, .string ⟨#[110, 111, 45, 100, 97, 116, 97]⟩] 9)).cell? ⟨w1.heap.size, t', none⟩ = some (.string W) from ⟨Box.step (bstep hb1 (balloc (Below.refl _ _) _)) hB0.out, by rw [← HWt.out]; exact Box.new w1 [.string ⟨#[]⟩, .string ⟨#[103, 111, 111, 100]⟩, .string ⟨#[98, 97, 100, 45, 105, 100]⟩, .string ⟨#[98, 97, 100, 45, 100, 97, 116, 97]⟩, .string ⟨#[110, 111, 45, 100, 97, 116, 97]⟩] 9 t' _ (fw_at ht1 ht4)⟩)
      have HB1 := Hid.in_ (balloc (bstep HB0.out hb1) (.cells #[.string ⟨#[]⟩, .string ⟨#[103, 111, 111, 100]⟩, .string ⟨#[98, 97, 100, 45, 105, 100]⟩, .string ⟨#[98, 97, 100, 45, 100, 97, 116, 97]⟩, .string ⟨#[110, 111, 45, 100, 97, 116, 97]⟩] 9))
      clear hb1
      generalize w1.heap.size = g at *
      generalize w1.alloc (.cells #[.string ⟨#[]⟩, .string ⟨#[103, 111, 111, 100]⟩, .string ⟨#[98, 97, 100, 45, 105, 100]⟩, .string ⟨#[98, 97, 100, 45, 100, 97, 116, 97]⟩, .string ⟨#[110, 111, 45, 100, 97, 116, 97]⟩] 9) = wA at *
      have q0 : wA.cell? ⟨w.heap.size, 0, none⟩ = some (.int .i64 (c' : Int)) := HQ.out.1 0 _ rfl
      have q1 : wA.cell? ⟨w.heap.size, 1, none⟩ = some (.int .i64 (h' : Int)) := HQ.out.1 1 _ rfl
      have q2 : wA.cell? ⟨w.heap.size, 2, none⟩ = some (.int .i64 (n' : Int)) := HQ.out.1 2 _ rfl
      have q3 : wA.cell? ⟨w.heap.size, 3, none⟩ = some (.int .i64 (s' : Int)) := HQ.out.1 3 _ rfl
      have q5 : wA.cell? ⟨w.heap.size, 5, none⟩ = some (.int .i64 (t' : Int)) := HQ.out.1 5 _ rfl
      have q6 : wA.cell? ⟨w.heap.size, 6, none⟩ = some (.bool false) := HQ.out.1 6 _ rfl
      have q7 : wA.cell? ⟨w.heap.size, 7, none⟩ = some (.int .i64 (p' : Int)) := HQ.out.1 7 _ rfl
      have qW : wA.cell? ⟨g, t', none⟩ = some (.string W) := HQ.out.2
      go_region_held3 (fun w' => w'.cell? ⟨w.heap.size, 0, none⟩ = some (.int .i64 (c' : Int)) ∧ w'.cell? ⟨w.heap.size, 1, none⟩ = some (.int .i64 (h' : Int)) ∧ w'.cell? ⟨w.heap.size, 2, none⟩ = some (.int .i64 (n' : Int)) ∧ w'.cell? ⟨w.heap.size, 3, none⟩ = some (.int .i64 (s' : Int)) ∧ w'.cell? ⟨w.heap.size, 5, none⟩ = some (.int .i64 (t' : Int)) ∧ w'.cell? ⟨w.heap.size, 6, none⟩ = some (.bool false) ∧ w'.cell? ⟨w.heap.size, 7, none⟩ = some (.int .i64 (p' : Int)) ∧ w'.cell? ⟨g, t', none⟩ = some (.string W) ∧ Below w.heap.size w w')
        (first | exact ⟨e0, e1, e2, e3, e5, e6, e7, eW, eB⟩ | exact ⟨q0, q1, q2, q3, q5, q6, q7, qW, HB1.out.drew⟩ | exact ⟨q0, q1, q2, q3, q5, q6, q7, qW, HB1.out⟩ | assumption)
        (first | (go_at_call 37; refine (HG.out _ _ _ (by assumption)).mono ?_; rintro e w6 ⟨rfl, hb6⟩; have e0 : w6.cell? ⟨w.heap.size, 0, none⟩ = some (.int .i64 (c' : Int)) := (by first | exact cstep hb6 e0 | exact cstep hb6 q0); have e1 : w6.cell? ⟨w.heap.size, 1, none⟩ = some (.int .i64 (h' : Int)) := (by first | exact cstep hb6 e1 | exact cstep hb6 q1); have e2 : w6.cell? ⟨w.heap.size, 2, none⟩ = some (.int .i64 (n' : Int)) := (by first | exact cstep hb6 e2 | exact cstep hb6 q2); have e3 : w6.cell? ⟨w.heap.size, 3, none⟩ = some (.int .i64 (s' : Int)) := (by first | exact cstep hb6 e3 | exact cstep hb6 q3); have e5 : w6.cell? ⟨w.heap.size, 5, none⟩ = some (.int .i64 (t' : Int)) := (by first | exact cstep hb6 e5 | exact cstep hb6 q5); have e6 : w6.cell? ⟨w.heap.size, 6, none⟩ = some (.bool false) := (by first | exact cstep hb6 e6 | exact cstep hb6 q6); have e7 : w6.cell? ⟨w.heap.size, 7, none⟩ = some (.int .i64 (p' : Int)) := (by first | exact cstep hb6 e7 | exact cstep hb6 q7); have eW : w6.cell? ⟨g, t', none⟩ = some (.string W) := (by first | exact cstep hb6 eW | exact cstep hb6 qW); have eB : Below w.heap.size w w6 := (by first | exact bstep eB hb6 | exact bstep HB1.out.drew hb6 | exact bstep HB1.out hb6)))
      all_goals
        have HB2 := Hid.in_ eB
        clear eB
        go_wp2_with (go_at_call 37; refine (HG.out _ _ _ (by assumption)).mono ?_; rintro e w7 ⟨rfl, hb7⟩)
        go_ret
        exact ⟨ret_strD HS.out.symm, bstep HB2.out hb7⟩
    · rw [if_pos rfl] at HS
      have no0 : ¬ ((C : ByteArray).size + (⟨#[47]⟩ : ByteArray).size > 9223372036854775807) := by omega
      have hadd0 : ∀ w0 : World, (Op.stringOp .add (C) (⟨#[47]⟩)).run Tryd.prog w0 = .ok (.string (C ++ ⟨#[47]⟩)) w0 := fun w0 => run_string_add_sum w0 _ _ (by omega)
      have z0 : (C ++ ⟨#[47]⟩ : ByteArray).size ≤ 257 := by rw [ByteArray.size_append]; omega
      have no1 : ¬ ((C ++ ⟨#[47]⟩ : ByteArray).size + (H : ByteArray).size > 9223372036854775807) := by omega
      have hadd1 : ∀ w0 : World, (Op.stringOp .add (C ++ ⟨#[47]⟩) (H)).run Tryd.prog w0 = .ok (.string (C ++ ⟨#[47]⟩ ++ H)) w0 := fun w0 => run_string_add_sum w0 _ _ (by omega)
      have z1 : (C ++ ⟨#[47]⟩ ++ H : ByteArray).size ≤ 513 := by rw [ByteArray.size_append]; omega
      have no2 : ¬ ((C ++ ⟨#[47]⟩ ++ H : ByteArray).size + (⟨#[47]⟩ : ByteArray).size > 9223372036854775807) := by omega
      have hadd2 : ∀ w0 : World, (Op.stringOp .add (C ++ ⟨#[47]⟩ ++ H) (⟨#[47]⟩)).run Tryd.prog w0 = .ok (.string (C ++ ⟨#[47]⟩ ++ H ++ ⟨#[47]⟩)) w0 := fun w0 => run_string_add_sum w0 _ _ (by omega)
      have z2 : (C ++ ⟨#[47]⟩ ++ H ++ ⟨#[47]⟩ : ByteArray).size ≤ 514 := by rw [ByteArray.size_append]; omega
      have no3 : ¬ ((C ++ ⟨#[47]⟩ ++ H ++ ⟨#[47]⟩ : ByteArray).size + (N : ByteArray).size > 9223372036854775807) := by omega
      have hadd3 : ∀ w0 : World, (Op.stringOp .add (C ++ ⟨#[47]⟩ ++ H ++ ⟨#[47]⟩) (N)).run Tryd.prog w0 = .ok (.string (C ++ ⟨#[47]⟩ ++ H ++ ⟨#[47]⟩ ++ N)) w0 := fun w0 => run_string_add_sum w0 _ _ (by omega)
      have z3 : (C ++ ⟨#[47]⟩ ++ H ++ ⟨#[47]⟩ ++ N : ByteArray).size ≤ 770 := by rw [ByteArray.size_append]; omega
      have no4 : ¬ ((C ++ ⟨#[47]⟩ ++ H ++ ⟨#[47]⟩ ++ N : ByteArray).size + (⟨#[32]⟩ : ByteArray).size > 9223372036854775807) := by omega
      have hadd4 : ∀ w0 : World, (Op.stringOp .add (C ++ ⟨#[47]⟩ ++ H ++ ⟨#[47]⟩ ++ N) (⟨#[32]⟩)).run Tryd.prog w0 = .ok (.string (C ++ ⟨#[47]⟩ ++ H ++ ⟨#[47]⟩ ++ N ++ ⟨#[32]⟩)) w0 := fun w0 => run_string_add_sum w0 _ _ (by omega)
      have z4 : (C ++ ⟨#[47]⟩ ++ H ++ ⟨#[47]⟩ ++ N ++ ⟨#[32]⟩ : ByteArray).size ≤ 771 := by rw [ByteArray.size_append]; omega
      have no5 : ¬ ((C ++ ⟨#[47]⟩ ++ H ++ ⟨#[47]⟩ ++ N ++ ⟨#[32]⟩ : ByteArray).size + (S : ByteArray).size > 9223372036854775807) := by omega
      have hadd5 : ∀ w0 : World, (Op.stringOp .add (C ++ ⟨#[47]⟩ ++ H ++ ⟨#[47]⟩ ++ N ++ ⟨#[32]⟩) (S)).run Tryd.prog w0 = .ok (.string (C ++ ⟨#[47]⟩ ++ H ++ ⟨#[47]⟩ ++ N ++ ⟨#[32]⟩ ++ S)) w0 := fun w0 => run_string_add_sum w0 _ _ (by omega)
      have z5 : (C ++ ⟨#[47]⟩ ++ H ++ ⟨#[47]⟩ ++ N ++ ⟨#[32]⟩ ++ S : ByteArray).size ≤ 1027 := by rw [ByteArray.size_append]; omega
      have no6 : ¬ ((C ++ ⟨#[47]⟩ ++ H ++ ⟨#[47]⟩ ++ N ++ ⟨#[32]⟩ ++ S : ByteArray).size + (⟨#[32]⟩ : ByteArray).size > 9223372036854775807) := by omega
      have hadd6 : ∀ w0 : World, (Op.stringOp .add (C ++ ⟨#[47]⟩ ++ H ++ ⟨#[47]⟩ ++ N ++ ⟨#[32]⟩ ++ S) (⟨#[32]⟩)).run Tryd.prog w0 = .ok (.string (C ++ ⟨#[47]⟩ ++ H ++ ⟨#[47]⟩ ++ N ++ ⟨#[32]⟩ ++ S ++ ⟨#[32]⟩)) w0 := fun w0 => run_string_add_sum w0 _ _ (by omega)
      have z6 : (C ++ ⟨#[47]⟩ ++ H ++ ⟨#[47]⟩ ++ N ++ ⟨#[32]⟩ ++ S ++ ⟨#[32]⟩ : ByteArray).size ≤ 1028 := by rw [ByteArray.size_append]; omega
      have no7 : ¬ ((C ++ ⟨#[47]⟩ ++ H ++ ⟨#[47]⟩ ++ N ++ ⟨#[32]⟩ ++ S ++ ⟨#[32]⟩ : ByteArray).size + (W : ByteArray).size > 9223372036854775807) := by omega
      have hadd7 : ∀ w0 : World, (Op.stringOp .add (C ++ ⟨#[47]⟩ ++ H ++ ⟨#[47]⟩ ++ N ++ ⟨#[32]⟩ ++ S ++ ⟨#[32]⟩) (W)).run Tryd.prog w0 = .ok (.string (C ++ ⟨#[47]⟩ ++ H ++ ⟨#[47]⟩ ++ N ++ ⟨#[32]⟩ ++ S ++ ⟨#[32]⟩ ++ W)) w0 := fun w0 => run_string_add_sum w0 _ _ (by omega)
      have z7 : (C ++ ⟨#[47]⟩ ++ H ++ ⟨#[47]⟩ ++ N ++ ⟨#[32]⟩ ++ S ++ ⟨#[32]⟩ ++ W : ByteArray).size ≤ 1036 := by rw [ByteArray.size_append]; omega
      have no8 : ¬ ((C ++ ⟨#[47]⟩ ++ H ++ ⟨#[47]⟩ ++ N ++ ⟨#[32]⟩ ++ S ++ ⟨#[32]⟩ ++ W : ByteArray).size + (⟨#[32, 100, 101, 108, 101, 116, 101, 100]⟩ : ByteArray).size > 9223372036854775807) := by omega
      have hadd8 : ∀ w0 : World, (Op.stringOp .add (C ++ ⟨#[47]⟩ ++ H ++ ⟨#[47]⟩ ++ N ++ ⟨#[32]⟩ ++ S ++ ⟨#[32]⟩ ++ W) (⟨#[32, 100, 101, 108, 101, 116, 101, 100]⟩)).run Tryd.prog w0 = .ok (.string (C ++ ⟨#[47]⟩ ++ H ++ ⟨#[47]⟩ ++ N ++ ⟨#[32]⟩ ++ S ++ ⟨#[32]⟩ ++ W ++ ⟨#[32, 100, 101, 108, 101, 116, 101, 100]⟩)) w0 := fun w0 => run_string_add_sum w0 _ _ (by omega)
      have z8 : (C ++ ⟨#[47]⟩ ++ H ++ ⟨#[47]⟩ ++ N ++ ⟨#[32]⟩ ++ S ++ ⟨#[32]⟩ ++ W ++ ⟨#[32, 100, 101, 108, 101, 116, 101, 100]⟩ : ByteArray).size ≤ 1044 := by rw [ByteArray.size_append]; omega
      have no9 : ¬ ((C ++ ⟨#[47]⟩ ++ H ++ ⟨#[47]⟩ ++ N ++ ⟨#[32]⟩ ++ S ++ ⟨#[32]⟩ ++ W ++ ⟨#[32, 100, 101, 108, 101, 116, 101, 100]⟩ : ByteArray).size + (⟨#[32, 97, 116, 32]⟩ : ByteArray).size > 9223372036854775807) := by omega
      have hadd9 : ∀ w0 : World, (Op.stringOp .add (C ++ ⟨#[47]⟩ ++ H ++ ⟨#[47]⟩ ++ N ++ ⟨#[32]⟩ ++ S ++ ⟨#[32]⟩ ++ W ++ ⟨#[32, 100, 101, 108, 101, 116, 101, 100]⟩) (⟨#[32, 97, 116, 32]⟩)).run Tryd.prog w0 = .ok (.string (C ++ ⟨#[47]⟩ ++ H ++ ⟨#[47]⟩ ++ N ++ ⟨#[32]⟩ ++ S ++ ⟨#[32]⟩ ++ W ++ ⟨#[32, 100, 101, 108, 101, 116, 101, 100]⟩ ++ ⟨#[32, 97, 116, 32]⟩)) w0 := fun w0 => run_string_add_sum w0 _ _ (by omega)
      have z9 : (C ++ ⟨#[47]⟩ ++ H ++ ⟨#[47]⟩ ++ N ++ ⟨#[32]⟩ ++ S ++ ⟨#[32]⟩ ++ W ++ ⟨#[32, 100, 101, 108, 101, 116, 101, 100]⟩ ++ ⟨#[32, 97, 116, 32]⟩ : ByteArray).size ≤ 1048 := by rw [ByteArray.size_append]; omega
      have no10 : ¬ ((C ++ ⟨#[47]⟩ ++ H ++ ⟨#[47]⟩ ++ N ++ ⟨#[32]⟩ ++ S ++ ⟨#[32]⟩ ++ W ++ ⟨#[32, 100, 101, 108, 101, 116, 101, 100]⟩ ++ ⟨#[32, 97, 116, 32]⟩ : ByteArray).size + (P : ByteArray).size > 9223372036854775807) := by omega
      have hadd10 : ∀ w0 : World, (Op.stringOp .add (C ++ ⟨#[47]⟩ ++ H ++ ⟨#[47]⟩ ++ N ++ ⟨#[32]⟩ ++ S ++ ⟨#[32]⟩ ++ W ++ ⟨#[32, 100, 101, 108, 101, 116, 101, 100]⟩ ++ ⟨#[32, 97, 116, 32]⟩) (P)).run Tryd.prog w0 = .ok (.string (C ++ ⟨#[47]⟩ ++ H ++ ⟨#[47]⟩ ++ N ++ ⟨#[32]⟩ ++ S ++ ⟨#[32]⟩ ++ W ++ ⟨#[32, 100, 101, 108, 101, 116, 101, 100]⟩ ++ ⟨#[32, 97, 116, 32]⟩ ++ P)) w0 := fun w0 => run_string_add_sum w0 _ _ (by omega)
      have z10 : (C ++ ⟨#[47]⟩ ++ H ++ ⟨#[47]⟩ ++ N ++ ⟨#[32]⟩ ++ S ++ ⟨#[32]⟩ ++ W ++ ⟨#[32, 100, 101, 108, 101, 116, 101, 100]⟩ ++ ⟨#[32, 97, 116, 32]⟩ ++ P : ByteArray).size ≤ 9048 := by rw [ByteArray.size_append]; omega
      go_enter Tryd.func12, Tryd.ntmps12
      go_wp2_with fail
      refine (HV.out _ hB.out).mono ?_
      rintro e w1 ⟨rfl, hb1⟩
      go_upto_region 4 with fail
      have HQ := Hid.in_ (show Box (w1.alloc (.cells #[.string ⟨#[]⟩, .string ⟨#[103, 111, 111, 100]⟩, .string ⟨#[98, 97, 100, 45, 105, 100]⟩, .string ⟨#[98, 97, 100, 45, 100, 97, 116, 97]⟩, .string ⟨#[110, 111, 45, 100, 97, 116, 97]⟩] 9)) w.heap.size _ ∧ (w1.alloc (.cells #[.string ⟨#[]⟩, .string ⟨#[103, 111, 111, 100]⟩, .string ⟨#[98, 97, 100, 45, 105, 100]⟩, .string ⟨#[98, 97, 100, 45, 100, 97, 116, 97]⟩, .string ⟨#[110, 111, 45, 100, 97, 116, 97]⟩] 9)).cell? ⟨w1.heap.size, t', none⟩ = some (.string W) from ⟨Box.step (bstep hb1 (balloc (Below.refl _ _) _)) hB0.out, by rw [← HWt.out]; exact Box.new w1 [.string ⟨#[]⟩, .string ⟨#[103, 111, 111, 100]⟩, .string ⟨#[98, 97, 100, 45, 105, 100]⟩, .string ⟨#[98, 97, 100, 45, 100, 97, 116, 97]⟩, .string ⟨#[110, 111, 45, 100, 97, 116, 97]⟩] 9 t' _ (fw_at ht1 ht4)⟩)
      have HB1 := Hid.in_ (balloc (bstep HB0.out hb1) (.cells #[.string ⟨#[]⟩, .string ⟨#[103, 111, 111, 100]⟩, .string ⟨#[98, 97, 100, 45, 105, 100]⟩, .string ⟨#[98, 97, 100, 45, 100, 97, 116, 97]⟩, .string ⟨#[110, 111, 45, 100, 97, 116, 97]⟩] 9))
      clear hb1
      generalize w1.heap.size = g at *
      generalize w1.alloc (.cells #[.string ⟨#[]⟩, .string ⟨#[103, 111, 111, 100]⟩, .string ⟨#[98, 97, 100, 45, 105, 100]⟩, .string ⟨#[98, 97, 100, 45, 100, 97, 116, 97]⟩, .string ⟨#[110, 111, 45, 100, 97, 116, 97]⟩] 9) = wA at *
      have q0 : wA.cell? ⟨w.heap.size, 0, none⟩ = some (.int .i64 (c' : Int)) := HQ.out.1 0 _ rfl
      have q1 : wA.cell? ⟨w.heap.size, 1, none⟩ = some (.int .i64 (h' : Int)) := HQ.out.1 1 _ rfl
      have q2 : wA.cell? ⟨w.heap.size, 2, none⟩ = some (.int .i64 (n' : Int)) := HQ.out.1 2 _ rfl
      have q3 : wA.cell? ⟨w.heap.size, 3, none⟩ = some (.int .i64 (s' : Int)) := HQ.out.1 3 _ rfl
      have q5 : wA.cell? ⟨w.heap.size, 5, none⟩ = some (.int .i64 (t' : Int)) := HQ.out.1 5 _ rfl
      have q6 : wA.cell? ⟨w.heap.size, 6, none⟩ = some (.bool true) := HQ.out.1 6 _ rfl
      have q7 : wA.cell? ⟨w.heap.size, 7, none⟩ = some (.int .i64 (p' : Int)) := HQ.out.1 7 _ rfl
      have qW : wA.cell? ⟨g, t', none⟩ = some (.string W) := HQ.out.2
      go_region_held3 (fun w' => w'.cell? ⟨w.heap.size, 0, none⟩ = some (.int .i64 (c' : Int)) ∧ w'.cell? ⟨w.heap.size, 1, none⟩ = some (.int .i64 (h' : Int)) ∧ w'.cell? ⟨w.heap.size, 2, none⟩ = some (.int .i64 (n' : Int)) ∧ w'.cell? ⟨w.heap.size, 3, none⟩ = some (.int .i64 (s' : Int)) ∧ w'.cell? ⟨w.heap.size, 5, none⟩ = some (.int .i64 (t' : Int)) ∧ w'.cell? ⟨w.heap.size, 6, none⟩ = some (.bool true) ∧ w'.cell? ⟨w.heap.size, 7, none⟩ = some (.int .i64 (p' : Int)) ∧ w'.cell? ⟨g, t', none⟩ = some (.string W) ∧ Below w.heap.size w w')
        (first | exact ⟨e0, e1, e2, e3, e5, e6, e7, eW, eB⟩ | exact ⟨q0, q1, q2, q3, q5, q6, q7, qW, HB1.out.drew⟩ | exact ⟨q0, q1, q2, q3, q5, q6, q7, qW, HB1.out⟩ | assumption)
        (first | (go_at_call 37; refine (HG.out _ _ _ (by assumption)).mono ?_; rintro e w6 ⟨rfl, hb6⟩; have e0 : w6.cell? ⟨w.heap.size, 0, none⟩ = some (.int .i64 (c' : Int)) := (by first | exact cstep hb6 e0 | exact cstep hb6 q0); have e1 : w6.cell? ⟨w.heap.size, 1, none⟩ = some (.int .i64 (h' : Int)) := (by first | exact cstep hb6 e1 | exact cstep hb6 q1); have e2 : w6.cell? ⟨w.heap.size, 2, none⟩ = some (.int .i64 (n' : Int)) := (by first | exact cstep hb6 e2 | exact cstep hb6 q2); have e3 : w6.cell? ⟨w.heap.size, 3, none⟩ = some (.int .i64 (s' : Int)) := (by first | exact cstep hb6 e3 | exact cstep hb6 q3); have e5 : w6.cell? ⟨w.heap.size, 5, none⟩ = some (.int .i64 (t' : Int)) := (by first | exact cstep hb6 e5 | exact cstep hb6 q5); have e6 : w6.cell? ⟨w.heap.size, 6, none⟩ = some (.bool true) := (by first | exact cstep hb6 e6 | exact cstep hb6 q6); have e7 : w6.cell? ⟨w.heap.size, 7, none⟩ = some (.int .i64 (p' : Int)) := (by first | exact cstep hb6 e7 | exact cstep hb6 q7); have eW : w6.cell? ⟨g, t', none⟩ = some (.string W) := (by first | exact cstep hb6 eW | exact cstep hb6 qW); have eB : Below w.heap.size w w6 := (by first | exact bstep eB hb6 | exact bstep HB1.out.drew hb6 | exact bstep HB1.out hb6)))
      all_goals
        have HB2 := Hid.in_ eB
        clear eB
        go_wp2_with (go_at_call 37; refine (HG.out _ _ _ (by assumption)).mono ?_; rintro e w7 ⟨rfl, hb7⟩)
        go_ret
        exact ⟨ret_strD HS.out.symm, bstep HB2.out hb7⟩
end Go.Proofs.YtklaakhdpfgffaaDoor
