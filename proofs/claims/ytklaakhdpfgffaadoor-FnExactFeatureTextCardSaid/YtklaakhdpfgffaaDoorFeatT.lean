/- 'FeatureText' of the program and of the reference. -/
import Derived.Test.YtklaakhdpfgffaaDoorDec
import Derived.Test.YtklaakhdpfgffaaDoorFeature
namespace Go.Proofs.YtklaakhdpfgffaaDoor
open Go.ChangeShapes Go.WideShapes Go.ChangeAt Go.RowKit
set_option linter.unusedSimpArgs false
set_option linter.unusedVariables false
set_option maxRecDepth 4000

def featTab : List (List UInt8) := [[], [100, 117, 112, 108, 105, 99, 97, 116, 101], [102, 111, 114, 101, 105, 103, 110], [98, 97, 100, 45, 105, 100], [98, 97, 100, 45, 100, 97, 116, 97], [110, 111, 45, 100, 97, 116, 97], [100, 101, 108, 101, 116, 101, 100], [119, 101, 97, 107], [108, 111, 110, 103]]
def featW (k : Nat) : ByteArray := ⟨(featTab.getD k []).toArray⟩
def featVals : List Value := featTab.map fun z => Value.string ⟨z.toArray⟩
theorem featVals_get {k : Nat} (h : k < 9) : featVals[k]? = some (.string (featW k)) := by
  unfold featVals featW
  rw [List.getElem?_map]
  have : k < featTab.length := h
  rw [List.getElem?_eq_getElem this, List.getD_eq_getElem?_getD, List.getElem?_eq_getElem this]
  rfl
theorem featW_size {k : Nat} (h : k < 9) : (featW k).size ≤ 9 := by
  obtain rfl | rfl | rfl | rfl | rfl | rfl | rfl | rfl | rfl : k = 0 ∨ k = 1 ∨ k = 2 ∨ k = 3 ∨ k = 4 ∨ k = 5 ∨ k = 6 ∨ k = 7 ∨ k = 8 := by omega
  all_goals decide
def FeatT (w : World) : Prop := ∃ t', w.heap[0]? = some (.cells featVals.toArray t' (0, 0))
theorem FeatT.step {w w' : World} (k : Below w.heap.size w w') (h : FeatT w) : FeatT w' := by
  obtain ⟨t', ht⟩ := h
  exact ⟨t', by rw [k.block _ (Array.getElem?_eq_some_iff.1 ht).1]; exact ht⟩
theorem FeatT.cell {w : World} (h : FeatT w) {k : Nat} (hk : k < 9) : w.cell? ⟨0, k, none⟩ = some (.string (featW k)) := by
  obtain ⟨t', ht⟩ := h
  rw [cell_of_row w 0 k featVals.toArray t' (0, 0) ht, ← featVals_get hk]
  simp
def spS : ByteArray := ⟨#[32]⟩
def featP (n : Nat) : ByteArray := ⟨#[32]⟩ ++ decS n
theorem featP_size (n : Nat) : (featP n).size ≤ n + 2 := by
  unfold featP
  have h2 := decS_size n
  have h1 : (⟨#[32]⟩ : ByteArray).size = 1 := rfl
  rw [ByteArray.size_append]
  omega
def featS (k s v : Int) : ByteArray :=
  if validFeature k s v = false then ⟨#[]⟩ else if k = 8 then featW 8 ++ featP v.toNat else if k = 1 then featW 1 ++ featP s.toNat ++ featP v.toNat else if k = 7 then featW 7 ++ featP s.toNat ++ featP v.toNat else featW k.toNat ++ featP s.toNat
theorem feat_cases (k s v : Int) : (validFeature k s v = false ∧ Hid (featS k s v = ⟨#[]⟩)) ∨ (validFeature k s v = true ∧ ((k = 8 ∧ ∃ b : Nat, v = b ∧ b ≤ 8000 ∧ Hid (featS k s v = featW 8 ++ featP b)) ∨
    (k = 1 ∧ ∃ a b : Nat, s = a ∧ v = b ∧ a ≤ 63 ∧ b ≤ 8000 ∧ Hid (featS k s v = featW 1 ++ featP a ++ featP b)) ∨
    (k = 7 ∧ ∃ a b : Nat, s = a ∧ v = b ∧ a ≤ 63 ∧ b ≤ 8000 ∧ Hid (featS k s v = featW 7 ++ featP a ++ featP b)) ∨
    ∃ j a : Nat, k = j ∧ s = a ∧ 2 ≤ j ∧ j ≤ 6 ∧ a ≤ 63 ∧ Hid (featS k s v = featW j ++ featP a))) := by
  unfold Hid
  cases h : validFeature k s v
  · exact .inl ⟨rfl, by unfold featS; rw [if_pos h]⟩
  refine .inr ⟨rfl, ?_⟩
  have hv := h
  unfold validFeature at hv
  rw [Bool.and_eq_true] at hv
  obtain ⟨hs, hv⟩ := hv
  obtain ⟨s0, s1⟩ := inB_t hs
  obtain ⟨a, rfl⟩ := Int.eq_ofNat_of_zero_le s0
  have hf : featS k a v = if k = 8 then featW 8 ++ featP v.toNat else if k = 1 then featW 1 ++ featP a ++ featP v.toNat else if k = 7 then featW 7 ++ featP a ++ featP v.toNat else featW k.toNat ++ featP a := by
    unfold featS
    rw [if_neg (by rw [h]; decide)]
    rfl
  by_cases k8 : k = 8
  · subst k8
    rw [if_neg (by decide), if_neg (show ¬ (inB (8 : Int) 2 6 = true) by decide), if_neg (by decide), if_pos rfl, Bool.and_eq_true] at hv
    obtain ⟨v0, v1⟩ := inB_t hv.2
    obtain ⟨b, rfl⟩ := Int.eq_ofNat_of_zero_le (by omega : 0 ≤ v)
    exact .inl ⟨rfl, b, rfl, by omega, hf.trans (if_pos rfl)⟩
  by_cases k1 : k = 1
  · subst k1
    rw [if_pos rfl] at hv
    obtain ⟨v0, v1⟩ := inB_t hv
    obtain ⟨b, rfl⟩ := Int.eq_ofNat_of_zero_le (by omega : 0 ≤ v)
    exact .inr (.inl ⟨rfl, a, b, rfl, rfl, by omega, by omega, hf.trans ((if_neg k8).trans (if_pos rfl))⟩)
  by_cases k7 : k = 7
  · subst k7
    rw [if_neg (by decide), if_neg (show ¬ (inB (7 : Int) 2 6 = true) by decide), if_pos rfl] at hv
    obtain ⟨v0, v1⟩ := inB_t hv
    obtain ⟨b, rfl⟩ := Int.eq_ofNat_of_zero_le (by omega : 0 ≤ v)
    exact .inr (.inr (.inl ⟨rfl, a, b, rfl, rfl, by omega, by omega, hf.trans ((if_neg k8).trans ((if_neg k1).trans (if_pos rfl)))⟩))
  · rw [if_neg k1, if_neg k7, if_neg k8] at hv
    have h26 : inB k 2 6 = true := by
      cases h26 : inB k 2 6
      · rw [h26] at hv
        simp at hv
      · rfl
    obtain ⟨k2, k6⟩ := inB_t h26
    obtain ⟨j, rfl⟩ := Int.eq_ofNat_of_zero_le (by omega : 0 ≤ k)
    exact .inr (.inr (.inr ⟨j, a, rfl, rfl, by omega, by omega, by omega, hf.trans ((if_neg k8).trans ((if_neg k1).trans (if_neg k7)))⟩))
theorem spec_l11Words (w : World) :
    Calls Tryd.prog 57 #[] w fun e w' => ∃ g, e = .returned (.slice (some ⟨g, 0, none⟩) 9 9) ∧ Hid (Box w' g featVals) ∧ Below w.heap.size w w' := by
  go_enter Tryd.func57, Tryd.ntmps57
  go_wp2
  go_ret
  exact ⟨w.heap.size, rfl, Box.new w featVals _, balloc (Below.refl _ _) _⟩
set_option maxHeartbeats 4000000 in
theorem impl_FeatureText (k s v : Int) (w : World) (hs1 : (Lit.int .i64 s).wf = true) (hF : FeatT w) (hP : PowT w) :
    Calls Tryd.prog 10 #[.agg #[.int .i64 k, .int .i64 s, .int .i64 v]] w fun e w' => e = .returned (.string (featS k s v)) ∧ Below w.heap.size w w' := by
  have hB := Hid.in_ (Box.new w [.int .i64 k, .int .i64 s, .int .i64 v] 25)
  have HB0 := Hid.in_ (balloc (Below.refl w.heap.size w) (.cells #[.int .i64 k, .int .i64 s, .int .i64 v] 25))
  have HV := Hid.in_ (fun w => impl_ValidFeature k s v w hs1)
  have HF := Hid.in_ (FeatT.step HB0.out hF)
  have HP := Hid.in_ (tab_step hP HB0.out)
  clear hF hP
  obtain ⟨h1, HS⟩ | ⟨h1, ⟨rfl, b, rfl, hb, HS⟩ | ⟨rfl, a, b, rfl, rfl, ha, hb, HS⟩ | ⟨rfl, a, b, rfl, rfl, ha, hb, HS⟩ | ⟨j, a, rfl, rfl, hj2, hj6, ha, HS⟩⟩ := feat_cases k s v
  · rw [h1] at HV
    obtain ⟨c0, c1, c2⟩ := box3 hB.out
    go_enter Tryd.func10, Tryd.ntmps10
    go_wp2_with (go_at_call 34; refine (HV.out _).mono ?_; rintro e w1 ⟨rfl, hb1⟩)
    go_ret
    exact ⟨ret_strD HS.out.symm, bstep HB0.out hb1⟩
  · rw [h1] at HV
    have HD := Hid.in_ (fun w hP => impl_decimal b w (by omega) hP)
    have hWs := featW_size (k := 8) (by omega)
    have hDs := decS_size b
    have hPq : (⟨#[32]⟩ ++ decS b : ByteArray).size ≤ b + 2 := featP_size b
    have HC := Hid.in_ (fun (w : World) (h : FeatT w) => h.cell (k := 8) (by omega))
    have HPE := Hid.in_ (show featP b = ⟨#[32]⟩ ++ decS b from rfl)
    have hsp : (⟨#[32]⟩ : ByteArray).size = 1 := rfl
    generalize featP b = P at *
    generalize decS b = D at *
    generalize featW 8 = W at *
    have hno1 : ¬ ((⟨#[32]⟩ : ByteArray).size + D.size > 9223372036854775807) := by omega
    have hno2 : ¬ (W.size + (⟨#[32]⟩ ++ D : ByteArray).size > 9223372036854775807) := by omega
    obtain ⟨c0, c1, c2⟩ := box3 hB.out
    go_enter Tryd.func10, Tryd.ntmps10
    go_wp2_with fail
    refine (HV.out _).mono ?_
    rintro e w1 ⟨rfl, hb1⟩
    have HB1 := Hid.in_ (bstep HB0.out hb1)
    obtain ⟨d0, d1, d2⟩ := box3 (Box.step hb1 hB.out)
    have g0 := HC.out _ (FeatT.step hb1 HF.out)
    have HP1 := Hid.in_ (tab_step HP.out hb1)
    have HX1 := Hid.in_ (Box.step hb1 hB.out)
    clear hb1 c0 c1 c2
    go_wp2_with (go_at_call 35; refine (HD.out _ HP1.out).mono ?_; rintro e w2 ⟨rfl, hb2⟩; obtain ⟨d3, d4, d5⟩ := box3 (Box.step hb2 HX1.out))
    go_ret
    exact ⟨ret_strD (by rw [HS.out, HPE.out]), bstep HB1.out hb2⟩
  · rw [h1] at HV
    have HD := Hid.in_ (fun w hP => impl_decimal a w (by omega) hP)
    have HE := Hid.in_ (fun w hP => impl_decimal b w (by omega) hP)
    have hWs := featW_size (k := 1) (by omega)
    have hDs := decS_size a
    have hEs := decS_size b
    have hPq : (⟨#[32]⟩ ++ decS a : ByteArray).size ≤ a + 2 := featP_size a
    have hQq : (⟨#[32]⟩ ++ decS b : ByteArray).size ≤ b + 2 := featP_size b
    have HC := Hid.in_ (fun (w : World) (h : FeatT w) => h.cell (k := 1) (by omega))
    have HPE := Hid.in_ (And.intro (show featP a = ⟨#[32]⟩ ++ decS a from rfl) (show featP b = ⟨#[32]⟩ ++ decS b from rfl))
    have hsp : (⟨#[32]⟩ : ByteArray).size = 1 := rfl
    generalize featP a = P at *
    generalize featP b = P2 at *
    generalize decS a = D at *
    generalize decS b = E at *
    generalize featW 1 = W at *
    have hno1 : ¬ ((⟨#[32]⟩ : ByteArray).size + D.size > 9223372036854775807) := by omega
    have hno3 : ¬ ((⟨#[32]⟩ : ByteArray).size + E.size > 9223372036854775807) := by omega
    have hno2 : ¬ (W.size + (⟨#[32]⟩ ++ D : ByteArray).size > 9223372036854775807) := by omega
    have hWD : (W ++ (⟨#[32]⟩ ++ D) : ByteArray).size ≤ 100 := by rw [ByteArray.size_append]; omega
    have hno4 : ¬ ((W ++ (⟨#[32]⟩ ++ D) : ByteArray).size + (⟨#[32]⟩ ++ E : ByteArray).size > 9223372036854775807) := by omega
    obtain ⟨c0, c1, c2⟩ := box3 hB.out
    go_enter Tryd.func10, Tryd.ntmps10
    go_wp2_with fail
    refine (HV.out _).mono ?_
    rintro e w1 ⟨rfl, hb1⟩
    have HB1 := Hid.in_ (bstep HB0.out hb1)
    obtain ⟨d0, d1, d2⟩ := box3 (Box.step hb1 hB.out)
    have g0 := HC.out _ (FeatT.step hb1 HF.out)
    have HP1 := Hid.in_ (tab_step HP.out hb1)
    have HX1 := Hid.in_ (Box.step hb1 hB.out)
    clear hb1 c0 c1 c2
    go_wp2_with (go_at_call 35; refine (HD.out _ HP1.out).mono ?_; rintro e w2 ⟨rfl, hb2⟩; have HX2 := Hid.in_ (Box.step hb2 HX1.out); have HP2 := Hid.in_ (tab_step HP1.out hb2); have HB2 := Hid.in_ (bstep HB1.out hb2); clear hb2; obtain ⟨d3, d4, d5⟩ := box3 HX2.out; go_wp2_with fail; refine (HE.out _ HP2.out).mono ?_; rintro e w3 ⟨rfl, hb3⟩)
    go_ret
    exact ⟨ret_strD (by rw [HS.out, HPE.out.1, HPE.out.2]), bstep HB2.out hb3⟩
  · rw [h1] at HV
    have HD := Hid.in_ (fun w hP => impl_decimal a w (by omega) hP)
    have HE := Hid.in_ (fun w hP => impl_decimal b w (by omega) hP)
    have hWs := featW_size (k := 7) (by omega)
    have hDs := decS_size a
    have hEs := decS_size b
    have hPq : (⟨#[32]⟩ ++ decS a : ByteArray).size ≤ a + 2 := featP_size a
    have hQq : (⟨#[32]⟩ ++ decS b : ByteArray).size ≤ b + 2 := featP_size b
    have HC := Hid.in_ (fun (w : World) (h : FeatT w) => h.cell (k := 7) (by omega))
    have HPE := Hid.in_ (And.intro (show featP a = ⟨#[32]⟩ ++ decS a from rfl) (show featP b = ⟨#[32]⟩ ++ decS b from rfl))
    have hsp : (⟨#[32]⟩ : ByteArray).size = 1 := rfl
    generalize featP a = P at *
    generalize featP b = P2 at *
    generalize decS a = D at *
    generalize decS b = E at *
    generalize featW 7 = W at *
    have hno1 : ¬ ((⟨#[32]⟩ : ByteArray).size + D.size > 9223372036854775807) := by omega
    have hno3 : ¬ ((⟨#[32]⟩ : ByteArray).size + E.size > 9223372036854775807) := by omega
    have hno2 : ¬ (W.size + (⟨#[32]⟩ ++ D : ByteArray).size > 9223372036854775807) := by omega
    have hWD : (W ++ (⟨#[32]⟩ ++ D) : ByteArray).size ≤ 100 := by rw [ByteArray.size_append]; omega
    have hno4 : ¬ ((W ++ (⟨#[32]⟩ ++ D) : ByteArray).size + (⟨#[32]⟩ ++ E : ByteArray).size > 9223372036854775807) := by omega
    obtain ⟨c0, c1, c2⟩ := box3 hB.out
    go_enter Tryd.func10, Tryd.ntmps10
    go_wp2_with fail
    refine (HV.out _).mono ?_
    rintro e w1 ⟨rfl, hb1⟩
    have HB1 := Hid.in_ (bstep HB0.out hb1)
    obtain ⟨d0, d1, d2⟩ := box3 (Box.step hb1 hB.out)
    have g0 := HC.out _ (FeatT.step hb1 HF.out)
    have HP1 := Hid.in_ (tab_step HP.out hb1)
    have HX1 := Hid.in_ (Box.step hb1 hB.out)
    clear hb1 c0 c1 c2
    go_wp2_with (go_at_call 35; refine (HD.out _ HP1.out).mono ?_; rintro e w2 ⟨rfl, hb2⟩; have HX2 := Hid.in_ (Box.step hb2 HX1.out); have HP2 := Hid.in_ (tab_step HP1.out hb2); have HB2 := Hid.in_ (bstep HB1.out hb2); clear hb2; obtain ⟨d3, d4, d5⟩ := box3 HX2.out; go_wp2_with fail; refine (HE.out _ HP2.out).mono ?_; rintro e w3 ⟨rfl, hb3⟩)
    go_ret
    exact ⟨ret_strD (by rw [HS.out, HPE.out.1, HPE.out.2]), bstep HB2.out hb3⟩
  · rw [h1] at HV
    have HD := Hid.in_ (fun w hP => impl_decimal a w (by omega) hP)
    have hWs := featW_size (k := j) (by omega)
    have hDs := decS_size a
    have hPs := featP_size a
    have HC := Hid.in_ (fun (w : World) (h : FeatT w) => h.cell (k := j) (by omega))
    have HPE := Hid.in_ (show featP a = ⟨#[32]⟩ ++ decS a from rfl)
    have hPq : (⟨#[32]⟩ ++ decS a : ByteArray).size ≤ a + 2 := hPs
    have hsp : (⟨#[32]⟩ : ByteArray).size = 1 := rfl
    generalize featP a = P at *
    generalize decS a = D at *
    generalize featW j = W at *
    have hno1 : ¬ ((⟨#[32]⟩ : ByteArray).size + D.size > 9223372036854775807) := by omega
    have hno2 : ¬ (W.size + (⟨#[32]⟩ ++ D : ByteArray).size > 9223372036854775807) := by omega
    obtain ⟨c0, c1, c2⟩ := box3 hB.out
    have e1 : ((j : Int) == 1) = false := beq_eq_false_iff_ne.2 (by omega)
    have e7 : ((j : Int) == 7) = false := beq_eq_false_iff_ne.2 (by omega)
    have e8 : ((j : Int) == 8) = false := beq_eq_false_iff_ne.2 (by omega)
    have e9 : ((j : Int) != 8) = true := by rw [bne, e8]; rfl
    go_enter Tryd.func10, Tryd.ntmps10
    go_wp2_with fail
    refine (HV.out _).mono ?_
    rintro e w1 ⟨rfl, hb1⟩
    have HB1 := Hid.in_ (bstep HB0.out hb1)
    obtain ⟨d0, d1, d2⟩ := box3 (Box.step hb1 hB.out)
    have g0 := HC.out _ (FeatT.step hb1 HF.out)
    have HP1 := Hid.in_ (tab_step HP.out hb1)
    have HX1 := Hid.in_ (Box.step hb1 hB.out)
    clear hb1 c0 c1 c2
    go_wp2_with (go_at_call 35; refine (HD.out _ HP1.out).mono ?_; rintro e w2 ⟨rfl, hb2⟩; obtain ⟨d3, d4, d5⟩ := box3 (Box.step hb2 HX1.out))
    go_ret
    exact ⟨ret_strD (by rw [HS.out, HPE.out]), bstep HB1.out hb2⟩
set_option maxHeartbeats 4000000 in
theorem spec_l11Text (k s v : Int) (w : World) (h1 : validFeature k s v = true) :
    Calls Tryd.prog 33 #[.agg #[.int .i64 k, .int .i64 s, .int .i64 v]] w fun e w' => e = .returned (.string (featS k s v)) ∧ Below w.heap.size w w' := by
  have hB := Hid.in_ (Box.new w [.int .i64 k, .int .i64 s, .int .i64 v] 25)
  have HB0 := Hid.in_ (balloc (Below.refl w.heap.size w) (.cells #[.int .i64 k, .int .i64 s, .int .i64 v] 25))
  obtain ⟨h1, HS⟩ | ⟨_, ⟨rfl, b, rfl, hb, HS⟩ | ⟨rfl, a, b, rfl, rfl, ha, hb, HS⟩ | ⟨rfl, a, b, rfl, rfl, ha, hb, HS⟩ | ⟨j, a, rfl, rfl, hj2, hj6, ha, HS⟩⟩ := feat_cases k s v
  · simp_all
  · have HD := Hid.in_ (fun w => spec_l01Dec b b w (Nat.le_refl _) (by omega))
    have hWs := featW_size (k := 8) (by omega)
    have hDs := decS_size b
    have hPq : (⟨#[32]⟩ ++ decS b : ByteArray).size ≤ b + 2 := featP_size b
    have hsp : (⟨#[32]⟩ : ByteArray).size = 1 := rfl
    have HPE := Hid.in_ (show featP b = ⟨#[32]⟩ ++ decS b from rfl)
    have HGW := Hid.in_ (fun (w : World) (g : Nat) (h : Box w g featVals) => h 8 _ (featVals_get (by omega)))
    generalize featP b = P at *
    generalize decS b = D at *
    generalize featW 8 = W at *
    have hno1 : ¬ ((⟨#[32]⟩ : ByteArray).size + D.size > 9223372036854775807) := by omega
    have hno2 : ¬ (W.size + (⟨#[32]⟩ ++ D : ByteArray).size > 9223372036854775807) := by omega
    obtain ⟨c0, c1, c2⟩ := box3 hB.out
    go_enter Tryd.func33, Tryd.ntmps33
    go_upto_region 1 with fail
    go_region_with ((go_at_call 57; refine (spec_l11Words _).mono ?_; rintro e w1 ⟨g, rfl, hg, hb1⟩; have HX1 := Hid.in_ (Box.step (Below.refl _ _).drew (Box.step hb1 (Box.step (Below.refl _ _).drew hB.out)));  obtain ⟨d0, d1, d2⟩ := box3 (Box.step hb1 (Box.step (Below.refl _ _).drew hB.out)); have g0 := HGW.out _ _ hg.out; have HB1 := Hid.in_ (bstep HB0.out.drew hb1); clear hb1))
    all_goals
      go_wp2_with (go_at_call 58; refine (HD.out _).mono ?_; rintro e w2 ⟨rfl, hb2⟩; obtain ⟨d3, d4, d5⟩ := box3 (Box.step hb2 HX1.out))
      go_ret
      exact ⟨ret_strD (by rw [HS.out, HPE.out]), bstep HB1.out hb2⟩
  · have HD := Hid.in_ (fun w => spec_l01Dec a a w (Nat.le_refl _) (by omega))
    have hWs := featW_size (k := 1) (by omega)
    have hDs := decS_size a
    have hPq : (⟨#[32]⟩ ++ decS a : ByteArray).size ≤ a + 2 := featP_size a
    have hsp : (⟨#[32]⟩ : ByteArray).size = 1 := rfl
    have HE := Hid.in_ (fun w => spec_l01Dec b b w (Nat.le_refl _) (by omega))
    have hEs := decS_size b
    have hQq : (⟨#[32]⟩ ++ decS b : ByteArray).size ≤ b + 2 := featP_size b
    have HPE := Hid.in_ (And.intro (show featP a = ⟨#[32]⟩ ++ decS a from rfl) (show featP b = ⟨#[32]⟩ ++ decS b from rfl))
    generalize featP b = P2 at *
    generalize decS b = E at *
    have hno3 : ¬ ((⟨#[32]⟩ : ByteArray).size + E.size > 9223372036854775807) := by omega
    have HGW := Hid.in_ (fun (w : World) (g : Nat) (h : Box w g featVals) => h 1 _ (featVals_get (by omega)))
    generalize featP a = P at *
    generalize decS a = D at *
    generalize featW 1 = W at *
    have hno1 : ¬ ((⟨#[32]⟩ : ByteArray).size + D.size > 9223372036854775807) := by omega
    have hno2 : ¬ (W.size + (⟨#[32]⟩ ++ D : ByteArray).size > 9223372036854775807) := by omega
    have hWD : (W ++ (⟨#[32]⟩ ++ D) : ByteArray).size ≤ 100 := by rw [ByteArray.size_append]; omega
    have hno4 : ¬ ((W ++ (⟨#[32]⟩ ++ D) : ByteArray).size + (⟨#[32]⟩ ++ E : ByteArray).size > 9223372036854775807) := by omega
    obtain ⟨c0, c1, c2⟩ := box3 hB.out
    go_enter Tryd.func33, Tryd.ntmps33
    go_upto_region 1 with fail
    go_region_with ((go_at_call 57; refine (spec_l11Words _).mono ?_; rintro e w1 ⟨g, rfl, hg, hb1⟩; have HX1 := Hid.in_ (Box.step (Below.refl _ _).drew (Box.step hb1 (Box.step (Below.refl _ _).drew hB.out)));  obtain ⟨d0, d1, d2⟩ := box3 (Box.step hb1 (Box.step (Below.refl _ _).drew hB.out)); have g0 := HGW.out _ _ hg.out; have HB1 := Hid.in_ (bstep HB0.out.drew hb1); clear hb1))
    all_goals
      go_wp2_with (go_at_call 58; refine (HD.out _).mono ?_; rintro e w2 ⟨rfl, hb2⟩; have HX2 := Hid.in_ (Box.step hb2 HX1.out); have HB2 := Hid.in_ (bstep HB1.out hb2); clear hb2; obtain ⟨d3, d4, d5⟩ := box3 HX2.out; go_wp2_with fail; refine (HE.out _).mono ?_; rintro e w3 ⟨rfl, hb3⟩)
      go_ret
      exact ⟨ret_strD (by rw [HS.out, HPE.out.1, HPE.out.2]), bstep HB2.out hb3⟩
  · have HD := Hid.in_ (fun w => spec_l01Dec a a w (Nat.le_refl _) (by omega))
    have hWs := featW_size (k := 7) (by omega)
    have hDs := decS_size a
    have hPq : (⟨#[32]⟩ ++ decS a : ByteArray).size ≤ a + 2 := featP_size a
    have hsp : (⟨#[32]⟩ : ByteArray).size = 1 := rfl
    have HE := Hid.in_ (fun w => spec_l01Dec b b w (Nat.le_refl _) (by omega))
    have hEs := decS_size b
    have hQq : (⟨#[32]⟩ ++ decS b : ByteArray).size ≤ b + 2 := featP_size b
    have HPE := Hid.in_ (And.intro (show featP a = ⟨#[32]⟩ ++ decS a from rfl) (show featP b = ⟨#[32]⟩ ++ decS b from rfl))
    generalize featP b = P2 at *
    generalize decS b = E at *
    have hno3 : ¬ ((⟨#[32]⟩ : ByteArray).size + E.size > 9223372036854775807) := by omega
    have HGW := Hid.in_ (fun (w : World) (g : Nat) (h : Box w g featVals) => h 7 _ (featVals_get (by omega)))
    generalize featP a = P at *
    generalize decS a = D at *
    generalize featW 7 = W at *
    have hno1 : ¬ ((⟨#[32]⟩ : ByteArray).size + D.size > 9223372036854775807) := by omega
    have hno2 : ¬ (W.size + (⟨#[32]⟩ ++ D : ByteArray).size > 9223372036854775807) := by omega
    have hWD : (W ++ (⟨#[32]⟩ ++ D) : ByteArray).size ≤ 100 := by rw [ByteArray.size_append]; omega
    have hno4 : ¬ ((W ++ (⟨#[32]⟩ ++ D) : ByteArray).size + (⟨#[32]⟩ ++ E : ByteArray).size > 9223372036854775807) := by omega
    obtain ⟨c0, c1, c2⟩ := box3 hB.out
    go_enter Tryd.func33, Tryd.ntmps33
    go_upto_region 1 with fail
    go_region_with ((go_at_call 57; refine (spec_l11Words _).mono ?_; rintro e w1 ⟨g, rfl, hg, hb1⟩; have HX1 := Hid.in_ (Box.step (Below.refl _ _).drew (Box.step hb1 (Box.step (Below.refl _ _).drew hB.out)));  obtain ⟨d0, d1, d2⟩ := box3 (Box.step hb1 (Box.step (Below.refl _ _).drew hB.out)); have g0 := HGW.out _ _ hg.out; have HB1 := Hid.in_ (bstep HB0.out.drew hb1); clear hb1))
    all_goals
      go_wp2_with (go_at_call 58; refine (HD.out _).mono ?_; rintro e w2 ⟨rfl, hb2⟩; have HX2 := Hid.in_ (Box.step hb2 HX1.out); have HB2 := Hid.in_ (bstep HB1.out hb2); clear hb2; obtain ⟨d3, d4, d5⟩ := box3 HX2.out; go_wp2_with fail; refine (HE.out _).mono ?_; rintro e w3 ⟨rfl, hb3⟩)
      go_ret
      exact ⟨ret_strD (by rw [HS.out, HPE.out.1, HPE.out.2]), bstep HB2.out hb3⟩
  · have HD := Hid.in_ (fun w => spec_l01Dec a a w (Nat.le_refl _) (by omega))
    have hWs := featW_size (k := j) (by omega)
    have hDs := decS_size a
    have hPq : (⟨#[32]⟩ ++ decS a : ByteArray).size ≤ a + 2 := featP_size a
    have hsp : (⟨#[32]⟩ : ByteArray).size = 1 := rfl
    have HPE := Hid.in_ (show featP a = ⟨#[32]⟩ ++ decS a from rfl)
    have HGW := Hid.in_ (fun (w : World) (g : Nat) (h : Box w g featVals) => h j _ (featVals_get (by omega)))
    generalize featP a = P at *
    generalize decS a = D at *
    generalize featW j = W at *
    have hno1 : ¬ ((⟨#[32]⟩ : ByteArray).size + D.size > 9223372036854775807) := by omega
    have hno2 : ¬ (W.size + (⟨#[32]⟩ ++ D : ByteArray).size > 9223372036854775807) := by omega
    have e1 : ((j : Int) == 1) = false := beq_eq_false_iff_ne.2 (by omega)
    have e7 : ((j : Int) == 7) = false := beq_eq_false_iff_ne.2 (by omega)
    have e8 : ((j : Int) == 8) = false := beq_eq_false_iff_ne.2 (by omega)
    have e9 : ((j : Int) != 8) = true := by rw [bne, e8]; rfl
    obtain ⟨c0, c1, c2⟩ := box3 hB.out
    go_enter Tryd.func33, Tryd.ntmps33
    go_upto_region 1 with fail
    go_region_with ((go_at_call 57; refine (spec_l11Words _).mono ?_; rintro e w1 ⟨g, rfl, hg, hb1⟩; have HX1 := Hid.in_ (Box.step (Below.refl _ _).drew (Box.step hb1 (Box.step (Below.refl _ _).drew hB.out)));  obtain ⟨d0, d1, d2⟩ := box3 (Box.step hb1 (Box.step (Below.refl _ _).drew hB.out)); have g0 := HGW.out _ _ hg.out; have HB1 := Hid.in_ (bstep HB0.out.drew hb1); clear hb1))
    all_goals
      go_wp2_with (go_at_call 58; refine (HD.out _).mono ?_; rintro e w2 ⟨rfl, hb2⟩; obtain ⟨d3, d4, d5⟩ := box3 (Box.step hb2 HX1.out))
      go_ret
      exact ⟨ret_strD (by rw [HS.out, HPE.out]), bstep HB1.out hb2⟩
set_option maxHeartbeats 4000000 in
theorem spec_FeatureText (k s v : Int) (w : World) (hs1 : (Lit.int .i64 s).wf = true) :
    Calls Tryd.prog 8 #[.agg #[.int .i64 k, .int .i64 s, .int .i64 v]] w fun e w' => e = .returned (.string (featS k s v)) ∧ Below w.heap.size w w' := by
  have hB := Hid.in_ (Box.new w [.int .i64 k, .int .i64 s, .int .i64 v] 25)
  have HB0 := Hid.in_ (balloc (Below.refl w.heap.size w) (.cells #[.int .i64 k, .int .i64 s, .int .i64 v] 25))
  have HV := Hid.in_ (fun w => spec_l11Ok k s v w hs1)
  obtain ⟨c0, c1, c2⟩ := box3 hB.out
  obtain ⟨h1, HS⟩ | ⟨h1, _⟩ := feat_cases k s v
  · rw [h1] at HV
    go_enter Tryd.func8, Tryd.ntmps8
    go_wp2_with (go_at_call 32; refine (HV.out _).mono ?_; rintro e w1 ⟨rfl, hb1⟩)
    go_ret
    exact ⟨ret_strD HS.out.symm, bstep HB0.out hb1⟩
  · have HT := Hid.in_ (fun w => spec_l11Text k s v w h1)
    rw [h1] at HV
    go_enter Tryd.func8, Tryd.ntmps8
    go_wp2_with fail
    refine (HV.out _).mono ?_
    rintro e w1 ⟨rfl, hb1⟩
    obtain ⟨d0, d1, d2⟩ := box3 (Box.step hb1 hB.out)
    have HB1 := Hid.in_ (bstep HB0.out hb1)
    clear hb1
    go_wp2_with fail
    refine (HT.out _).mono ?_
    rintro e w2 ⟨rfl, hb2⟩
    go_wp2
    go_ret
    exact ⟨rfl, bstep HB1.out hb2⟩
end Go.Proofs.YtklaakhdpfgffaaDoor
