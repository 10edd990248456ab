/- 'FieldAt' of the program and of the reference; 'toMark' of the laws. -/
import Derived.Test.YtnipneeolkkleabDoorFldI
namespace Go.Proofs.YtnipneeolkkleabDoor
open Go.ChangeShapes Go.WideShapes Go.ChangeAt Go.RowKit
set_option linter.unusedSimpArgs false
set_option linter.unusedVariables false
set_option maxRecDepth 4000

def fatBad (s : ByteArray) (f : Int) (m : MarkR) : Bool := !(validCells s && (inB f 1 3 && validMarks [m] s.size))
def fatC (s : ByteArray) (f : Int) (m : MarkR) (n : Int) : Int := if fatBad s f m = true then 1 else if inB n 0 32 = false then 2 else if (n.toNat + 2) * bcN f ≤ s.size then 0 else 2
def fatV (s : ByteArray) (f : Int) (m : MarkR) (n : Int) : ByteArray := if fatC s f m n = 0 then fldD f s m.b.toNat n.toNat else ⟨#[]⟩
def fatB (s : ByteArray) (f : Int) (m : MarkR) (n : Int) : Bool := decide (fatC s f m n = 0) && fldG f m.k s m.b.toNat n.toNat
def fatR (s : ByteArray) (f : Int) (m : MarkR) (n : Int) (v : ByteArray) (b : Bool) (c : Int) : Prop := fatV s f m n = v ∧ fatB s f m n = b ∧ fatC s f m n = c
theorem fat_no {s : ByteArray} {f : Int} {m : MarkR} {n c : Int} (h : fatC s f m n = c) (hc : c ≠ 0) : fatR s f m n ⟨#[]⟩ false c := by
  unfold fatR fatV fatB
  rw [h, if_neg hc, decide_eq_false hc]
  exact ⟨rfl, rfl, rfl⟩
theorem fat_yes {s : ByteArray} {f : Int} {m : MarkR} {n : Int} (h : fatC s f m n = 0) : fatR s f m n (fldD f s m.b.toNat n.toNat) (fldG f m.k s m.b.toNat n.toNat) 0 := by
  unfold fatR fatV fatB
  rw [h, if_pos rfl, decide_eq_true rfl]
  exact ⟨rfl, rfl, rfl⟩
theorem mark_one {m : MarkR} {t : Int} (h : validMarks [m] t = true) : inB m.k 1 3 = true ∧ 0 ≤ m.b ∧ m.b < t := by
  have hb := mark_in (l := [m]) h (k := 0) rfl
  refine ⟨?_, hb.2.2⟩
  unfold validMarks at h
  simp only [Bool.and_eq_true] at h
  have hk := allTo_at h.2.2 0 (by simp)
  unfold markOk at hk
  rw [show ([m] : List MarkR)[0]? = some m from rfl] at hk
  simp only [Bool.and_eq_true] at hk
  exact hk.1.1.1
theorem fat_cases (s : ByteArray) (f : Int) (m : MarkR) (n : Int) :
    (validCells s = false ∧ Hid (fatR s f m n ⟨#[]⟩ false 1)) ∨ (validCells s = true ∧ inB f 1 3 = false ∧ Hid (fatR s f m n ⟨#[]⟩ false 1)) ∨
    (validCells s = true ∧ inB f 1 3 = true ∧ validMarks [m] s.size = false ∧ Hid (fatR s f m n ⟨#[]⟩ false 1)) ∨
    (validCells s = true ∧ inB f 1 3 = true ∧ validMarks [m] s.size = true ∧ inB n 0 32 = false ∧ Hid (fatR s f m n ⟨#[]⟩ false 2)) ∨
    (validCells s = true ∧ inB f 1 3 = true ∧ validMarks [m] s.size = true ∧ ∃ j b : Nat, n = j ∧ m.b = b ∧ b < s.size ∧ inB m.k 1 3 = true ∧ j ≤ 32 ∧ ¬ (j + 2) * bcN f ≤ s.size ∧ Hid (fatR s f m n ⟨#[]⟩ false 2)) ∨
    (validCells s = true ∧ inB f 1 3 = true ∧ validMarks [m] s.size = true ∧ ∃ j b : Nat, n = j ∧ m.b = b ∧ b < s.size ∧ inB m.k 1 3 = true ∧ j ≤ 32 ∧ (j + 2) * bcN f ≤ s.size ∧ Hid (fatR s f m n (fldD f s b j) (fldG f m.k s b j) 0)) := by
  have hC : fatC s f m n = if fatBad s f m = true then 1 else if inB n 0 32 = false then 2 else if (n.toNat + 2) * bcN f ≤ s.size then 0 else 2 := rfl
  unfold fatBad at hC
  unfold Hid
  cases h1 : validCells s
  · rw [h1] at hC
    exact .inl ⟨rfl, fat_no hC (by decide)⟩
  cases h2 : inB f 1 3
  · rw [h1, h2] at hC
    exact .inr (.inl ⟨rfl, rfl, fat_no hC (by decide)⟩)
  cases h3 : validMarks [m] s.size
  · rw [h1, h2, h3] at hC
    exact .inr (.inr (.inl ⟨rfl, rfl, rfl, fat_no hC (by decide)⟩))
  rw [h1, h2, h3, if_neg (by decide)] at hC
  obtain ⟨hk, hb0, hb1⟩ := mark_one h3
  obtain ⟨b, hb⟩ := Int.eq_ofNat_of_zero_le hb0
  cases h4 : inB n 0 32
  · rw [h4, if_pos rfl] at hC
    exact .inr (.inr (.inr (.inl ⟨rfl, rfl, rfl, rfl, fat_no hC (by decide)⟩)))
  rw [h4, if_neg (by decide)] at hC
  obtain ⟨n0, n1⟩ := inB_t h4
  obtain ⟨j, rfl⟩ := Int.eq_ofNat_of_zero_le n0
  rw [show ((j : Int)).toNat = j from rfl] at hC
  by_cases h5 : (j + 2) * bcN f ≤ s.size
  · rw [if_pos h5] at hC
    have := fat_yes hC
    rw [hb] at this
    exact .inr (.inr (.inr (.inr (.inr ⟨rfl, rfl, rfl, j, b, rfl, hb, by omega, hk, by omega, h5, this⟩))))
  · rw [if_neg h5] at hC
    exact .inr (.inr (.inr (.inr (.inl ⟨rfl, rfl, rfl, j, b, rfl, hb, by omega, hk, by omega, h5, fat_no hC (by decide)⟩))))
theorem ret3_fat {s : ByteArray} {f : Int} {m : MarkR} {n : Int} {v : ByteArray} {b : Bool} {c : Int} (h : fatR s f m n v b c) : Ending.returned (.tuple #[.string v, .bool b, .int .i64 c]) = .returned (.tuple #[.string (fatV s f m n), .bool (fatB s f m n), .int .i64 (fatC s f m n)]) := by
  rw [h.1, h.2.1, h.2.2]
set_option maxHeartbeats 8000000 in
theorem spec_FieldAt (s : ByteArray) (f : Int) (m : MarkR) (n : Int) (w : World) (hs : s.size ≤ 1048576) :
    Calls Tryd.prog 5 #[.string s, .int .i64 f, .agg #[.int .i64 m.k, .int .i64 m.a, .int .i64 m.b], .int .i64 n] w fun e w' => e = .returned (.tuple #[.string (fatV s f m n), .bool (fatB s f m n), .int .i64 (fatC s f m n)]) ∧ Below w.heap.size w w' := by
  have hB := Hid.in_ (Box.new w [.int .i64 m.k, .int .i64 m.a, .int .i64 m.b] 26)
  have HB0 := Hid.in_ (balloc (Below.refl w.heap.size w) (.cells #[.int .i64 m.k, .int .i64 m.a, .int .i64 m.b] 26))
  have HC := Hid.in_ (fun w => spec_ValidCells s w (by omega))
  have HM := Hid.in_ (show validCells s = true → ∀ (w1 : World) (g : Nat), w1.heap.size = g → Calls Tryd.prog 16 #[.slice (some ⟨g, 0, none⟩) 1 1, .int .i64 s.size] (w1.alloc (.cells #[.int .i64 m.k, .int .i64 m.a, .int .i64 m.b] 26)) fun e w' => e = .returned (.bool (validMarks [m] s.size)) ∧ Below (w1.alloc (.cells #[.int .i64 m.k, .int .i64 m.a, .int .i64 m.b] 26)).heap.size (w1.alloc (.cells #[.int .i64 m.k, .int .i64 m.a, .int .i64 m.b] 26)) w' from fun hv w1 g hg => by
    subst hg
    obtain ⟨v0, v8, _⟩ := valid_size hv
    have := spec_l07Ok (l := [m]) (n := 1) (b := w1.heap.size) (s.size : Int) (w1.alloc (.cells #[.int .i64 m.k, .int .i64 m.a, .int .i64 m.b] 26)) (World.ownsRow_lit w1 #[.int .i64 m.k, .int .i64 m.a, .int .i64 m.b] 1 (Nat.le_refl _) (by decide) rfl) (by omega) (by omega)
    rw [marks_t (by omega) (by omega)] at this
    exact this)
  obtain ⟨h1, HV⟩ | ⟨h1, h2, HV⟩ | ⟨h1, h2, h3, HV⟩ | ⟨h1, h2, h3, h4, HV⟩ | ⟨h1, h2, h3, j, b, rfl, hmb, hbs, hmk, hj, hl, HV⟩ | ⟨h1, h2, h3, j, b, rfl, hmb, hbs, hmk, hj, hl, HV⟩ := fat_cases s f m n
  · have HR := Hid.in_ (ret3_fat HV.out)
    rw [h1] at HC
    go_enter Tryd.func5, Tryd.ntmps5
    go_wp2_with (go_at_call 14; refine (HC.out _).mono ?_; rintro e w1 ⟨rfl, rfl⟩)
    go_ret3
    exact ⟨HR.out, HB0.out⟩
  · have HR := Hid.in_ (ret3_fat HV.out)
    rw [h1] at HC
    go_enter Tryd.func5, Tryd.ntmps5
    go_wp2_with (first | (go_at_call 15; refine (bool_is (spec_l07Format _ _) (by assumption)).mono ?_; rintro e w' ⟨rfl, rfl⟩) | (go_at_call 14; refine (HC.out _).mono ?_; rintro e w1 ⟨rfl, rfl⟩))
    go_ret3
    exact ⟨HR.out, HB0.out⟩
  · have HR := Hid.in_ (ret3_fat HV.out)
    rw [h1] at HC
    rw [h3] at HM
    obtain ⟨c0, c1, c2⟩ := box3 hB.out
    go_enter Tryd.func5, Tryd.ntmps5
    go_wp2_with (first | (go_at_call 15; refine (bool_is (spec_l07Format _ _) (by assumption)).mono ?_; rintro e w' ⟨rfl, rfl⟩) | (go_at_call 14; refine (HC.out _).mono ?_; rintro e w1 ⟨rfl, rfl⟩) | (go_at_call 16; refine (HM.out h1 _ _ (Array.size_push _)).mono ?_; rintro e w2 ⟨rfl, hb2⟩; have hX2 := Box.step (bstep (balloc (Below.refl _ _) _) hb2) hB.out; obtain ⟨d0, d1, d2⟩ := box3 hX2))
    go_ret3
    exact ⟨HR.out, bstep (balloc HB0.out _) hb2⟩
  · have HR := Hid.in_ (ret3_fat HV.out)
    rw [h1] at HC
    rw [h3] at HM
    obtain ⟨c0, c1, c2⟩ := box3 hB.out
    go_enter Tryd.func5, Tryd.ntmps5
    go_wp2_with (first | (go_at_call 15; refine (bool_is (spec_l07Format _ _) (by assumption)).mono ?_; rintro e w' ⟨rfl, rfl⟩) | (go_at_call 17; refine (bool_is (spec_l00In _ _ _ _) (by assumption)).mono ?_; rintro e w' ⟨rfl, rfl⟩) | (go_at_call 14; refine (HC.out _).mono ?_; rintro e w1 ⟨rfl, rfl⟩) | (go_at_call 16; refine (HM.out h1 _ _ (Array.size_push _)).mono ?_; rintro e w2 ⟨rfl, hb2⟩; have hX2 := Box.step (bstep (balloc (Below.refl _ _) _) hb2) hB.out; obtain ⟨d0, d1, d2⟩ := box3 hX2))
    go_ret3
    exact ⟨HR.out, bstep (balloc HB0.out _) hb2⟩
  · have HR := Hid.in_ (ret3_fat HV.out)
    have HF := Hid.in_ (fun w => spec_l09Field_no f m.k m.a s b j w hj hs hl)
    have h4 : inB (j : Int) 0 32 = true := inB_mk (by omega) (by omega)
    rw [h1] at HC
    rw [h3] at HM
    generalize m.b = mb at *
    subst hmb
    clear hl
    obtain ⟨c0, c1, c2⟩ := box3 hB.out
    go_enter Tryd.func5, Tryd.ntmps5
    go_wp2_with (first | (go_at_call 15; refine (bool_is (spec_l07Format _ _) (by assumption)).mono ?_; rintro e w' ⟨rfl, rfl⟩) | (go_at_call 17; refine (bool_is (spec_l00In _ _ _ _) (by assumption)).mono ?_; rintro e w' ⟨rfl, rfl⟩) | (go_at_call 14; refine (HC.out _).mono ?_; rintro e w1 ⟨rfl, rfl⟩) | (go_at_call 16; refine (HM.out h1 _ _ (Array.size_push _)).mono ?_; rintro e w2 ⟨rfl, hb2⟩; have hX2 := Box.step (bstep (balloc (Below.refl _ _) _) hb2) hB.out; obtain ⟨d0, d1, d2⟩ := box3 hX2) | (go_at_call 18; refine (HF.out _).mono ?_; rintro e w3 ⟨rfl, hb3⟩))
    go_ret3
    exact ⟨HR.out, bstep (bstep (balloc HB0.out _) hb2) hb3⟩
  · have HR := Hid.in_ (ret3_fat HV.out)
    have HF := Hid.in_ (fun w => spec_l09Field f m.k m.a s b j w h2 hmk h1 hbs hj hl)
    have h4 : inB (j : Int) 0 32 = true := inB_mk (by omega) (by omega)
    rw [h1] at HC
    rw [h3] at HM
    generalize m.b = mb at *
    subst hmb
    clear hl
    obtain ⟨c0, c1, c2⟩ := box3 hB.out
    go_enter Tryd.func5, Tryd.ntmps5
    go_wp2_with (first | (go_at_call 15; refine (bool_is (spec_l07Format _ _) (by assumption)).mono ?_; rintro e w' ⟨rfl, rfl⟩) | (go_at_call 17; refine (bool_is (spec_l00In _ _ _ _) (by assumption)).mono ?_; rintro e w' ⟨rfl, rfl⟩) | (go_at_call 14; refine (HC.out _).mono ?_; rintro e w1 ⟨rfl, rfl⟩) | (go_at_call 16; refine (HM.out h1 _ _ (Array.size_push _)).mono ?_; rintro e w2 ⟨rfl, hb2⟩; have hX2 := Box.step (bstep (balloc (Below.refl _ _) _) hb2) hB.out; obtain ⟨d0, d1, d2⟩ := box3 hX2) | (go_at_call 18; refine (HF.out _).mono ?_; rintro e w3 ⟨rfl, hb3⟩))
    go_ret3
    exact ⟨HR.out, bstep (bstep (balloc HB0.out _) hb2) hb3⟩
set_option maxHeartbeats 8000000 in
theorem impl_FieldAt (s : ByteArray) (f : Int) (m : MarkR) (n : Int) (w : World) (hs : s.size ≤ 1048576) (hT : Tab w) :
    Calls Tryd.prog 7 #[.string s, .int .i64 f, .agg #[.int .i64 m.k, .int .i64 m.a, .int .i64 m.b], .int .i64 n] w fun e w' => e = .returned (.tuple #[.string (fatV s f m n), .bool (fatB s f m n), .int .i64 (fatC s f m n)]) ∧ Below w.heap.size w w' := by
  have hB := Hid.in_ (Box.new w [.int .i64 m.k, .int .i64 m.a, .int .i64 m.b] 26)
  have HB0 := Hid.in_ (balloc (Below.refl w.heap.size w) (.cells #[.int .i64 m.k, .int .i64 m.a, .int .i64 m.b] 26))
  have HT := Hid.in_ (Tab.step HB0.out hT)
  clear hT
  have HC := Hid.in_ (fun w => impl_ValidCells s w (by omega))
  have HM := Hid.in_ (show ∀ w1 : World, Calls Tryd.prog 21 #[.slice (some ⟨w1.heap.size, 0, none⟩) 1 1, .int .i64 s.size] (w1.alloc (.cells #[.int .i64 m.k, .int .i64 m.a, .int .i64 m.b] 26)) fun e w' => e = .returned (.bool (validMarks [m] s.size)) ∧ Below (w1.alloc (.cells #[.int .i64 m.k, .int .i64 m.a, .int .i64 m.b] 26)).heap.size (w1.alloc (.cells #[.int .i64 m.k, .int .i64 m.a, .int .i64 m.b] 26)) w' from fun w1 =>
    impl_ValidMarks (l := [m]) (n := 1) (b := w1.heap.size) (s.size : Int) (w1.alloc (.cells #[.int .i64 m.k, .int .i64 m.a, .int .i64 m.b] 26)) (World.ownsRow_lit w1 #[.int .i64 m.k, .int .i64 m.a, .int .i64 m.b] 1 (Nat.le_refl _) (by decide) rfl))
  obtain ⟨h1, HV⟩ | ⟨h1, h2, HV⟩ | ⟨h1, h2, h3, HV⟩ | ⟨h1, h2, h3, h4, HV⟩ | ⟨h1, h2, h3, j, b, rfl, hmb, hbs, hmk, hj, hl, HV⟩ | ⟨h1, h2, h3, j, b, rfl, hmb, hbs, hmk, hj, hl, HV⟩ := fat_cases s f m n
  · have HR := Hid.in_ (ret3_fat HV.out)
    rw [h1] at HC
    go_enter Tryd.func7, Tryd.ntmps7
    go_wp2_with (go_at_call 19; refine (HC.out _).mono ?_; rintro e w1 ⟨rfl, hb1⟩; have hX1 := Box.step hb1 hB.out; obtain ⟨c0, c1, c2⟩ := box3 hX1)
    go_ret3
    exact ⟨HR.out, bstep HB0.out hb1⟩
  · have HR := Hid.in_ (ret3_fat HV.out)
    rw [h1] at HC
    go_enter Tryd.func7, Tryd.ntmps7
    go_wp2_with (first | (go_at_call 20; refine (bool_is (impl_isFormat _ _) (by assumption)).mono ?_; rintro e w' ⟨rfl, rfl⟩) | (go_at_call 19; refine (HC.out _).mono ?_; rintro e w1 ⟨rfl, hb1⟩; have hX1 := Box.step hb1 hB.out; obtain ⟨c0, c1, c2⟩ := box3 hX1))
    go_ret3
    exact ⟨HR.out, bstep HB0.out hb1⟩
  · have HR := Hid.in_ (ret3_fat HV.out)
    rw [h1] at HC
    rw [h3] at HM
    go_enter Tryd.func7, Tryd.ntmps7
    go_wp2_with (first | (go_at_call 20; refine (bool_is (impl_isFormat _ _) (by assumption)).mono ?_; rintro e w' ⟨rfl, rfl⟩) | (go_at_call 19; refine (HC.out _).mono ?_; rintro e w1 ⟨rfl, hb1⟩; have hX1 := Box.step hb1 hB.out; obtain ⟨c0, c1, c2⟩ := box3 hX1) | (go_at_call 21; refine (HM.out _).mono ?_; rintro e w2 ⟨rfl, hb2⟩; have hX2 := Box.step (bstep (balloc (Below.refl _ _) _) hb2) hX1; obtain ⟨d0, d1, d2⟩ := box3 hX2))
    go_ret3
    exact ⟨HR.out, bstep (balloc (bstep HB0.out hb1) _) hb2⟩
  · have HR := Hid.in_ (ret3_fat HV.out)
    have HF := Hid.in_ (fun w => impl_fieldAt_out f m.k m.a s m.b n w h4)
    rw [h1] at HC
    rw [h3] at HM
    go_enter Tryd.func7, Tryd.ntmps7
    go_wp2_with (first | (go_at_call 20; refine (bool_is (impl_isFormat _ _) (by assumption)).mono ?_; rintro e w' ⟨rfl, rfl⟩) | (go_at_call 19; refine (HC.out _).mono ?_; rintro e w1 ⟨rfl, hb1⟩; have hX1 := Box.step hb1 hB.out; obtain ⟨c0, c1, c2⟩ := box3 hX1) | (go_at_call 21; refine (HM.out _).mono ?_; rintro e w2 ⟨rfl, hb2⟩; have hX2 := Box.step (bstep (balloc (Below.refl _ _) _) hb2) hX1; obtain ⟨d0, d1, d2⟩ := box3 hX2) | (go_at_call 22; refine (HF.out _).mono ?_; rintro e w3 ⟨rfl, hb3⟩))
    go_ret3
    exact ⟨HR.out, bstep (bstep (balloc (bstep HB0.out hb1) _) hb2) hb3⟩
  · have HR := Hid.in_ (ret3_fat HV.out)
    have HF := Hid.in_ (fun w => impl_fieldAt_no f m.k m.a s b j w hj hs hl)
    rw [h1] at HC
    rw [h3] at HM
    generalize m.b = mb at *
    subst hmb
    clear hl
    go_enter Tryd.func7, Tryd.ntmps7
    go_wp2_with (first | (go_at_call 20; refine (bool_is (impl_isFormat _ _) (by assumption)).mono ?_; rintro e w' ⟨rfl, rfl⟩) | (go_at_call 19; refine (HC.out _).mono ?_; rintro e w1 ⟨rfl, hb1⟩; have hX1 := Box.step hb1 hB.out; obtain ⟨c0, c1, c2⟩ := box3 hX1) | (go_at_call 21; refine (HM.out _).mono ?_; rintro e w2 ⟨rfl, hb2⟩; have hX2 := Box.step (bstep (balloc (Below.refl _ _) _) hb2) hX1; obtain ⟨d0, d1, d2⟩ := box3 hX2) | (go_at_call 22; refine (HF.out _).mono ?_; rintro e w3 ⟨rfl, hb3⟩))
    go_ret3
    exact ⟨HR.out, bstep (bstep (balloc (bstep HB0.out hb1) _) hb2) hb3⟩
  · have HR := Hid.in_ (ret3_fat HV.out)
    have HF := Hid.in_ (fun w hT => impl_fieldAt f m.k m.a s b j w hT h2 hmk h1 hbs hj hl)
    rw [h1] at HC
    rw [h3] at HM
    generalize m.b = mb at *
    subst hmb
    clear hl
    go_enter Tryd.func7, Tryd.ntmps7
    go_wp2_with (first | (go_at_call 20; refine (bool_is (impl_isFormat _ _) (by assumption)).mono ?_; rintro e w' ⟨rfl, rfl⟩) | (go_at_call 19; refine (HC.out _).mono ?_; rintro e w1 ⟨rfl, hb1⟩; have hX1 := Box.step hb1 hB.out; obtain ⟨c0, c1, c2⟩ := box3 hX1) | (go_at_call 21; refine (HM.out _).mono ?_; rintro e w2 ⟨rfl, hb2⟩; have hX2 := Box.step (bstep (balloc (Below.refl _ _) _) hb2) hX1; obtain ⟨d0, d1, d2⟩ := box3 hX2) | (go_at_call 22; refine (HF.out _ (Tab.step (bstep hb1 (bstep (balloc (Below.refl _ _) _) hb2)) HT.out)).mono ?_; rintro e w3 ⟨rfl, hb3⟩))
    go_ret3
    exact ⟨HR.out, bstep (bstep (balloc (bstep HB0.out hb1) _) hb2) hb3⟩
end Go.Proofs.YtnipneeolkkleabDoor
