/- 'readSector' of the program, 'l09Sector' of the reference: what they return. -/
import Derived.Test.YtlelgpknkgjaeaaGreatDoorFldI
import Derived.Test.YtlelgpknkgjaeaaGreatDoorWr
import Derived.Test.YtlelgpknkgjaeaaGreatDoorAsk
import Derived.Test.YtlelgpknkgjaeaaGreatDoorFound
import Derived.Laws.ResultCell
import Derived.BigRegion
import Derived.Deep.RegionHeld3
namespace Go.Proofs.YtlelgpknkgjaeaaGreatDoor
open Go.ChangeShapes Go.WideShapes Go.ChangeAt Go.RowKit
set_option linter.unusedSimpArgs false
set_option linter.unusedVariables false
set_option maxRecDepth 4000

theorem ret_fnd {r : FndR} {c h n s : Int} {d : ByteArray} {t : Int} {x : Bool} {p : Int} (e : r = ⟨c, h, n, s, d, t, x, p⟩) : Ending.returned (.agg r.cells.toArray) = .returned (.agg #[.int .i64 c, .int .i64 h, .int .i64 n, .int .i64 s, .string d, .int .i64 t, .bool x, .int .i64 p]) := by rw [e]; rfl
theorem mark_kind {l : List MarkR} {t : Int} (h : validMarks l t = true) {k : Nat} {m : MarkR} (hm : l[k]? = some m) : inB m.k 1 3 = true := by
  unfold validMarks at h
  simp only [Bool.and_eq_true] at h
  have hk := allTo_at h.2.2 k (List.getElem?_eq_some_iff.1 hm).1
  unfold markOk at hk
  rw [hm] at hk
  simp only [Bool.and_eq_true] at hk
  exact hk.1.1.1
theorem Wr.put4 {w : World} {b : Nat} {a0 a1 a2 a3 a4 a5 a6 a7 : Value} (h : Wr w b [a0, a1, a2, a3, a4, a5, a6, a7]) (x0 x1 x2 x3 : Value) :
    Wr ((((w.setCell ⟨b, 0, none⟩ x0).setCell ⟨b, 1, none⟩ x1).setCell ⟨b, 2, none⟩ x2).setCell ⟨b, 3, none⟩ x3).drew b [x0, x1, x2, x3, a4, a5, a6, a7] :=
  ((((h.set x0 (i := 0) (by simp)).set x1 (i := 1) (by simp)).set x2 (i := 2) (by simp)).set x3 (i := 3) (by simp)).drew
theorem Wr.far4 {w : World} {b c : Nat} {cs : List Value} (h : Wr w b cs) (hc : c ≠ b) (x0 x1 x2 x3 : Value) :
    Wr ((((w.setCell ⟨c, 0, none⟩ x0).setCell ⟨c, 1, none⟩ x1).setCell ⟨c, 2, none⟩ x2).setCell ⟨c, 3, none⟩ x3).drew b cs := ((((h.far hc 0 x0).far hc 1 x1).far hc 2 x2).far hc 3 x3).drew
theorem below_put4 {W w : World} {B b : Nat} (h : Below B W w) (hb : B ≤ b) (x0 x1 x2 x3 : Value) :
    Below B W ((((w.setCell ⟨b, 0, none⟩ x0).setCell ⟨b, 1, none⟩ x1).setCell ⟨b, 2, none⟩ x2).setCell ⟨b, 3, none⟩ x3).drew :=
  ((((h.setCell (p := ⟨b, 0, none⟩) hb _).setCell (p := ⟨b, 1, none⟩) hb _).setCell (p := ⟨b, 2, none⟩) hb _).setCell (p := ⟨b, 3, none⟩) hb _).drew
/-! ### what is read -/
def rsC (f : Int) (s : ByteArray) (m : MarkR) (i : Nat) : Int := ((byteAt (fldD f s m.b.toNat 4) i).toNat : Int)
def rsSz (z : Int) : Nat := if z = 0 then 8 else if z = 1 then 16 else 32
def rsId (f : Int) (s : ByteArray) (m : MarkR) (t : Int) : FndR := ⟨rsC f s m 0, rsC f s m 1, rsC f s m 2, rsC f s m 3, ⟨#[]⟩, t, false, m.a⟩
def rsF (f : Int) (s : ByteArray) (l : List MarkR) (k : Nat) : FndR :=
  match l[k]?, l[dmNext l k]? with
  | some m, some q =>
    if (4 + 2) * bcN f ≤ s.size then
      if (fldG f m.k s m.b.toNat 4 && decide (rsC f s m 3 ≤ 2)) = true then
        if dmNo l s.size k = true then rsId f s m 4
        else if (rsSz (rsC f s m 3) + 2) * bcN f ≤ s.size then
          ⟨rsC f s m 0, rsC f s m 1, rsC f s m 2, rsC f s m 3, fldD f s q.b.toNat (rsSz (rsC f s m 3)), if fldG f q.k s q.b.toNat (rsSz (rsC f s m 3)) = true then 1 else 3, q.k == 3, m.a⟩
        else rsId f s m 4
      else rsId f s m 2
    else ⟨0, 0, 0, 0, ⟨#[]⟩, 2, false, m.a⟩
  | _, _ => ⟨0, 0, 0, 0, ⟨#[]⟩, 2, false, 0⟩
/-- The four bytes of an id field. -/
structure Four (D : ByteArray) (c h n z : UInt8) : Prop where
  size : D.size = 4
  c : ∀ (p : 0 < D.size), D[0] = c
  h : ∀ (p : 1 < D.size), D[1] = h
  n : ∀ (p : 2 < D.size), D[2] = n
  z : ∀ (p : 3 < D.size), D[3] = z
theorem rs_cases (f : Int) (s : ByteArray) (l : List MarkR) (k : Nat) {m q : MarkR} {mb qb : Nat} (hm : l[k]? = some m) (hq : l[dmNext l k]? = some q) (hmb : m.b = mb) (hqb : q.b = qb) :
    (¬ (4 + 2) * bcN f ≤ s.size ∧ Hid (rsF f s l k = ⟨0, 0, 0, 0, ⟨#[]⟩, 2, false, m.a⟩)) ∨
    ((4 + 2) * bcN f ≤ s.size ∧ ∃ (c h n z : UInt8), Hid (Four (fldD f s mb 4) c h n z) ∧
      ((fldG f m.k s mb 4 = false ∧ Hid (rsF f s l k = ⟨c.toNat, h.toNat, n.toNat, z.toNat, ⟨#[]⟩, 2, false, m.a⟩)) ∨
       (fldG f m.k s mb 4 = true ∧ 2 < z.toNat ∧ Hid (rsF f s l k = ⟨c.toNat, h.toNat, n.toNat, z.toNat, ⟨#[]⟩, 2, false, m.a⟩)) ∨
       (fldG f m.k s mb 4 = true ∧ z.toNat ≤ 2 ∧ dmNo l s.size k = true ∧ Hid (rsF f s l k = ⟨c.toNat, h.toNat, n.toNat, z.toNat, ⟨#[]⟩, 4, false, m.a⟩)) ∨
       (fldG f m.k s mb 4 = true ∧ z.toNat ≤ 2 ∧ dmNo l s.size k = false ∧ ¬ (rsSz z.toNat + 2) * bcN f ≤ s.size ∧ Hid (rsF f s l k = ⟨c.toNat, h.toNat, n.toNat, z.toNat, ⟨#[]⟩, 4, false, m.a⟩)) ∨
       (fldG f m.k s mb 4 = true ∧ z.toNat ≤ 2 ∧ dmNo l s.size k = false ∧ (rsSz z.toNat + 2) * bcN f ≤ s.size ∧
          Hid (rsF f s l k = ⟨c.toNat, h.toNat, n.toNat, z.toNat, fldD f s qb (rsSz z.toNat), if fldG f q.k s qb (rsSz z.toNat) = true then 1 else 3, q.k == 3, m.a⟩)))) := by
  have hv : ∃ R, rsF f s l k = R := ⟨_, rfl⟩
  obtain ⟨R, hR⟩ := hv
  have hv := hR
  unfold rsF at hv
  rw [hm, hq] at hv
  have e1 : m.b.toNat = mb := by rw [hmb]; rfl
  have e2 : q.b.toNat = qb := by rw [hqb]; rfl
  simp only at hv
  rw [e1, e2] at hv
  rw [hR]
  unfold Hid
  by_cases h1 : (4 + 2) * bcN f ≤ s.size
  · rw [if_pos h1] at hv
    have hs : (fldD f s mb 4).size = 4 := by unfold fldD; rw [ByteArray.size_extract, fldS_size]; omega
    have hB : ∀ (i : Nat), rsC f s m i = ((byteAt (fldD f s mb 4) i).toNat : Int) := fun i => by unfold rsC; rw [e1]
    have b0 := hB 0
    have b1 := hB 1
    have b2 := hB 2
    have b3 := hB 3
    have hI : ∀ t, rsId f s m t = ⟨rsC f s m 0, rsC f s m 1, rsC f s m 2, rsC f s m 3, ⟨#[]⟩, t, false, m.a⟩ := fun _ => rfl
    rw [hI, hI] at hv
    refine .inr ⟨h1, byteAt (fldD f s mb 4) 0, byteAt (fldD f s mb 4) 1, byteAt (fldD f s mb 4) 2, byteAt (fldD f s mb 4) 3, ⟨hs, fun p => (byteAt_eq p).symm, fun p => (byteAt_eq p).symm, fun p => (byteAt_eq p).symm, fun p => (byteAt_eq p).symm⟩, ?_⟩
    rw [b0, b1, b2, b3] at hv
    generalize (byteAt (fldD f s mb 4) 0) = c at *
    generalize (byteAt (fldD f s mb 4) 1) = h at *
    generalize (byteAt (fldD f s mb 4) 2) = n at *
    generalize (byteAt (fldD f s mb 4) 3) = z at *
    cases h2 : fldG f m.k s mb 4
    · rw [h2, Bool.false_and, if_neg (by decide)] at hv
      exact .inl ⟨rfl, hv.symm⟩
    rw [h2, Bool.true_and] at hv
    by_cases h3 : (z.toNat : Int) ≤ 2
    · rw [if_pos (decide_eq_true h3)] at hv
      have h3' : z.toNat ≤ 2 := by omega
      cases h4 : dmNo l s.size k
      · rw [h4, if_neg (by decide)] at hv
        by_cases h5 : (rsSz (z.toNat : Int) + 2) * bcN f ≤ s.size
        · rw [if_pos h5] at hv
          exact .inr (.inr (.inr (.inr ⟨rfl, h3', rfl, h5, hv.symm⟩)))
        · rw [if_neg h5] at hv
          exact .inr (.inr (.inr (.inl ⟨rfl, h3', rfl, h5, hv.symm⟩)))
      · rw [h4, if_pos rfl] at hv
        exact .inr (.inr (.inl ⟨rfl, h3', rfl, hv.symm⟩))
    · rw [if_neg (by rw [decide_eq_true_eq]; exact h3)] at hv
      exact .inr (.inl ⟨rfl, by omega, hv.symm⟩)
  · rw [if_neg h1] at hv
    exact .inl ⟨h1, hv.symm⟩
theorem rsSz_is {z : Nat} (h : z ≤ 2) : (z = 0 ∧ rsSz z = 8) ∨ (z = 1 ∧ rsSz z = 16) ∨ (z = 2 ∧ rsSz z = 32) := by
  obtain rfl | rfl | rfl : z = 0 ∨ z = 1 ∨ z = 2 := by omega
  · exact .inl ⟨rfl, rfl⟩
  · exact .inr (.inl ⟨rfl, rfl⟩)
  · exact .inr (.inr ⟨rfl, rfl⟩)
theorem u8_i64 (c : UInt8) : IntKind.i64.wrap (c.toNat : Int) = (c.toNat : Int) := IntWalk.i64_in _ (by have := c.toNat_lt; omega)
set_option maxHeartbeats 4000000 in
theorem impl_readSector {v : Value} {n b : Nat} {l : List MarkR} (s : ByteArray) (f : Int) (k : Nat) (w : World) (hT : Tab w) (h : w.ownsRow b 51 3 v n (l.flatMap MarkR.cells)) (hf : inB f 1 3 = true) (hv : validCells s = true) (hM : validMarks l s.size = true) (hk : k < l.length) (hn2 : n ≤ 1048576) :
    Calls Tryz.prog 41 #[.string s, .int .i64 f, v, .int .i64 k] w fun e w' => e = .returned (.agg (rsF f s l k).cells.toArray) ∧ Below w.heap.size w w' := by
  have hlx : l.length = n := by have := h.1; rw [flat_len MarkR.len] at this; omega
  have HO := Hid.in_ h
  obtain ⟨A, c9, rfl, _, hn, hA⟩ := own_shape h
  have hx1 : dmNext l k < l.length := Nat.mod_lt _ (by omega)
  obtain ⟨q, hq⟩ := get_lt l _ hx1
  obtain ⟨m, hm⟩ := get_lt l k hk
  have q1 := mark_in hM hq
  have m1 := mark_in hM hm
  obtain ⟨v0, v8, _⟩ := valid_size hv
  obtain ⟨mb, hmb⟩ := Int.eq_ofNat_of_zero_le m1.2.2.1
  obtain ⟨qb, hqb⟩ := Int.eq_ofNat_of_zero_le q1.2.2.1
  have hcs := rs_cases f s l k hm hq hmb hqb
  have HMB := Hid.in_ hmb
  have HQB := Hid.in_ hqb
  clear hmb hqb
  rw [hlx] at hx1 hk
  obtain ⟨g, rfl, _, hg, hx, _⟩ := hA (by omega)
  have HXm := Hid.in_ (Box.elem MarkR.len hx hm)
  have HXq := Hid.in_ (Box.elem MarkR.len hx hq)
  obtain ⟨c0, c1, c2⟩ := box3' HXm.out
  clear hA hx h
  have hW := wr_two w 63 [.int .i64 0, .int .i64 0, .int .i64 0, .int .i64 0, .string ⟨#[]⟩, .int .i64 0, .bool false, .int .i64 0] [.int .i64 0, .int .i64 0, .int .i64 0, .int .i64 0, .string ⟨#[]⟩, .int .i64 2, .bool false, .int .i64 m.a]
  have HW8 := Hid.in_ hW.1
  have HW9 := Hid.in_ hW.2.1
  have HB0 := Hid.in_ hW.2.2
  clear hW
  obtain ⟨h1, HV⟩ | ⟨h1, c, h, nn, z, H4, hrest⟩ := hcs
  · have HF := Hid.in_ (fun w => impl_fieldAt_no f m.k m.a s m.b 4 w (by omega) (by omega) h1)
    go_enter Tryz.func41, Tryz.ntmps41
    go_wp2_with fail
    refine (HF.out _).mono ?_
    rintro e w2 ⟨rfl, hb2⟩
    obtain ⟨⟨x0, x1, x2, x3, x4, x5, x6, x7⟩, ⟨s0, s1, s2, s3, s4, s5, s6, s7⟩⟩ := wr8 (Wr.step hb2 HW9.out)
    obtain ⟨⟨y0, y1, y2, y3, y4, y5, y6, y7⟩, ⟨t0, t1, t2, t3, t4, t5, t6, t7⟩⟩ := wr8 (Wr.step hb2 HW8.out)
    obtain ⟨⟨d0, d1, d2, d3, d4, d5, d6, d7⟩, _⟩ := wr8 (Wr.put8 (Wr.step hb2 HW8.out) (.int .i64 0) (.int .i64 0) (.int .i64 0) (.int .i64 0) (.string ⟨#[]⟩) (.int .i64 2) (.bool false) (.int .i64 m.a))
    have HB2 := Hid.in_ (bstep HB0.out hb2)
    clear hb2
    go_wp2
    refine bodyPost_ret ?_ rfl ⟨(ret_fnd HV.out).symm, below_put8 HB2.out (Nat.le_refl _) _ _ _ _ _ _ _ _⟩
    simp [results, Tryz.results41, go_sem, d0, d1, d2, d3, d4, d5, d6, d7]
  · have hmb := HMB.out
    clear HMB
    have hbs : mb < s.size := by omega
    have HF := Hid.in_ (fun w hT => impl_fieldAt f m.k m.a s mb 4 w hT hf (mark_kind hM hm) hv hbs (by omega) h1)
    have HT0 := Hid.in_ (Tab.step HB0.out hT)
    have HDMA := Hid.in_ (fun w h => impl_dataMark (v := .slice (some ⟨g, 0, none⟩) n c9) (n := n) (b := b) s k w h hM (by omega) (by omega) (by omega) hn2)
    generalize m.b = mbi at *
    subst hmb
    have HXq := Hid.in_ (show BoxAt w g (dmNext l k * 3) [.int .i64 q.k, .int .i64 q.a, .int .i64 q.b] from HXq.out)
    have hqb := HQB.out
    clear HQB
    have hbs2 : qb < s.size := by omega
    have hkq := mark_kind hM hq
    have HT := Hid.in_ hT
    generalize q.b = qbi at *
    subst hqb
    have hx2 : (0 : Int) ≤ ((dmNext l k : Nat) : Int) := by omega
    have hx3 : ((dmNext l k : Nat) : Int) < (n : Int) := by omega
    clear hM h1 hT hlx q1 m1 hn2 hn
    have HV0 := Hid.in_ hv
    clear hv
    generalize fldD f s mb 4 = D at *
    generalize fldG f m.k s mb 4 = G at *
    obtain ⟨h2, HV⟩ | ⟨h2, h3, HV⟩ | ⟨h2, h3, h5, HV⟩ | ⟨h2, h3, h5, h6, HV⟩ | ⟨h2, h3, h5, h6, HV⟩ := hrest
    · subst h2
      obtain ⟨h4, f0, f1, f2, f3⟩ := H4.out
      have i0 : 0 < D.size := by omega
      have i1 : 1 < D.size := by omega
      have i2 : 2 < D.size := by omega
      have i3 : 3 < D.size := by omega
      have f0 := f0 i0
      have f1 := f1 i1
      have f2 := f2 i2
      have f3 := f3 i3
      clear h4
      go_enter Tryz.func41, Tryz.ntmps41
      go_wp2_with fail
      refine (HF.out _ HT0.out).mono ?_
      rintro e w2 ⟨rfl, hb2⟩
      obtain ⟨⟨x0, x1, x2, x3, x4, x5, x6, x7⟩, ⟨s0, s1, s2, s3, s4, s5, s6, s7⟩⟩ := wr8 (Wr.step hb2 HW9.out)
      have HX9 := Hid.in_ (Wr.step hb2 HW9.out)
      have HX8 := Hid.in_ (Wr.step hb2 HW8.out)
      have HB2 := Hid.in_ (bstep HB0.out hb2)
      go_upto_region 5 with fail
      clear HF HW8 HW9 hb2 c0 c1 c2 x4 x5 x6 x7 s4 s5 s6 s7
      refine wp_region_noPanic ?_
      refine wp_region_held_drew (S := fun _ => True) (by kernel_rfl) True.intro (fun hHeld => ?_)
      refine wpAnyH_take (i := 0) (v := .string D) rfl (by kernel_rfl) (by kernel_rfl) (by kernel_rfl) (fun _ _ _ h => h) (Or.inl ⟨by rfl, ?_⟩) hHeld ?_
      · intro w9 hS9; go_simp; all_goals first | exact u8_i64 _ | (intro h9; omega)
      simp only [Act.put, List.setIfInBounds_toArray, List.set_cons_zero, List.set_cons_succ]
      refine wpAnyH_take (i := 1) (v := .int .u8 (c.toNat : Int)) rfl (by kernel_rfl) (by kernel_rfl) (by kernel_rfl) (fun _ _ _ h => h) (Or.inl ⟨by rfl, ?_⟩) hHeld ?_
      · intro w9 hS9; go_simp; all_goals first | exact u8_i64 _ | (intro h9; omega)
      simp only [Act.put, List.setIfInBounds_toArray, List.set_cons_zero, List.set_cons_succ]
      refine wpAnyH_take (i := 2) (v := .int .i64 (c.toNat : Int)) rfl (by kernel_rfl) (by kernel_rfl) (by kernel_rfl) (fun _ _ _ h => h) (Or.inl ⟨by rfl, ?_⟩) hHeld ?_
      · intro w9 hS9; go_simp; all_goals first | exact u8_i64 _ | (intro h9; omega)
      simp only [Act.put, List.setIfInBounds_toArray, List.set_cons_zero, List.set_cons_succ]
      refine wpAnyH_take (i := 3) (v := .string D) rfl (by kernel_rfl) (by kernel_rfl) (by kernel_rfl) (fun _ _ _ h => h) (Or.inl ⟨by rfl, ?_⟩) hHeld ?_
      · intro w9 hS9; go_simp; all_goals first | exact u8_i64 _ | (intro h9; omega)
      simp only [Act.put, List.setIfInBounds_toArray, List.set_cons_zero, List.set_cons_succ]
      refine wpAnyH_take (i := 4) (v := .int .u8 (h.toNat : Int)) rfl (by kernel_rfl) (by kernel_rfl) (by kernel_rfl) (fun _ _ _ h => h) (Or.inl ⟨by rfl, ?_⟩) hHeld ?_
      · intro w9 hS9; go_simp; all_goals first | exact u8_i64 _ | (intro h9; omega)
      simp only [Act.put, List.setIfInBounds_toArray, List.set_cons_zero, List.set_cons_succ]
      refine wpAnyH_take (i := 5) (v := .int .i64 (h.toNat : Int)) rfl (by kernel_rfl) (by kernel_rfl) (by kernel_rfl) (fun _ _ _ h => h) (Or.inl ⟨by rfl, ?_⟩) hHeld ?_
      · intro w9 hS9; go_simp; all_goals first | exact u8_i64 _ | (intro h9; omega)
      simp only [Act.put, List.setIfInBounds_toArray, List.set_cons_zero, List.set_cons_succ]
      refine wpAnyH_take (i := 6) (v := .string D) rfl (by kernel_rfl) (by kernel_rfl) (by kernel_rfl) (fun _ _ _ h => h) (Or.inl ⟨by rfl, ?_⟩) hHeld ?_
      · intro w9 hS9; go_simp; all_goals first | exact u8_i64 _ | (intro h9; omega)
      simp only [Act.put, List.setIfInBounds_toArray, List.set_cons_zero, List.set_cons_succ]
      refine wpAnyH_take (i := 7) (v := .int .u8 (nn.toNat : Int)) rfl (by kernel_rfl) (by kernel_rfl) (by kernel_rfl) (fun _ _ _ h => h) (Or.inl ⟨by rfl, ?_⟩) hHeld ?_
      · intro w9 hS9; go_simp; all_goals first | exact u8_i64 _ | (intro h9; omega)
      simp only [Act.put, List.setIfInBounds_toArray, List.set_cons_zero, List.set_cons_succ]
      refine wpAnyH_take (i := 8) (v := .int .i64 (nn.toNat : Int)) rfl (by kernel_rfl) (by kernel_rfl) (by kernel_rfl) (fun _ _ _ h => h) (Or.inl ⟨by rfl, ?_⟩) hHeld ?_
      · intro w9 hS9; go_simp; all_goals first | exact u8_i64 _ | (intro h9; omega)
      simp only [Act.put, List.setIfInBounds_toArray, List.set_cons_zero, List.set_cons_succ]
      refine wpAnyH_take (i := 9) (v := .string D) rfl (by kernel_rfl) (by kernel_rfl) (by kernel_rfl) (fun _ _ _ h => h) (Or.inl ⟨by rfl, ?_⟩) hHeld ?_
      · intro w9 hS9; go_simp; all_goals first | exact u8_i64 _ | (intro h9; omega)
      simp only [Act.put, List.setIfInBounds_toArray, List.set_cons_zero, List.set_cons_succ]
      refine wpAnyH_take (i := 10) (v := .int .u8 (z.toNat : Int)) rfl (by kernel_rfl) (by kernel_rfl) (by kernel_rfl) (fun _ _ _ h => h) (Or.inl ⟨by rfl, ?_⟩) hHeld ?_
      · intro w9 hS9; go_simp; all_goals first | exact u8_i64 _ | (intro h9; omega)
      simp only [Act.put, List.setIfInBounds_toArray, List.set_cons_zero, List.set_cons_succ]
      refine wpAnyH_take (i := 11) (v := .int .i64 (z.toNat : Int)) rfl (by kernel_rfl) (by kernel_rfl) (by kernel_rfl) (fun _ _ _ h => h) (Or.inl ⟨by rfl, ?_⟩) hHeld ?_
      · intro w9 hS9; go_simp; all_goals first | exact u8_i64 _ | (intro h9; omega)
      simp only [Act.put, List.setIfInBounds_toArray, List.set_cons_zero, List.set_cons_succ]
      refine wpAnyH_take (i := 12) (v := .pointer (some ⟨w.heap.size + 1, 0, none⟩)) rfl (by kernel_rfl) (by kernel_rfl) (by kernel_rfl) (fun _ _ _ h => h) (Or.inl ⟨by rfl, ?_⟩) hHeld ?_
      · intro w9 hS9; go_simp; all_goals first | exact u8_i64 _ | (intro h9; omega)
      simp only [Act.put, List.setIfInBounds_toArray, List.set_cons_zero, List.set_cons_succ]
      refine wpAnyH_ready (rs := [13]) (by kernel_rfl) (by simp) (AllReadyH.cons rfl (fun K hK => ?_) AllReadyH.nil)
      go_simp
      refine hK.out _ _ True.intro (fun hHeld => ?_)
      clear hK K
      try simp only [Act.put, List.setIfInBounds_toArray, List.set_cons_zero, List.set_cons_succ]
      refine wpAnyH_take (i := 14) (v := .pointer (some ⟨w.heap.size + 1, 1, none⟩)) rfl (by kernel_rfl) (by kernel_rfl) (by kernel_rfl) (fun _ _ _ h => h) (Or.inl ⟨by rfl, ?_⟩) hHeld ?_
      · intro w9 hS9; go_simp; all_goals first | exact u8_i64 _ | (intro h9; omega)
      simp only [Act.put, List.setIfInBounds_toArray, List.set_cons_zero, List.set_cons_succ]
      refine wpAnyH_ready (rs := [15]) (by kernel_rfl) (by simp) (AllReadyH.cons rfl (fun K hK => ?_) AllReadyH.nil)
      go_simp
      refine hK.out _ _ True.intro (fun hHeld => ?_)
      clear hK K
      try simp only [Act.put, List.setIfInBounds_toArray, List.set_cons_zero, List.set_cons_succ]
      refine wpAnyH_take (i := 16) (v := .pointer (some ⟨w.heap.size + 1, 2, none⟩)) rfl (by kernel_rfl) (by kernel_rfl) (by kernel_rfl) (fun _ _ _ h => h) (Or.inl ⟨by rfl, ?_⟩) hHeld ?_
      · intro w9 hS9; go_simp; all_goals first | exact u8_i64 _ | (intro h9; omega)
      simp only [Act.put, List.setIfInBounds_toArray, List.set_cons_zero, List.set_cons_succ]
      refine wpAnyH_ready (rs := [17]) (by kernel_rfl) (by simp) (AllReadyH.cons rfl (fun K hK => ?_) AllReadyH.nil)
      go_simp
      refine hK.out _ _ True.intro (fun hHeld => ?_)
      clear hK K
      try simp only [Act.put, List.setIfInBounds_toArray, List.set_cons_zero, List.set_cons_succ]
      refine wpAnyH_take (i := 18) (v := .pointer (some ⟨w.heap.size + 1, 3, none⟩)) rfl (by kernel_rfl) (by kernel_rfl) (by kernel_rfl) (fun _ _ _ h => h) (Or.inl ⟨by rfl, ?_⟩) hHeld ?_
      · intro w9 hS9; go_simp; all_goals first | exact u8_i64 _ | (intro h9; omega)
      simp only [Act.put, List.setIfInBounds_toArray, List.set_cons_zero, List.set_cons_succ]
      refine wpAnyH_ready (rs := [19]) (by kernel_rfl) (by simp) (AllReadyH.cons rfl (fun K hK => ?_) AllReadyH.nil)
      go_simp
      refine hK.out _ _ True.intro (fun hHeld => ?_)
      clear hK K
      try simp only [Act.put, List.setIfInBounds_toArray, List.set_cons_zero, List.set_cons_succ]
      refine wpAnyH_done (by kernel_rfl) ?_ _
      refine NoPanic.normal ?_
      have HY9 := Hid.in_ (Wr.put4 HX9.out (.int .i64 (c.toNat : Int)) (.int .i64 (h.toNat : Int)) (.int .i64 (nn.toNat : Int)) (.int .i64 (z.toNat : Int)))
      have HY8 := Hid.in_ (Wr.far4 HX8.out (c := w.heap.size + 1) (by omega) (.int .i64 (c.toNat : Int)) (.int .i64 (h.toNat : Int)) (.int .i64 (nn.toNat : Int)) (.int .i64 (z.toNat : Int)))
      have HB3 := Hid.in_ (below_put4 HB2.out (b := w.heap.size + 1) (by omega) (.int .i64 (c.toNat : Int)) (.int .i64 (h.toNat : Int)) (.int .i64 (nn.toNat : Int)) (.int .i64 (z.toNat : Int)))
      clear x0 x1 x2 x3 s0 s1 s2 s3 HX8 HX9 HB2 f0 f1 f2 f3 i0 i1 i2 i3 hHeld H4
      generalize ((((w2.setCell ⟨w.heap.size + 1, 0, none⟩ (.int .i64 (c.toNat : Int))).setCell ⟨w.heap.size + 1, 1, none⟩ (.int .i64 (h.toNat : Int))).setCell ⟨w.heap.size + 1, 2, none⟩ (.int .i64 (nn.toNat : Int))).setCell ⟨w.heap.size + 1, 3, none⟩ (.int .i64 (z.toNat : Int))).drew = w3 at *
      obtain ⟨⟨x0, x1, x2, x3, x4, x5, x6, x7⟩, ⟨s0, s1, s2, s3, s4, s5, s6, s7⟩⟩ := wr8 HY9.out
      obtain ⟨⟨y0, y1, y2, y3, y4, y5, y6, y7⟩, ⟨t0, t1, t2, t3, t4, t5, t6, t7⟩⟩ := wr8 HY8.out
      obtain ⟨⟨d0, d1, d2, d3, d4, d5, d6, d7⟩, _⟩ := wr8 (Wr.put8 HY8.out (.int .i64 (c.toNat : Int)) (.int .i64 (h.toNat : Int)) (.int .i64 (nn.toNat : Int)) (.int .i64 (z.toNat : Int)) (.string ⟨#[]⟩) (.int .i64 2) (.bool false) (.int .i64 m.a))
      go_wp2
      refine bodyPost_ret ?_ rfl ⟨(ret_fnd HV.out).symm, below_put8 HB3.out (Nat.le_refl _) _ _ _ _ _ _ _ _⟩
      simp [results, Tryz.results41, go_sem, d0, d1, d2, d3, d4, d5, d6, d7]
    · subst h2
      obtain ⟨h4, f0, f1, f2, f3⟩ := H4.out
      have i0 : 0 < D.size := by omega
      have i1 : 1 < D.size := by omega
      have i2 : 2 < D.size := by omega
      have i3 : 3 < D.size := by omega
      have f0 := f0 i0
      have f1 := f1 i1
      have f2 := f2 i2
      have f3 := f3 i3
      clear h4
      go_enter Tryz.func41, Tryz.ntmps41
      go_wp2_with fail
      refine (HF.out _ HT0.out).mono ?_
      rintro e w2 ⟨rfl, hb2⟩
      obtain ⟨⟨x0, x1, x2, x3, x4, x5, x6, x7⟩, ⟨s0, s1, s2, s3, s4, s5, s6, s7⟩⟩ := wr8 (Wr.step hb2 HW9.out)
      have HX9 := Hid.in_ (Wr.step hb2 HW9.out)
      have HX8 := Hid.in_ (Wr.step hb2 HW8.out)
      have HB2 := Hid.in_ (bstep HB0.out hb2)
      go_upto_region 5 with fail
      clear HF HW8 HW9 hb2 c0 c1 c2 x4 x5 x6 x7 s4 s5 s6 s7
      refine wp_region_noPanic ?_
      refine wp_region_held_drew (S := fun _ => True) (by kernel_rfl) True.intro (fun hHeld => ?_)
      refine wpAnyH_take (i := 0) (v := .string D) rfl (by kernel_rfl) (by kernel_rfl) (by kernel_rfl) (fun _ _ _ h => h) (Or.inl ⟨by rfl, ?_⟩) hHeld ?_
      · intro w9 hS9; go_simp; all_goals first | exact u8_i64 _ | (intro h9; omega)
      simp only [Act.put, List.setIfInBounds_toArray, List.set_cons_zero, List.set_cons_succ]
      refine wpAnyH_take (i := 1) (v := .int .u8 (c.toNat : Int)) rfl (by kernel_rfl) (by kernel_rfl) (by kernel_rfl) (fun _ _ _ h => h) (Or.inl ⟨by rfl, ?_⟩) hHeld ?_
      · intro w9 hS9; go_simp; all_goals first | exact u8_i64 _ | (intro h9; omega)
      simp only [Act.put, List.setIfInBounds_toArray, List.set_cons_zero, List.set_cons_succ]
      refine wpAnyH_take (i := 2) (v := .int .i64 (c.toNat : Int)) rfl (by kernel_rfl) (by kernel_rfl) (by kernel_rfl) (fun _ _ _ h => h) (Or.inl ⟨by rfl, ?_⟩) hHeld ?_
      · intro w9 hS9; go_simp; all_goals first | exact u8_i64 _ | (intro h9; omega)
      simp only [Act.put, List.setIfInBounds_toArray, List.set_cons_zero, List.set_cons_succ]
      refine wpAnyH_take (i := 3) (v := .string D) rfl (by kernel_rfl) (by kernel_rfl) (by kernel_rfl) (fun _ _ _ h => h) (Or.inl ⟨by rfl, ?_⟩) hHeld ?_
      · intro w9 hS9; go_simp; all_goals first | exact u8_i64 _ | (intro h9; omega)
      simp only [Act.put, List.setIfInBounds_toArray, List.set_cons_zero, List.set_cons_succ]
      refine wpAnyH_take (i := 4) (v := .int .u8 (h.toNat : Int)) rfl (by kernel_rfl) (by kernel_rfl) (by kernel_rfl) (fun _ _ _ h => h) (Or.inl ⟨by rfl, ?_⟩) hHeld ?_
      · intro w9 hS9; go_simp; all_goals first | exact u8_i64 _ | (intro h9; omega)
      simp only [Act.put, List.setIfInBounds_toArray, List.set_cons_zero, List.set_cons_succ]
      refine wpAnyH_take (i := 5) (v := .int .i64 (h.toNat : Int)) rfl (by kernel_rfl) (by kernel_rfl) (by kernel_rfl) (fun _ _ _ h => h) (Or.inl ⟨by rfl, ?_⟩) hHeld ?_
      · intro w9 hS9; go_simp; all_goals first | exact u8_i64 _ | (intro h9; omega)
      simp only [Act.put, List.setIfInBounds_toArray, List.set_cons_zero, List.set_cons_succ]
      refine wpAnyH_take (i := 6) (v := .string D) rfl (by kernel_rfl) (by kernel_rfl) (by kernel_rfl) (fun _ _ _ h => h) (Or.inl ⟨by rfl, ?_⟩) hHeld ?_
      · intro w9 hS9; go_simp; all_goals first | exact u8_i64 _ | (intro h9; omega)
      simp only [Act.put, List.setIfInBounds_toArray, List.set_cons_zero, List.set_cons_succ]
      refine wpAnyH_take (i := 7) (v := .int .u8 (nn.toNat : Int)) rfl (by kernel_rfl) (by kernel_rfl) (by kernel_rfl) (fun _ _ _ h => h) (Or.inl ⟨by rfl, ?_⟩) hHeld ?_
      · intro w9 hS9; go_simp; all_goals first | exact u8_i64 _ | (intro h9; omega)
      simp only [Act.put, List.setIfInBounds_toArray, List.set_cons_zero, List.set_cons_succ]
      refine wpAnyH_take (i := 8) (v := .int .i64 (nn.toNat : Int)) rfl (by kernel_rfl) (by kernel_rfl) (by kernel_rfl) (fun _ _ _ h => h) (Or.inl ⟨by rfl, ?_⟩) hHeld ?_
      · intro w9 hS9; go_simp; all_goals first | exact u8_i64 _ | (intro h9; omega)
      simp only [Act.put, List.setIfInBounds_toArray, List.set_cons_zero, List.set_cons_succ]
      refine wpAnyH_take (i := 9) (v := .string D) rfl (by kernel_rfl) (by kernel_rfl) (by kernel_rfl) (fun _ _ _ h => h) (Or.inl ⟨by rfl, ?_⟩) hHeld ?_
      · intro w9 hS9; go_simp; all_goals first | exact u8_i64 _ | (intro h9; omega)
      simp only [Act.put, List.setIfInBounds_toArray, List.set_cons_zero, List.set_cons_succ]
      refine wpAnyH_take (i := 10) (v := .int .u8 (z.toNat : Int)) rfl (by kernel_rfl) (by kernel_rfl) (by kernel_rfl) (fun _ _ _ h => h) (Or.inl ⟨by rfl, ?_⟩) hHeld ?_
      · intro w9 hS9; go_simp; all_goals first | exact u8_i64 _ | (intro h9; omega)
      simp only [Act.put, List.setIfInBounds_toArray, List.set_cons_zero, List.set_cons_succ]
      refine wpAnyH_take (i := 11) (v := .int .i64 (z.toNat : Int)) rfl (by kernel_rfl) (by kernel_rfl) (by kernel_rfl) (fun _ _ _ h => h) (Or.inl ⟨by rfl, ?_⟩) hHeld ?_
      · intro w9 hS9; go_simp; all_goals first | exact u8_i64 _ | (intro h9; omega)
      simp only [Act.put, List.setIfInBounds_toArray, List.set_cons_zero, List.set_cons_succ]
      refine wpAnyH_take (i := 12) (v := .pointer (some ⟨w.heap.size + 1, 0, none⟩)) rfl (by kernel_rfl) (by kernel_rfl) (by kernel_rfl) (fun _ _ _ h => h) (Or.inl ⟨by rfl, ?_⟩) hHeld ?_
      · intro w9 hS9; go_simp; all_goals first | exact u8_i64 _ | (intro h9; omega)
      simp only [Act.put, List.setIfInBounds_toArray, List.set_cons_zero, List.set_cons_succ]
      refine wpAnyH_ready (rs := [13]) (by kernel_rfl) (by simp) (AllReadyH.cons rfl (fun K hK => ?_) AllReadyH.nil)
      go_simp
      refine hK.out _ _ True.intro (fun hHeld => ?_)
      clear hK K
      try simp only [Act.put, List.setIfInBounds_toArray, List.set_cons_zero, List.set_cons_succ]
      refine wpAnyH_take (i := 14) (v := .pointer (some ⟨w.heap.size + 1, 1, none⟩)) rfl (by kernel_rfl) (by kernel_rfl) (by kernel_rfl) (fun _ _ _ h => h) (Or.inl ⟨by rfl, ?_⟩) hHeld ?_
      · intro w9 hS9; go_simp; all_goals first | exact u8_i64 _ | (intro h9; omega)
      simp only [Act.put, List.setIfInBounds_toArray, List.set_cons_zero, List.set_cons_succ]
      refine wpAnyH_ready (rs := [15]) (by kernel_rfl) (by simp) (AllReadyH.cons rfl (fun K hK => ?_) AllReadyH.nil)
      go_simp
      refine hK.out _ _ True.intro (fun hHeld => ?_)
      clear hK K
      try simp only [Act.put, List.setIfInBounds_toArray, List.set_cons_zero, List.set_cons_succ]
      refine wpAnyH_take (i := 16) (v := .pointer (some ⟨w.heap.size + 1, 2, none⟩)) rfl (by kernel_rfl) (by kernel_rfl) (by kernel_rfl) (fun _ _ _ h => h) (Or.inl ⟨by rfl, ?_⟩) hHeld ?_
      · intro w9 hS9; go_simp; all_goals first | exact u8_i64 _ | (intro h9; omega)
      simp only [Act.put, List.setIfInBounds_toArray, List.set_cons_zero, List.set_cons_succ]
      refine wpAnyH_ready (rs := [17]) (by kernel_rfl) (by simp) (AllReadyH.cons rfl (fun K hK => ?_) AllReadyH.nil)
      go_simp
      refine hK.out _ _ True.intro (fun hHeld => ?_)
      clear hK K
      try simp only [Act.put, List.setIfInBounds_toArray, List.set_cons_zero, List.set_cons_succ]
      refine wpAnyH_take (i := 18) (v := .pointer (some ⟨w.heap.size + 1, 3, none⟩)) rfl (by kernel_rfl) (by kernel_rfl) (by kernel_rfl) (fun _ _ _ h => h) (Or.inl ⟨by rfl, ?_⟩) hHeld ?_
      · intro w9 hS9; go_simp; all_goals first | exact u8_i64 _ | (intro h9; omega)
      simp only [Act.put, List.setIfInBounds_toArray, List.set_cons_zero, List.set_cons_succ]
      refine wpAnyH_ready (rs := [19]) (by kernel_rfl) (by simp) (AllReadyH.cons rfl (fun K hK => ?_) AllReadyH.nil)
      go_simp
      refine hK.out _ _ True.intro (fun hHeld => ?_)
      clear hK K
      try simp only [Act.put, List.setIfInBounds_toArray, List.set_cons_zero, List.set_cons_succ]
      refine wpAnyH_done (by kernel_rfl) ?_ _
      refine NoPanic.normal ?_
      have HY9 := Hid.in_ (Wr.put4 HX9.out (.int .i64 (c.toNat : Int)) (.int .i64 (h.toNat : Int)) (.int .i64 (nn.toNat : Int)) (.int .i64 (z.toNat : Int)))
      have HY8 := Hid.in_ (Wr.far4 HX8.out (c := w.heap.size + 1) (by omega) (.int .i64 (c.toNat : Int)) (.int .i64 (h.toNat : Int)) (.int .i64 (nn.toNat : Int)) (.int .i64 (z.toNat : Int)))
      have HB3 := Hid.in_ (below_put4 HB2.out (b := w.heap.size + 1) (by omega) (.int .i64 (c.toNat : Int)) (.int .i64 (h.toNat : Int)) (.int .i64 (nn.toNat : Int)) (.int .i64 (z.toNat : Int)))
      clear x0 x1 x2 x3 s0 s1 s2 s3 HX8 HX9 HB2 f0 f1 f2 f3 i0 i1 i2 i3 hHeld H4
      generalize ((((w2.setCell ⟨w.heap.size + 1, 0, none⟩ (.int .i64 (c.toNat : Int))).setCell ⟨w.heap.size + 1, 1, none⟩ (.int .i64 (h.toNat : Int))).setCell ⟨w.heap.size + 1, 2, none⟩ (.int .i64 (nn.toNat : Int))).setCell ⟨w.heap.size + 1, 3, none⟩ (.int .i64 (z.toNat : Int))).drew = w3 at *
      obtain ⟨⟨x0, x1, x2, x3, x4, x5, x6, x7⟩, ⟨s0, s1, s2, s3, s4, s5, s6, s7⟩⟩ := wr8 HY9.out
      have h3' : (2 : Int) < (z.toNat : Int) := by omega
      obtain ⟨⟨y0, y1, y2, y3, y4, y5, y6, y7⟩, ⟨t0, t1, t2, t3, t4, t5, t6, t7⟩⟩ := wr8 HY8.out
      obtain ⟨⟨d0, d1, d2, d3, d4, d5, d6, d7⟩, _⟩ := wr8 (Wr.put8 HY8.out (.int .i64 (c.toNat : Int)) (.int .i64 (h.toNat : Int)) (.int .i64 (nn.toNat : Int)) (.int .i64 (z.toNat : Int)) (.string ⟨#[]⟩) (.int .i64 2) (.bool false) (.int .i64 m.a))
      go_wp2
      refine bodyPost_ret ?_ rfl ⟨(ret_fnd HV.out).symm, below_put8 HB3.out (Nat.le_refl _) _ _ _ _ _ _ _ _⟩
      simp [results, Tryz.results41, go_sem, d0, d1, d2, d3, d4, d5, d6, d7]
    · subst h2
      obtain ⟨h4, f0, f1, f2, f3⟩ := H4.out
      have i0 : 0 < D.size := by omega
      have i1 : 1 < D.size := by omega
      have i2 : 2 < D.size := by omega
      have i3 : 3 < D.size := by omega
      have f0 := f0 i0
      have f1 := f1 i1
      have f2 := f2 i2
      have f3 := f3 i3
      clear h4
      go_enter Tryz.func41, Tryz.ntmps41
      go_wp2_with fail
      refine (HF.out _ HT0.out).mono ?_
      rintro e w2 ⟨rfl, hb2⟩
      obtain ⟨⟨x0, x1, x2, x3, x4, x5, x6, x7⟩, ⟨s0, s1, s2, s3, s4, s5, s6, s7⟩⟩ := wr8 (Wr.step hb2 HW9.out)
      have HX9 := Hid.in_ (Wr.step hb2 HW9.out)
      have HX8 := Hid.in_ (Wr.step hb2 HW8.out)
      have HB2 := Hid.in_ (bstep HB0.out hb2)
      go_upto_region 5 with fail
      clear HF HW8 HW9 hb2 c0 c1 c2 x4 x5 x6 x7 s4 s5 s6 s7
      refine wp_region_noPanic ?_
      refine wp_region_held_drew (S := fun _ => True) (by kernel_rfl) True.intro (fun hHeld => ?_)
      refine wpAnyH_take (i := 0) (v := .string D) rfl (by kernel_rfl) (by kernel_rfl) (by kernel_rfl) (fun _ _ _ h => h) (Or.inl ⟨by rfl, ?_⟩) hHeld ?_
      · intro w9 hS9; go_simp; all_goals first | exact u8_i64 _ | (intro h9; omega)
      simp only [Act.put, List.setIfInBounds_toArray, List.set_cons_zero, List.set_cons_succ]
      refine wpAnyH_take (i := 1) (v := .int .u8 (c.toNat : Int)) rfl (by kernel_rfl) (by kernel_rfl) (by kernel_rfl) (fun _ _ _ h => h) (Or.inl ⟨by rfl, ?_⟩) hHeld ?_
      · intro w9 hS9; go_simp; all_goals first | exact u8_i64 _ | (intro h9; omega)
      simp only [Act.put, List.setIfInBounds_toArray, List.set_cons_zero, List.set_cons_succ]
      refine wpAnyH_take (i := 2) (v := .int .i64 (c.toNat : Int)) rfl (by kernel_rfl) (by kernel_rfl) (by kernel_rfl) (fun _ _ _ h => h) (Or.inl ⟨by rfl, ?_⟩) hHeld ?_
      · intro w9 hS9; go_simp; all_goals first | exact u8_i64 _ | (intro h9; omega)
      simp only [Act.put, List.setIfInBounds_toArray, List.set_cons_zero, List.set_cons_succ]
      refine wpAnyH_take (i := 3) (v := .string D) rfl (by kernel_rfl) (by kernel_rfl) (by kernel_rfl) (fun _ _ _ h => h) (Or.inl ⟨by rfl, ?_⟩) hHeld ?_
      · intro w9 hS9; go_simp; all_goals first | exact u8_i64 _ | (intro h9; omega)
      simp only [Act.put, List.setIfInBounds_toArray, List.set_cons_zero, List.set_cons_succ]
      refine wpAnyH_take (i := 4) (v := .int .u8 (h.toNat : Int)) rfl (by kernel_rfl) (by kernel_rfl) (by kernel_rfl) (fun _ _ _ h => h) (Or.inl ⟨by rfl, ?_⟩) hHeld ?_
      · intro w9 hS9; go_simp; all_goals first | exact u8_i64 _ | (intro h9; omega)
      simp only [Act.put, List.setIfInBounds_toArray, List.set_cons_zero, List.set_cons_succ]
      refine wpAnyH_take (i := 5) (v := .int .i64 (h.toNat : Int)) rfl (by kernel_rfl) (by kernel_rfl) (by kernel_rfl) (fun _ _ _ h => h) (Or.inl ⟨by rfl, ?_⟩) hHeld ?_
      · intro w9 hS9; go_simp; all_goals first | exact u8_i64 _ | (intro h9; omega)
      simp only [Act.put, List.setIfInBounds_toArray, List.set_cons_zero, List.set_cons_succ]
      refine wpAnyH_take (i := 6) (v := .string D) rfl (by kernel_rfl) (by kernel_rfl) (by kernel_rfl) (fun _ _ _ h => h) (Or.inl ⟨by rfl, ?_⟩) hHeld ?_
      · intro w9 hS9; go_simp; all_goals first | exact u8_i64 _ | (intro h9; omega)
      simp only [Act.put, List.setIfInBounds_toArray, List.set_cons_zero, List.set_cons_succ]
      refine wpAnyH_take (i := 7) (v := .int .u8 (nn.toNat : Int)) rfl (by kernel_rfl) (by kernel_rfl) (by kernel_rfl) (fun _ _ _ h => h) (Or.inl ⟨by rfl, ?_⟩) hHeld ?_
      · intro w9 hS9; go_simp; all_goals first | exact u8_i64 _ | (intro h9; omega)
      simp only [Act.put, List.setIfInBounds_toArray, List.set_cons_zero, List.set_cons_succ]
      refine wpAnyH_take (i := 8) (v := .int .i64 (nn.toNat : Int)) rfl (by kernel_rfl) (by kernel_rfl) (by kernel_rfl) (fun _ _ _ h => h) (Or.inl ⟨by rfl, ?_⟩) hHeld ?_
      · intro w9 hS9; go_simp; all_goals first | exact u8_i64 _ | (intro h9; omega)
      simp only [Act.put, List.setIfInBounds_toArray, List.set_cons_zero, List.set_cons_succ]
      refine wpAnyH_take (i := 9) (v := .string D) rfl (by kernel_rfl) (by kernel_rfl) (by kernel_rfl) (fun _ _ _ h => h) (Or.inl ⟨by rfl, ?_⟩) hHeld ?_
      · intro w9 hS9; go_simp; all_goals first | exact u8_i64 _ | (intro h9; omega)
      simp only [Act.put, List.setIfInBounds_toArray, List.set_cons_zero, List.set_cons_succ]
      refine wpAnyH_take (i := 10) (v := .int .u8 (z.toNat : Int)) rfl (by kernel_rfl) (by kernel_rfl) (by kernel_rfl) (fun _ _ _ h => h) (Or.inl ⟨by rfl, ?_⟩) hHeld ?_
      · intro w9 hS9; go_simp; all_goals first | exact u8_i64 _ | (intro h9; omega)
      simp only [Act.put, List.setIfInBounds_toArray, List.set_cons_zero, List.set_cons_succ]
      refine wpAnyH_take (i := 11) (v := .int .i64 (z.toNat : Int)) rfl (by kernel_rfl) (by kernel_rfl) (by kernel_rfl) (fun _ _ _ h => h) (Or.inl ⟨by rfl, ?_⟩) hHeld ?_
      · intro w9 hS9; go_simp; all_goals first | exact u8_i64 _ | (intro h9; omega)
      simp only [Act.put, List.setIfInBounds_toArray, List.set_cons_zero, List.set_cons_succ]
      refine wpAnyH_take (i := 12) (v := .pointer (some ⟨w.heap.size + 1, 0, none⟩)) rfl (by kernel_rfl) (by kernel_rfl) (by kernel_rfl) (fun _ _ _ h => h) (Or.inl ⟨by rfl, ?_⟩) hHeld ?_
      · intro w9 hS9; go_simp; all_goals first | exact u8_i64 _ | (intro h9; omega)
      simp only [Act.put, List.setIfInBounds_toArray, List.set_cons_zero, List.set_cons_succ]
      refine wpAnyH_ready (rs := [13]) (by kernel_rfl) (by simp) (AllReadyH.cons rfl (fun K hK => ?_) AllReadyH.nil)
      go_simp
      refine hK.out _ _ True.intro (fun hHeld => ?_)
      clear hK K
      try simp only [Act.put, List.setIfInBounds_toArray, List.set_cons_zero, List.set_cons_succ]
      refine wpAnyH_take (i := 14) (v := .pointer (some ⟨w.heap.size + 1, 1, none⟩)) rfl (by kernel_rfl) (by kernel_rfl) (by kernel_rfl) (fun _ _ _ h => h) (Or.inl ⟨by rfl, ?_⟩) hHeld ?_
      · intro w9 hS9; go_simp; all_goals first | exact u8_i64 _ | (intro h9; omega)
      simp only [Act.put, List.setIfInBounds_toArray, List.set_cons_zero, List.set_cons_succ]
      refine wpAnyH_ready (rs := [15]) (by kernel_rfl) (by simp) (AllReadyH.cons rfl (fun K hK => ?_) AllReadyH.nil)
      go_simp
      refine hK.out _ _ True.intro (fun hHeld => ?_)
      clear hK K
      try simp only [Act.put, List.setIfInBounds_toArray, List.set_cons_zero, List.set_cons_succ]
      refine wpAnyH_take (i := 16) (v := .pointer (some ⟨w.heap.size + 1, 2, none⟩)) rfl (by kernel_rfl) (by kernel_rfl) (by kernel_rfl) (fun _ _ _ h => h) (Or.inl ⟨by rfl, ?_⟩) hHeld ?_
      · intro w9 hS9; go_simp; all_goals first | exact u8_i64 _ | (intro h9; omega)
      simp only [Act.put, List.setIfInBounds_toArray, List.set_cons_zero, List.set_cons_succ]
      refine wpAnyH_ready (rs := [17]) (by kernel_rfl) (by simp) (AllReadyH.cons rfl (fun K hK => ?_) AllReadyH.nil)
      go_simp
      refine hK.out _ _ True.intro (fun hHeld => ?_)
      clear hK K
      try simp only [Act.put, List.setIfInBounds_toArray, List.set_cons_zero, List.set_cons_succ]
      refine wpAnyH_take (i := 18) (v := .pointer (some ⟨w.heap.size + 1, 3, none⟩)) rfl (by kernel_rfl) (by kernel_rfl) (by kernel_rfl) (fun _ _ _ h => h) (Or.inl ⟨by rfl, ?_⟩) hHeld ?_
      · intro w9 hS9; go_simp; all_goals first | exact u8_i64 _ | (intro h9; omega)
      simp only [Act.put, List.setIfInBounds_toArray, List.set_cons_zero, List.set_cons_succ]
      refine wpAnyH_ready (rs := [19]) (by kernel_rfl) (by simp) (AllReadyH.cons rfl (fun K hK => ?_) AllReadyH.nil)
      go_simp
      refine hK.out _ _ True.intro (fun hHeld => ?_)
      clear hK K
      try simp only [Act.put, List.setIfInBounds_toArray, List.set_cons_zero, List.set_cons_succ]
      refine wpAnyH_done (by kernel_rfl) ?_ _
      refine NoPanic.normal ?_
      have HY9 := Hid.in_ (Wr.put4 HX9.out (.int .i64 (c.toNat : Int)) (.int .i64 (h.toNat : Int)) (.int .i64 (nn.toNat : Int)) (.int .i64 (z.toNat : Int)))
      have HY8 := Hid.in_ (Wr.far4 HX8.out (c := w.heap.size + 1) (by omega) (.int .i64 (c.toNat : Int)) (.int .i64 (h.toNat : Int)) (.int .i64 (nn.toNat : Int)) (.int .i64 (z.toNat : Int)))
      have HB3 := Hid.in_ (below_put4 HB2.out (b := w.heap.size + 1) (by omega) (.int .i64 (c.toNat : Int)) (.int .i64 (h.toNat : Int)) (.int .i64 (nn.toNat : Int)) (.int .i64 (z.toNat : Int)))
      clear x0 x1 x2 x3 s0 s1 s2 s3 HX8 HX9 HB2 f0 f1 f2 f3 i0 i1 i2 i3 hHeld H4
      generalize ((((w2.setCell ⟨w.heap.size + 1, 0, none⟩ (.int .i64 (c.toNat : Int))).setCell ⟨w.heap.size + 1, 1, none⟩ (.int .i64 (h.toNat : Int))).setCell ⟨w.heap.size + 1, 2, none⟩ (.int .i64 (nn.toNat : Int))).setCell ⟨w.heap.size + 1, 3, none⟩ (.int .i64 (z.toNat : Int))).drew = w3 at *
      obtain ⟨⟨x0, x1, x2, x3, x4, x5, x6, x7⟩, ⟨s0, s1, s2, s3, s4, s5, s6, s7⟩⟩ := wr8 HY9.out
      have HDM0 := HDMA
      rw [h5, (dm_yes h5).2] at HDM0
      clear HDMA
      have h3' : (z.toNat : Int) ≤ 2 := by omega
      have HDM := Hid.in_ (fun w h => HDM0.out w h)
      go_wp2_with fail
      refine (HDM.out _ (ostep (HB3.out.setCell (p := ⟨w.heap.size + 1, 5, none⟩) (Nat.le_succ _) _) HO.out)).mono ?_
      rintro e w4 ⟨rfl, hb4⟩
      have HZ9 := Hid.in_ (Wr.step hb4 (Wr.set HY9.out (i := 5) (.int .i64 4) (by simp)))
      have HZ8 := Hid.in_ (Wr.step hb4 (Wr.far HY8.out (c := w.heap.size + 1) (by omega) 5 (.int .i64 4)))
      have HB4 := Hid.in_ (bstep (HB3.out.setCell (p := ⟨w.heap.size + 1, 5, none⟩) (Nat.le_succ _) (.int .i64 4)) hb4)
      clear hb4 x0 x1 x2 x3 x4 x5 x6 x7 s0 s1 s2 s3 s4 s5 s6 s7
      obtain ⟨⟨x0, x1, x2, x3, x4, x5, x6, x7⟩, ⟨s0, s1, s2, s3, s4, s5, s6, s7⟩⟩ := wr8 (show Wr w4 (w.heap.size + 1) [.int .i64 (c.toNat : Int), .int .i64 (h.toNat : Int), .int .i64 (nn.toNat : Int), .int .i64 (z.toNat : Int), .string ⟨#[]⟩, .int .i64 4, .bool false, .int .i64 m.a] from HZ9.out)
      obtain ⟨⟨y0, y1, y2, y3, y4, y5, y6, y7⟩, ⟨t0, t1, t2, t3, t4, t5, t6, t7⟩⟩ := wr8 HZ8.out
      obtain ⟨⟨d0, d1, d2, d3, d4, d5, d6, d7⟩, _⟩ := wr8 (Wr.put8 HZ8.out (.int .i64 (c.toNat : Int)) (.int .i64 (h.toNat : Int)) (.int .i64 (nn.toNat : Int)) (.int .i64 (z.toNat : Int)) (.string ⟨#[]⟩) (.int .i64 4) (.bool false) (.int .i64 m.a))
      go_wp2
      refine bodyPost_ret ?_ rfl ⟨(ret_fnd HV.out).symm, below_put8 HB4.out (Nat.le_refl _) _ _ _ _ _ _ _ _⟩
      simp [results, Tryz.results41, go_sem, d0, d1, d2, d3, d4, d5, d6, d7]
    · subst h2
      have hz3 : inB (z.toNat : Int) 0 2 = true := inB_mk (by omega) (by omega)
      obtain ⟨N, hN, hN2, hN3⟩ : ∃ N, rsSz z.toNat = N ∧ N ≤ 32 ∧ sizeBytes (z.toNat : Int) = (N : Int) := by
        refine ⟨_, rfl, ?_, ?_⟩
        · unfold rsSz; split <;> (try split) <;> omega
        · unfold rsSz sizeBytes; split <;> (try split) <;> rfl
      have HSB := Hid.in_ (fun w => impl_sizeBytes (z.toNat : Int) w hz3)
      rw [hN3] at HSB
      rw [hN] at h6
      try rw [hN] at HV
      clear hN3 hz3 hN
      have HF2 := Hid.in_ (fun w (_ : Tab w) => impl_fieldAt_no f q.k q.a s qb N w hN2 (by omega) h6)
      obtain ⟨h4, f0, f1, f2, f3⟩ := H4.out
      have i0 : 0 < D.size := by omega
      have i1 : 1 < D.size := by omega
      have i2 : 2 < D.size := by omega
      have i3 : 3 < D.size := by omega
      have f0 := f0 i0
      have f1 := f1 i1
      have f2 := f2 i2
      have f3 := f3 i3
      clear h4
      go_enter Tryz.func41, Tryz.ntmps41
      go_wp2_with fail
      refine (HF.out _ HT0.out).mono ?_
      rintro e w2 ⟨rfl, hb2⟩
      obtain ⟨⟨x0, x1, x2, x3, x4, x5, x6, x7⟩, ⟨s0, s1, s2, s3, s4, s5, s6, s7⟩⟩ := wr8 (Wr.step hb2 HW9.out)
      have HX9 := Hid.in_ (Wr.step hb2 HW9.out)
      have HX8 := Hid.in_ (Wr.step hb2 HW8.out)
      have HB2 := Hid.in_ (bstep HB0.out hb2)
      go_upto_region 5 with fail
      clear HF HW8 HW9 hb2 c0 c1 c2 x4 x5 x6 x7 s4 s5 s6 s7
      refine wp_region_noPanic ?_
      refine wp_region_held_drew (S := fun _ => True) (by kernel_rfl) True.intro (fun hHeld => ?_)
      refine wpAnyH_take (i := 0) (v := .string D) rfl (by kernel_rfl) (by kernel_rfl) (by kernel_rfl) (fun _ _ _ h => h) (Or.inl ⟨by rfl, ?_⟩) hHeld ?_
      · intro w9 hS9; go_simp; all_goals first | exact u8_i64 _ | (intro h9; omega)
      simp only [Act.put, List.setIfInBounds_toArray, List.set_cons_zero, List.set_cons_succ]
      refine wpAnyH_take (i := 1) (v := .int .u8 (c.toNat : Int)) rfl (by kernel_rfl) (by kernel_rfl) (by kernel_rfl) (fun _ _ _ h => h) (Or.inl ⟨by rfl, ?_⟩) hHeld ?_
      · intro w9 hS9; go_simp; all_goals first | exact u8_i64 _ | (intro h9; omega)
      simp only [Act.put, List.setIfInBounds_toArray, List.set_cons_zero, List.set_cons_succ]
      refine wpAnyH_take (i := 2) (v := .int .i64 (c.toNat : Int)) rfl (by kernel_rfl) (by kernel_rfl) (by kernel_rfl) (fun _ _ _ h => h) (Or.inl ⟨by rfl, ?_⟩) hHeld ?_
      · intro w9 hS9; go_simp; all_goals first | exact u8_i64 _ | (intro h9; omega)
      simp only [Act.put, List.setIfInBounds_toArray, List.set_cons_zero, List.set_cons_succ]
      refine wpAnyH_take (i := 3) (v := .string D) rfl (by kernel_rfl) (by kernel_rfl) (by kernel_rfl) (fun _ _ _ h => h) (Or.inl ⟨by rfl, ?_⟩) hHeld ?_
      · intro w9 hS9; go_simp; all_goals first | exact u8_i64 _ | (intro h9; omega)
      simp only [Act.put, List.setIfInBounds_toArray, List.set_cons_zero, List.set_cons_succ]
      refine wpAnyH_take (i := 4) (v := .int .u8 (h.toNat : Int)) rfl (by kernel_rfl) (by kernel_rfl) (by kernel_rfl) (fun _ _ _ h => h) (Or.inl ⟨by rfl, ?_⟩) hHeld ?_
      · intro w9 hS9; go_simp; all_goals first | exact u8_i64 _ | (intro h9; omega)
      simp only [Act.put, List.setIfInBounds_toArray, List.set_cons_zero, List.set_cons_succ]
      refine wpAnyH_take (i := 5) (v := .int .i64 (h.toNat : Int)) rfl (by kernel_rfl) (by kernel_rfl) (by kernel_rfl) (fun _ _ _ h => h) (Or.inl ⟨by rfl, ?_⟩) hHeld ?_
      · intro w9 hS9; go_simp; all_goals first | exact u8_i64 _ | (intro h9; omega)
      simp only [Act.put, List.setIfInBounds_toArray, List.set_cons_zero, List.set_cons_succ]
      refine wpAnyH_take (i := 6) (v := .string D) rfl (by kernel_rfl) (by kernel_rfl) (by kernel_rfl) (fun _ _ _ h => h) (Or.inl ⟨by rfl, ?_⟩) hHeld ?_
      · intro w9 hS9; go_simp; all_goals first | exact u8_i64 _ | (intro h9; omega)
      simp only [Act.put, List.setIfInBounds_toArray, List.set_cons_zero, List.set_cons_succ]
      refine wpAnyH_take (i := 7) (v := .int .u8 (nn.toNat : Int)) rfl (by kernel_rfl) (by kernel_rfl) (by kernel_rfl) (fun _ _ _ h => h) (Or.inl ⟨by rfl, ?_⟩) hHeld ?_
      · intro w9 hS9; go_simp; all_goals first | exact u8_i64 _ | (intro h9; omega)
      simp only [Act.put, List.setIfInBounds_toArray, List.set_cons_zero, List.set_cons_succ]
      refine wpAnyH_take (i := 8) (v := .int .i64 (nn.toNat : Int)) rfl (by kernel_rfl) (by kernel_rfl) (by kernel_rfl) (fun _ _ _ h => h) (Or.inl ⟨by rfl, ?_⟩) hHeld ?_
      · intro w9 hS9; go_simp; all_goals first | exact u8_i64 _ | (intro h9; omega)
      simp only [Act.put, List.setIfInBounds_toArray, List.set_cons_zero, List.set_cons_succ]
      refine wpAnyH_take (i := 9) (v := .string D) rfl (by kernel_rfl) (by kernel_rfl) (by kernel_rfl) (fun _ _ _ h => h) (Or.inl ⟨by rfl, ?_⟩) hHeld ?_
      · intro w9 hS9; go_simp; all_goals first | exact u8_i64 _ | (intro h9; omega)
      simp only [Act.put, List.setIfInBounds_toArray, List.set_cons_zero, List.set_cons_succ]
      refine wpAnyH_take (i := 10) (v := .int .u8 (z.toNat : Int)) rfl (by kernel_rfl) (by kernel_rfl) (by kernel_rfl) (fun _ _ _ h => h) (Or.inl ⟨by rfl, ?_⟩) hHeld ?_
      · intro w9 hS9; go_simp; all_goals first | exact u8_i64 _ | (intro h9; omega)
      simp only [Act.put, List.setIfInBounds_toArray, List.set_cons_zero, List.set_cons_succ]
      refine wpAnyH_take (i := 11) (v := .int .i64 (z.toNat : Int)) rfl (by kernel_rfl) (by kernel_rfl) (by kernel_rfl) (fun _ _ _ h => h) (Or.inl ⟨by rfl, ?_⟩) hHeld ?_
      · intro w9 hS9; go_simp; all_goals first | exact u8_i64 _ | (intro h9; omega)
      simp only [Act.put, List.setIfInBounds_toArray, List.set_cons_zero, List.set_cons_succ]
      refine wpAnyH_take (i := 12) (v := .pointer (some ⟨w.heap.size + 1, 0, none⟩)) rfl (by kernel_rfl) (by kernel_rfl) (by kernel_rfl) (fun _ _ _ h => h) (Or.inl ⟨by rfl, ?_⟩) hHeld ?_
      · intro w9 hS9; go_simp; all_goals first | exact u8_i64 _ | (intro h9; omega)
      simp only [Act.put, List.setIfInBounds_toArray, List.set_cons_zero, List.set_cons_succ]
      refine wpAnyH_ready (rs := [13]) (by kernel_rfl) (by simp) (AllReadyH.cons rfl (fun K hK => ?_) AllReadyH.nil)
      go_simp
      refine hK.out _ _ True.intro (fun hHeld => ?_)
      clear hK K
      try simp only [Act.put, List.setIfInBounds_toArray, List.set_cons_zero, List.set_cons_succ]
      refine wpAnyH_take (i := 14) (v := .pointer (some ⟨w.heap.size + 1, 1, none⟩)) rfl (by kernel_rfl) (by kernel_rfl) (by kernel_rfl) (fun _ _ _ h => h) (Or.inl ⟨by rfl, ?_⟩) hHeld ?_
      · intro w9 hS9; go_simp; all_goals first | exact u8_i64 _ | (intro h9; omega)
      simp only [Act.put, List.setIfInBounds_toArray, List.set_cons_zero, List.set_cons_succ]
      refine wpAnyH_ready (rs := [15]) (by kernel_rfl) (by simp) (AllReadyH.cons rfl (fun K hK => ?_) AllReadyH.nil)
      go_simp
      refine hK.out _ _ True.intro (fun hHeld => ?_)
      clear hK K
      try simp only [Act.put, List.setIfInBounds_toArray, List.set_cons_zero, List.set_cons_succ]
      refine wpAnyH_take (i := 16) (v := .pointer (some ⟨w.heap.size + 1, 2, none⟩)) rfl (by kernel_rfl) (by kernel_rfl) (by kernel_rfl) (fun _ _ _ h => h) (Or.inl ⟨by rfl, ?_⟩) hHeld ?_
      · intro w9 hS9; go_simp; all_goals first | exact u8_i64 _ | (intro h9; omega)
      simp only [Act.put, List.setIfInBounds_toArray, List.set_cons_zero, List.set_cons_succ]
      refine wpAnyH_ready (rs := [17]) (by kernel_rfl) (by simp) (AllReadyH.cons rfl (fun K hK => ?_) AllReadyH.nil)
      go_simp
      refine hK.out _ _ True.intro (fun hHeld => ?_)
      clear hK K
      try simp only [Act.put, List.setIfInBounds_toArray, List.set_cons_zero, List.set_cons_succ]
      refine wpAnyH_take (i := 18) (v := .pointer (some ⟨w.heap.size + 1, 3, none⟩)) rfl (by kernel_rfl) (by kernel_rfl) (by kernel_rfl) (fun _ _ _ h => h) (Or.inl ⟨by rfl, ?_⟩) hHeld ?_
      · intro w9 hS9; go_simp; all_goals first | exact u8_i64 _ | (intro h9; omega)
      simp only [Act.put, List.setIfInBounds_toArray, List.set_cons_zero, List.set_cons_succ]
      refine wpAnyH_ready (rs := [19]) (by kernel_rfl) (by simp) (AllReadyH.cons rfl (fun K hK => ?_) AllReadyH.nil)
      go_simp
      refine hK.out _ _ True.intro (fun hHeld => ?_)
      clear hK K
      try simp only [Act.put, List.setIfInBounds_toArray, List.set_cons_zero, List.set_cons_succ]
      refine wpAnyH_done (by kernel_rfl) ?_ _
      refine NoPanic.normal ?_
      have HY9 := Hid.in_ (Wr.put4 HX9.out (.int .i64 (c.toNat : Int)) (.int .i64 (h.toNat : Int)) (.int .i64 (nn.toNat : Int)) (.int .i64 (z.toNat : Int)))
      have HY8 := Hid.in_ (Wr.far4 HX8.out (c := w.heap.size + 1) (by omega) (.int .i64 (c.toNat : Int)) (.int .i64 (h.toNat : Int)) (.int .i64 (nn.toNat : Int)) (.int .i64 (z.toNat : Int)))
      have HB3 := Hid.in_ (below_put4 HB2.out (b := w.heap.size + 1) (by omega) (.int .i64 (c.toNat : Int)) (.int .i64 (h.toNat : Int)) (.int .i64 (nn.toNat : Int)) (.int .i64 (z.toNat : Int)))
      clear x0 x1 x2 x3 s0 s1 s2 s3 HX8 HX9 HB2 f0 f1 f2 f3 i0 i1 i2 i3 hHeld H4
      generalize ((((w2.setCell ⟨w.heap.size + 1, 0, none⟩ (.int .i64 (c.toNat : Int))).setCell ⟨w.heap.size + 1, 1, none⟩ (.int .i64 (h.toNat : Int))).setCell ⟨w.heap.size + 1, 2, none⟩ (.int .i64 (nn.toNat : Int))).setCell ⟨w.heap.size + 1, 3, none⟩ (.int .i64 (z.toNat : Int))).drew = w3 at *
      obtain ⟨⟨x0, x1, x2, x3, x4, x5, x6, x7⟩, ⟨s0, s1, s2, s3, s4, s5, s6, s7⟩⟩ := wr8 HY9.out
      have HDM0 := HDMA
      rw [h5, (dm_no h5).2] at HDM0
      clear HDMA
      generalize dmNext l k = nx at *
      have h3' : (z.toNat : Int) ≤ 2 := by omega
      have HDM := Hid.in_ (fun w h => HDM0.out w h)
      go_wp2_with fail
      refine (HDM.out _ (ostep (HB3.out.setCell (p := ⟨w.heap.size + 1, 5, none⟩) (Nat.le_succ _) _) HO.out)).mono ?_
      rintro e w4 ⟨rfl, hb4⟩
      have HZ9 := Hid.in_ (Wr.step hb4 (Wr.set HY9.out (i := 5) (.int .i64 4) (by simp)))
      have HZ8 := Hid.in_ (Wr.step hb4 (Wr.far HY8.out (c := w.heap.size + 1) (by omega) 5 (.int .i64 4)))
      have HB4 := Hid.in_ (bstep (HB3.out.setCell (p := ⟨w.heap.size + 1, 5, none⟩) (Nat.le_succ _) (.int .i64 4)) hb4)
      clear hb4 x0 x1 x2 x3 x4 x5 x6 x7 s0 s1 s2 s3 s4 s5 s6 s7
      obtain ⟨⟨x0, x1, x2, x3, x4, x5, x6, x7⟩, ⟨s0, s1, s2, s3, s4, s5, s6, s7⟩⟩ := wr8 (show Wr w4 (w.heap.size + 1) [.int .i64 (c.toNat : Int), .int .i64 (h.toNat : Int), .int .i64 (nn.toNat : Int), .int .i64 (z.toNat : Int), .string ⟨#[]⟩, .int .i64 4, .bool false, .int .i64 m.a] from HZ9.out)
      have HQ4 := Hid.in_ (BoxAt.step HB4.out HXq.out)
      obtain ⟨q0, q1, q2⟩ := boxAt3 HQ4.out
      have HT4 := Hid.in_ (Tab.step HB4.out HT.out)
      go_upto_region 12 with fail
      go_region_held3 (fun w' => w'.cell? ⟨g, nx * 3, none⟩ = some (.int .i64 q.k) ∧ w'.cell? ⟨g, nx * 3 + 1, none⟩ = some (.int .i64 q.a) ∧ w'.cell? ⟨g, nx * 3 + 2, none⟩ = some (.int .i64 (qb : Int)) ∧ w'.cell? ⟨w.heap.size + 1, 3, none⟩ = some (.int .i64 (z.toNat : Int)))
        (first | exact ⟨q0, q1, q2, x3⟩ | exact ⟨e0, e1, e2, e3⟩ | assumption)
        (first | (go_at_call 74; refine (HSB.out _).mono ?_; rintro e w5 ⟨rfl, rfl⟩) | (go_at_call 72; refine (HF2.out _ (Tab.step (Below.refl _ _).drew HT4.out)).mono ?_; rintro e w6 ⟨rfl, hb6⟩; have e0 : w6.cell? ⟨g, nx * 3, none⟩ = some (.int .i64 q.k) := cstep hb6 q0; have e1 : w6.cell? ⟨g, nx * 3 + 1, none⟩ = some (.int .i64 q.a) := cstep hb6 q1; have e2 : w6.cell? ⟨g, nx * 3 + 2, none⟩ = some (.int .i64 (qb : Int)) := cstep hb6 q2; have e3 : w6.cell? ⟨w.heap.size + 1, 3, none⟩ = some (.int .i64 (z.toNat : Int)) := cstep hb6 x3))
      all_goals
        have hb7 := bstep (Below.refl _ _).drew hb6
        have HU9 := Hid.in_ (Wr.step hb7 HZ9.out)
        have HU8 := Hid.in_ (Wr.step hb7 HZ8.out)
        have HB5 := Hid.in_ (bstep HB4.out hb7)
        clear hb6 hb7 x0 x1 x2 x3 x4 x5 x6 x7 s0 s1 s2 s3 s4 s5 s6 s7 q0 q1 q2 HZ8 HZ9
        obtain ⟨⟨x0, x1, x2, x3, x4, x5, x6, x7⟩, ⟨s0, s1, s2, s3, s4, s5, s6, s7⟩⟩ := wr8 (show Wr w6 (w.heap.size + 1) [.int .i64 (c.toNat : Int), .int .i64 (h.toNat : Int), .int .i64 (nn.toNat : Int), .int .i64 (z.toNat : Int), .string ⟨#[]⟩, .int .i64 4, .bool false, .int .i64 m.a] from HU9.out)
        obtain ⟨⟨y0, y1, y2, y3, y4, y5, y6, y7⟩, ⟨t0, t1, t2, t3, t4, t5, t6, t7⟩⟩ := wr8 HU8.out
        obtain ⟨⟨d0, d1, d2, d3, d4, d5, d6, d7⟩, _⟩ := wr8 (Wr.put8 HU8.out (.int .i64 (c.toNat : Int)) (.int .i64 (h.toNat : Int)) (.int .i64 (nn.toNat : Int)) (.int .i64 (z.toNat : Int)) (.string ⟨#[]⟩) (.int .i64 4) (.bool false) (.int .i64 m.a))
        go_wp2
        refine bodyPost_ret ?_ rfl ⟨(ret_fnd HV.out).symm, below_put8 HB5.out (Nat.le_refl _) _ _ _ _ _ _ _ _⟩
        simp [results, Tryz.results41, go_sem, d0, d1, d2, d3, d4, d5, d6, d7]
    · subst h2
      have hz3 : inB (z.toNat : Int) 0 2 = true := inB_mk (by omega) (by omega)
      obtain ⟨N, hN, hN2, hN3⟩ : ∃ N, rsSz z.toNat = N ∧ N ≤ 32 ∧ sizeBytes (z.toNat : Int) = (N : Int) := by
        refine ⟨_, rfl, ?_, ?_⟩
        · unfold rsSz; split <;> (try split) <;> omega
        · unfold rsSz sizeBytes; split <;> (try split) <;> rfl
      have HSB := Hid.in_ (fun w => impl_sizeBytes (z.toNat : Int) w hz3)
      rw [hN3] at HSB
      rw [hN] at h6
      try rw [hN] at HV
      clear hN3 hz3 hN
      have HF2 := Hid.in_ (fun w hT => impl_fieldAt f q.k q.a s qb N w hT hf hkq HV0.out hbs2 hN2 h6)
      generalize fldD f s qb N = D2 at *
      generalize fldG f q.k s qb N = G2 at *
      obtain ⟨h4, f0, f1, f2, f3⟩ := H4.out
      have i0 : 0 < D.size := by omega
      have i1 : 1 < D.size := by omega
      have i2 : 2 < D.size := by omega
      have i3 : 3 < D.size := by omega
      have f0 := f0 i0
      have f1 := f1 i1
      have f2 := f2 i2
      have f3 := f3 i3
      clear h4
      go_enter Tryz.func41, Tryz.ntmps41
      go_wp2_with fail
      refine (HF.out _ HT0.out).mono ?_
      rintro e w2 ⟨rfl, hb2⟩
      obtain ⟨⟨x0, x1, x2, x3, x4, x5, x6, x7⟩, ⟨s0, s1, s2, s3, s4, s5, s6, s7⟩⟩ := wr8 (Wr.step hb2 HW9.out)
      have HX9 := Hid.in_ (Wr.step hb2 HW9.out)
      have HX8 := Hid.in_ (Wr.step hb2 HW8.out)
      have HB2 := Hid.in_ (bstep HB0.out hb2)
      go_upto_region 5 with fail
      clear HF HW8 HW9 hb2 c0 c1 c2 x4 x5 x6 x7 s4 s5 s6 s7
      refine wp_region_noPanic ?_
      refine wp_region_held_drew (S := fun _ => True) (by kernel_rfl) True.intro (fun hHeld => ?_)
      refine wpAnyH_take (i := 0) (v := .string D) rfl (by kernel_rfl) (by kernel_rfl) (by kernel_rfl) (fun _ _ _ h => h) (Or.inl ⟨by rfl, ?_⟩) hHeld ?_
      · intro w9 hS9; go_simp; all_goals first | exact u8_i64 _ | (intro h9; omega)
      simp only [Act.put, List.setIfInBounds_toArray, List.set_cons_zero, List.set_cons_succ]
      refine wpAnyH_take (i := 1) (v := .int .u8 (c.toNat : Int)) rfl (by kernel_rfl) (by kernel_rfl) (by kernel_rfl) (fun _ _ _ h => h) (Or.inl ⟨by rfl, ?_⟩) hHeld ?_
      · intro w9 hS9; go_simp; all_goals first | exact u8_i64 _ | (intro h9; omega)
      simp only [Act.put, List.setIfInBounds_toArray, List.set_cons_zero, List.set_cons_succ]
      refine wpAnyH_take (i := 2) (v := .int .i64 (c.toNat : Int)) rfl (by kernel_rfl) (by kernel_rfl) (by kernel_rfl) (fun _ _ _ h => h) (Or.inl ⟨by rfl, ?_⟩) hHeld ?_
      · intro w9 hS9; go_simp; all_goals first | exact u8_i64 _ | (intro h9; omega)
      simp only [Act.put, List.setIfInBounds_toArray, List.set_cons_zero, List.set_cons_succ]
      refine wpAnyH_take (i := 3) (v := .string D) rfl (by kernel_rfl) (by kernel_rfl) (by kernel_rfl) (fun _ _ _ h => h) (Or.inl ⟨by rfl, ?_⟩) hHeld ?_
      · intro w9 hS9; go_simp; all_goals first | exact u8_i64 _ | (intro h9; omega)
      simp only [Act.put, List.setIfInBounds_toArray, List.set_cons_zero, List.set_cons_succ]
      refine wpAnyH_take (i := 4) (v := .int .u8 (h.toNat : Int)) rfl (by kernel_rfl) (by kernel_rfl) (by kernel_rfl) (fun _ _ _ h => h) (Or.inl ⟨by rfl, ?_⟩) hHeld ?_
      · intro w9 hS9; go_simp; all_goals first | exact u8_i64 _ | (intro h9; omega)
      simp only [Act.put, List.setIfInBounds_toArray, List.set_cons_zero, List.set_cons_succ]
      refine wpAnyH_take (i := 5) (v := .int .i64 (h.toNat : Int)) rfl (by kernel_rfl) (by kernel_rfl) (by kernel_rfl) (fun _ _ _ h => h) (Or.inl ⟨by rfl, ?_⟩) hHeld ?_
      · intro w9 hS9; go_simp; all_goals first | exact u8_i64 _ | (intro h9; omega)
      simp only [Act.put, List.setIfInBounds_toArray, List.set_cons_zero, List.set_cons_succ]
      refine wpAnyH_take (i := 6) (v := .string D) rfl (by kernel_rfl) (by kernel_rfl) (by kernel_rfl) (fun _ _ _ h => h) (Or.inl ⟨by rfl, ?_⟩) hHeld ?_
      · intro w9 hS9; go_simp; all_goals first | exact u8_i64 _ | (intro h9; omega)
      simp only [Act.put, List.setIfInBounds_toArray, List.set_cons_zero, List.set_cons_succ]
      refine wpAnyH_take (i := 7) (v := .int .u8 (nn.toNat : Int)) rfl (by kernel_rfl) (by kernel_rfl) (by kernel_rfl) (fun _ _ _ h => h) (Or.inl ⟨by rfl, ?_⟩) hHeld ?_
      · intro w9 hS9; go_simp; all_goals first | exact u8_i64 _ | (intro h9; omega)
      simp only [Act.put, List.setIfInBounds_toArray, List.set_cons_zero, List.set_cons_succ]
      refine wpAnyH_take (i := 8) (v := .int .i64 (nn.toNat : Int)) rfl (by kernel_rfl) (by kernel_rfl) (by kernel_rfl) (fun _ _ _ h => h) (Or.inl ⟨by rfl, ?_⟩) hHeld ?_
      · intro w9 hS9; go_simp; all_goals first | exact u8_i64 _ | (intro h9; omega)
      simp only [Act.put, List.setIfInBounds_toArray, List.set_cons_zero, List.set_cons_succ]
      refine wpAnyH_take (i := 9) (v := .string D) rfl (by kernel_rfl) (by kernel_rfl) (by kernel_rfl) (fun _ _ _ h => h) (Or.inl ⟨by rfl, ?_⟩) hHeld ?_
      · intro w9 hS9; go_simp; all_goals first | exact u8_i64 _ | (intro h9; omega)
      simp only [Act.put, List.setIfInBounds_toArray, List.set_cons_zero, List.set_cons_succ]
      refine wpAnyH_take (i := 10) (v := .int .u8 (z.toNat : Int)) rfl (by kernel_rfl) (by kernel_rfl) (by kernel_rfl) (fun _ _ _ h => h) (Or.inl ⟨by rfl, ?_⟩) hHeld ?_
      · intro w9 hS9; go_simp; all_goals first | exact u8_i64 _ | (intro h9; omega)
      simp only [Act.put, List.setIfInBounds_toArray, List.set_cons_zero, List.set_cons_succ]
      refine wpAnyH_take (i := 11) (v := .int .i64 (z.toNat : Int)) rfl (by kernel_rfl) (by kernel_rfl) (by kernel_rfl) (fun _ _ _ h => h) (Or.inl ⟨by rfl, ?_⟩) hHeld ?_
      · intro w9 hS9; go_simp; all_goals first | exact u8_i64 _ | (intro h9; omega)
      simp only [Act.put, List.setIfInBounds_toArray, List.set_cons_zero, List.set_cons_succ]
      refine wpAnyH_take (i := 12) (v := .pointer (some ⟨w.heap.size + 1, 0, none⟩)) rfl (by kernel_rfl) (by kernel_rfl) (by kernel_rfl) (fun _ _ _ h => h) (Or.inl ⟨by rfl, ?_⟩) hHeld ?_
      · intro w9 hS9; go_simp; all_goals first | exact u8_i64 _ | (intro h9; omega)
      simp only [Act.put, List.setIfInBounds_toArray, List.set_cons_zero, List.set_cons_succ]
      refine wpAnyH_ready (rs := [13]) (by kernel_rfl) (by simp) (AllReadyH.cons rfl (fun K hK => ?_) AllReadyH.nil)
      go_simp
      refine hK.out _ _ True.intro (fun hHeld => ?_)
      clear hK K
      try simp only [Act.put, List.setIfInBounds_toArray, List.set_cons_zero, List.set_cons_succ]
      refine wpAnyH_take (i := 14) (v := .pointer (some ⟨w.heap.size + 1, 1, none⟩)) rfl (by kernel_rfl) (by kernel_rfl) (by kernel_rfl) (fun _ _ _ h => h) (Or.inl ⟨by rfl, ?_⟩) hHeld ?_
      · intro w9 hS9; go_simp; all_goals first | exact u8_i64 _ | (intro h9; omega)
      simp only [Act.put, List.setIfInBounds_toArray, List.set_cons_zero, List.set_cons_succ]
      refine wpAnyH_ready (rs := [15]) (by kernel_rfl) (by simp) (AllReadyH.cons rfl (fun K hK => ?_) AllReadyH.nil)
      go_simp
      refine hK.out _ _ True.intro (fun hHeld => ?_)
      clear hK K
      try simp only [Act.put, List.setIfInBounds_toArray, List.set_cons_zero, List.set_cons_succ]
      refine wpAnyH_take (i := 16) (v := .pointer (some ⟨w.heap.size + 1, 2, none⟩)) rfl (by kernel_rfl) (by kernel_rfl) (by kernel_rfl) (fun _ _ _ h => h) (Or.inl ⟨by rfl, ?_⟩) hHeld ?_
      · intro w9 hS9; go_simp; all_goals first | exact u8_i64 _ | (intro h9; omega)
      simp only [Act.put, List.setIfInBounds_toArray, List.set_cons_zero, List.set_cons_succ]
      refine wpAnyH_ready (rs := [17]) (by kernel_rfl) (by simp) (AllReadyH.cons rfl (fun K hK => ?_) AllReadyH.nil)
      go_simp
      refine hK.out _ _ True.intro (fun hHeld => ?_)
      clear hK K
      try simp only [Act.put, List.setIfInBounds_toArray, List.set_cons_zero, List.set_cons_succ]
      refine wpAnyH_take (i := 18) (v := .pointer (some ⟨w.heap.size + 1, 3, none⟩)) rfl (by kernel_rfl) (by kernel_rfl) (by kernel_rfl) (fun _ _ _ h => h) (Or.inl ⟨by rfl, ?_⟩) hHeld ?_
      · intro w9 hS9; go_simp; all_goals first | exact u8_i64 _ | (intro h9; omega)
      simp only [Act.put, List.setIfInBounds_toArray, List.set_cons_zero, List.set_cons_succ]
      refine wpAnyH_ready (rs := [19]) (by kernel_rfl) (by simp) (AllReadyH.cons rfl (fun K hK => ?_) AllReadyH.nil)
      go_simp
      refine hK.out _ _ True.intro (fun hHeld => ?_)
      clear hK K
      try simp only [Act.put, List.setIfInBounds_toArray, List.set_cons_zero, List.set_cons_succ]
      refine wpAnyH_done (by kernel_rfl) ?_ _
      refine NoPanic.normal ?_
      have HY9 := Hid.in_ (Wr.put4 HX9.out (.int .i64 (c.toNat : Int)) (.int .i64 (h.toNat : Int)) (.int .i64 (nn.toNat : Int)) (.int .i64 (z.toNat : Int)))
      have HY8 := Hid.in_ (Wr.far4 HX8.out (c := w.heap.size + 1) (by omega) (.int .i64 (c.toNat : Int)) (.int .i64 (h.toNat : Int)) (.int .i64 (nn.toNat : Int)) (.int .i64 (z.toNat : Int)))
      have HB3 := Hid.in_ (below_put4 HB2.out (b := w.heap.size + 1) (by omega) (.int .i64 (c.toNat : Int)) (.int .i64 (h.toNat : Int)) (.int .i64 (nn.toNat : Int)) (.int .i64 (z.toNat : Int)))
      clear x0 x1 x2 x3 s0 s1 s2 s3 HX8 HX9 HB2 f0 f1 f2 f3 i0 i1 i2 i3 hHeld H4
      generalize ((((w2.setCell ⟨w.heap.size + 1, 0, none⟩ (.int .i64 (c.toNat : Int))).setCell ⟨w.heap.size + 1, 1, none⟩ (.int .i64 (h.toNat : Int))).setCell ⟨w.heap.size + 1, 2, none⟩ (.int .i64 (nn.toNat : Int))).setCell ⟨w.heap.size + 1, 3, none⟩ (.int .i64 (z.toNat : Int))).drew = w3 at *
      obtain ⟨⟨x0, x1, x2, x3, x4, x5, x6, x7⟩, ⟨s0, s1, s2, s3, s4, s5, s6, s7⟩⟩ := wr8 HY9.out
      have HDM0 := HDMA
      rw [h5, (dm_no h5).2] at HDM0
      clear HDMA
      generalize dmNext l k = nx at *
      have h3' : (z.toNat : Int) ≤ 2 := by omega
      have HDM := Hid.in_ (fun w h => HDM0.out w h)
      go_wp2_with fail
      refine (HDM.out _ (ostep (HB3.out.setCell (p := ⟨w.heap.size + 1, 5, none⟩) (Nat.le_succ _) _) HO.out)).mono ?_
      rintro e w4 ⟨rfl, hb4⟩
      have HZ9 := Hid.in_ (Wr.step hb4 (Wr.set HY9.out (i := 5) (.int .i64 4) (by simp)))
      have HZ8 := Hid.in_ (Wr.step hb4 (Wr.far HY8.out (c := w.heap.size + 1) (by omega) 5 (.int .i64 4)))
      have HB4 := Hid.in_ (bstep (HB3.out.setCell (p := ⟨w.heap.size + 1, 5, none⟩) (Nat.le_succ _) (.int .i64 4)) hb4)
      clear hb4 x0 x1 x2 x3 x4 x5 x6 x7 s0 s1 s2 s3 s4 s5 s6 s7
      obtain ⟨⟨x0, x1, x2, x3, x4, x5, x6, x7⟩, ⟨s0, s1, s2, s3, s4, s5, s6, s7⟩⟩ := wr8 (show Wr w4 (w.heap.size + 1) [.int .i64 (c.toNat : Int), .int .i64 (h.toNat : Int), .int .i64 (nn.toNat : Int), .int .i64 (z.toNat : Int), .string ⟨#[]⟩, .int .i64 4, .bool false, .int .i64 m.a] from HZ9.out)
      have HQ4 := Hid.in_ (BoxAt.step HB4.out HXq.out)
      obtain ⟨q0, q1, q2⟩ := boxAt3 HQ4.out
      have HT4 := Hid.in_ (Tab.step HB4.out HT.out)
      go_upto_region 12 with fail
      go_region_held3 (fun w' => w'.cell? ⟨g, nx * 3, none⟩ = some (.int .i64 q.k) ∧ w'.cell? ⟨g, nx * 3 + 1, none⟩ = some (.int .i64 q.a) ∧ w'.cell? ⟨g, nx * 3 + 2, none⟩ = some (.int .i64 (qb : Int)) ∧ w'.cell? ⟨w.heap.size + 1, 3, none⟩ = some (.int .i64 (z.toNat : Int)))
        (first | exact ⟨q0, q1, q2, x3⟩ | exact ⟨e0, e1, e2, e3⟩ | assumption)
        (first | (go_at_call 74; refine (HSB.out _).mono ?_; rintro e w5 ⟨rfl, rfl⟩) | (go_at_call 72; refine (HF2.out _ (Tab.step (Below.refl _ _).drew HT4.out)).mono ?_; rintro e w6 ⟨rfl, hb6⟩; have e0 : w6.cell? ⟨g, nx * 3, none⟩ = some (.int .i64 q.k) := cstep hb6 q0; have e1 : w6.cell? ⟨g, nx * 3 + 1, none⟩ = some (.int .i64 q.a) := cstep hb6 q1; have e2 : w6.cell? ⟨g, nx * 3 + 2, none⟩ = some (.int .i64 (qb : Int)) := cstep hb6 q2; have e3 : w6.cell? ⟨w.heap.size + 1, 3, none⟩ = some (.int .i64 (z.toNat : Int)) := cstep hb6 x3))
      all_goals
        have hb7 := bstep (Below.refl _ _).drew hb6
        have HU9 := Hid.in_ (Wr.step hb7 HZ9.out)
        have HU8 := Hid.in_ (Wr.step hb7 HZ8.out)
        have HB5 := Hid.in_ (bstep HB4.out hb7)
        clear hb6 hb7 x0 x1 x2 x3 x4 x5 x6 x7 s0 s1 s2 s3 s4 s5 s6 s7 q0 q1 q2 HZ8 HZ9
        obtain ⟨⟨x0, x1, x2, x3, x4, x5, x6, x7⟩, ⟨s0, s1, s2, s3, s4, s5, s6, s7⟩⟩ := wr8 (show Wr w6 (w.heap.size + 1) [.int .i64 (c.toNat : Int), .int .i64 (h.toNat : Int), .int .i64 (nn.toNat : Int), .int .i64 (z.toNat : Int), .string ⟨#[]⟩, .int .i64 4, .bool false, .int .i64 m.a] from HU9.out)
        cases G2
        · rw [if_neg (by decide)] at HV
          go_upto_region 20 with fail
          have HL8 := Hid.in_ (show Wr (((w6.setCell ⟨w.heap.size + 1, 4, none⟩ (.string D2)).setCell ⟨w.heap.size + 1, 6, none⟩ (.bool (q.k == 3))).setCell ⟨w.heap.size + 1, 5, none⟩ (.int .i64 3)) w.heap.size _ from (Wr.far (Wr.far (Wr.far HU8.out (c := w.heap.size + 1) (by omega) 4 (.string D2)) (c := w.heap.size + 1) (by omega) 6 (.bool (q.k == 3))) (c := w.heap.size + 1) (by omega) 5 (.int .i64 3)))
          have HL9 := Hid.in_ (show Wr (((w6.setCell ⟨w.heap.size + 1, 4, none⟩ (.string D2)).setCell ⟨w.heap.size + 1, 6, none⟩ (.bool (q.k == 3))).setCell ⟨w.heap.size + 1, 5, none⟩ (.int .i64 3)) (w.heap.size + 1) [.int .i64 (c.toNat : Int), .int .i64 (h.toNat : Int), .int .i64 (nn.toNat : Int), .int .i64 (z.toNat : Int), .string D2, .int .i64 3, .bool (q.k == 3), .int .i64 m.a] from (((Wr.set HU9.out (i := 4) (.string D2) (by simp)).set (i := 6) (.bool (q.k == 3)) (by simp)).set (i := 5) (.int .i64 3) (by simp)))
          have HB6 := Hid.in_ (show Below w.heap.size w (((w6.setCell ⟨w.heap.size + 1, 4, none⟩ (.string D2)).setCell ⟨w.heap.size + 1, 6, none⟩ (.bool (q.k == 3))).setCell ⟨w.heap.size + 1, 5, none⟩ (.int .i64 3)) from (((HB5.out.setCell (p := ⟨w.heap.size + 1, 4, none⟩) (Nat.le_succ _) (.string D2)).setCell (p := ⟨w.heap.size + 1, 6, none⟩) (Nat.le_succ _) (.bool (q.k == 3))).setCell (p := ⟨w.heap.size + 1, 5, none⟩) (Nat.le_succ _) (.int .i64 3)))
          clear x0 x1 x2 x3 x4 x5 x6 x7 s0 s1 s2 s3 s4 s5 s6 s7 HU8 HU9 HB5
          generalize ((w6.setCell ⟨w.heap.size + 1, 4, none⟩ (.string D2)).setCell ⟨w.heap.size + 1, 6, none⟩ (.bool (q.k == 3))).setCell ⟨w.heap.size + 1, 5, none⟩ (.int .i64 3) = w7 at *
          obtain ⟨⟨x0, x1, x2, x3, x4, x5, x6, x7⟩, _⟩ := wr8 HL9.out
          obtain ⟨⟨y0, y1, y2, y3, y4, y5, y6, y7⟩, ⟨t0, t1, t2, t3, t4, t5, t6, t7⟩⟩ := wr8 HL8.out
          obtain ⟨⟨d0, d1, d2, d3, d4, d5, d6, d7⟩, _⟩ := wr8 (Wr.put8 HL8.out (.int .i64 (c.toNat : Int)) (.int .i64 (h.toNat : Int)) (.int .i64 (nn.toNat : Int)) (.int .i64 (z.toNat : Int)) (.string D2) (.int .i64 3) (.bool (q.k == 3)) (.int .i64 m.a))
          go_wp2
          refine bodyPost_ret ?_ rfl ⟨(ret_fnd HV.out).symm, below_put8 HB6.out (Nat.le_refl _) _ _ _ _ _ _ _ _⟩
          simp [results, Tryz.results41, go_sem, d0, d1, d2, d3, d4, d5, d6, d7]
        · rw [if_pos rfl] at HV
          go_upto_region 20 with fail
          have HL8 := Hid.in_ (show Wr ((((w6.setCell ⟨w.heap.size + 1, 4, none⟩ (.string D2)).setCell ⟨w.heap.size + 1, 6, none⟩ (.bool (q.k == 3))).setCell ⟨w.heap.size + 1, 5, none⟩ (.int .i64 3)).setCell ⟨w.heap.size + 1, 5, none⟩ (.int .i64 1)) w.heap.size _ from (Wr.far (Wr.far (Wr.far (Wr.far HU8.out (c := w.heap.size + 1) (by omega) 4 (.string D2)) (c := w.heap.size + 1) (by omega) 6 (.bool (q.k == 3))) (c := w.heap.size + 1) (by omega) 5 (.int .i64 3)) (c := w.heap.size + 1) (by omega) 5 (.int .i64 1)))
          have HL9 := Hid.in_ (show Wr ((((w6.setCell ⟨w.heap.size + 1, 4, none⟩ (.string D2)).setCell ⟨w.heap.size + 1, 6, none⟩ (.bool (q.k == 3))).setCell ⟨w.heap.size + 1, 5, none⟩ (.int .i64 3)).setCell ⟨w.heap.size + 1, 5, none⟩ (.int .i64 1)) (w.heap.size + 1) [.int .i64 (c.toNat : Int), .int .i64 (h.toNat : Int), .int .i64 (nn.toNat : Int), .int .i64 (z.toNat : Int), .string D2, .int .i64 1, .bool (q.k == 3), .int .i64 m.a] from ((((Wr.set HU9.out (i := 4) (.string D2) (by simp)).set (i := 6) (.bool (q.k == 3)) (by simp)).set (i := 5) (.int .i64 3) (by simp)).set (i := 5) (.int .i64 1) (by simp)))
          have HB6 := Hid.in_ (show Below w.heap.size w ((((w6.setCell ⟨w.heap.size + 1, 4, none⟩ (.string D2)).setCell ⟨w.heap.size + 1, 6, none⟩ (.bool (q.k == 3))).setCell ⟨w.heap.size + 1, 5, none⟩ (.int .i64 3)).setCell ⟨w.heap.size + 1, 5, none⟩ (.int .i64 1)) from ((((HB5.out.setCell (p := ⟨w.heap.size + 1, 4, none⟩) (Nat.le_succ _) (.string D2)).setCell (p := ⟨w.heap.size + 1, 6, none⟩) (Nat.le_succ _) (.bool (q.k == 3))).setCell (p := ⟨w.heap.size + 1, 5, none⟩) (Nat.le_succ _) (.int .i64 3)).setCell (p := ⟨w.heap.size + 1, 5, none⟩) (Nat.le_succ _) (.int .i64 1)))
          clear x0 x1 x2 x3 x4 x5 x6 x7 s0 s1 s2 s3 s4 s5 s6 s7 HU8 HU9 HB5
          generalize (((w6.setCell ⟨w.heap.size + 1, 4, none⟩ (.string D2)).setCell ⟨w.heap.size + 1, 6, none⟩ (.bool (q.k == 3))).setCell ⟨w.heap.size + 1, 5, none⟩ (.int .i64 3)).setCell ⟨w.heap.size + 1, 5, none⟩ (.int .i64 1) = w7 at *
          obtain ⟨⟨x0, x1, x2, x3, x4, x5, x6, x7⟩, _⟩ := wr8 HL9.out
          obtain ⟨⟨y0, y1, y2, y3, y4, y5, y6, y7⟩, ⟨t0, t1, t2, t3, t4, t5, t6, t7⟩⟩ := wr8 HL8.out
          obtain ⟨⟨d0, d1, d2, d3, d4, d5, d6, d7⟩, _⟩ := wr8 (Wr.put8 HL8.out (.int .i64 (c.toNat : Int)) (.int .i64 (h.toNat : Int)) (.int .i64 (nn.toNat : Int)) (.int .i64 (z.toNat : Int)) (.string D2) (.int .i64 1) (.bool (q.k == 3)) (.int .i64 m.a))
          go_wp2
          refine bodyPost_ret ?_ rfl ⟨(ret_fnd HV.out).symm, below_put8 HB6.out (Nat.le_refl _) _ _ _ _ _ _ _ _⟩
          simp [results, Tryz.results41, go_sem, d0, d1, d2, d3, d4, d5, d6, d7]
end Go.Proofs.YtlelgpknkgjaeaaGreatDoor
