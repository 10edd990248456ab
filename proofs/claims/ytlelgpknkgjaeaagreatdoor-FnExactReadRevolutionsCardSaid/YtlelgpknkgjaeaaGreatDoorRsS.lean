/- 'l09Sector' of the reference. -/
import Derived.Test.YtlelgpknkgjaeaaGreatDoorRs
namespace Go.Proofs.YtlelgpknkgjaeaaGreatDoor
open Go.ChangeShapes Go.WideShapes Go.ChangeAt Go.RowKit
set_option linter.unusedSimpArgs false
set_option linter.unusedVariables false
set_option maxRecDepth 4000

theorem Wr.put4n {w : World} {b : Nat} {a0 a1 a2 a3 a4 a5 a6 a7 : Value} (h : Wr w b [a0, a1, a2, a3, a4, a5, a6, a7]) (x0 x1 x2 x3 : Value) :
    Wr ((((w.setCell ⟨b, 0, none⟩ x0).setCell ⟨b, 1, none⟩ x1).setCell ⟨b, 2, none⟩ x2).setCell ⟨b, 3, none⟩ x3) b [x0, x1, x2, x3, a4, a5, a6, a7] :=
  ((((h.set x0 (i := 0) (by simp)).set x1 (i := 1) (by simp)).set x2 (i := 2) (by simp)).set x3 (i := 3) (by simp))
theorem Wr.far4n {w : World} {b c : Nat} {cs : List Value} (h : Wr w b cs) (hc : c ≠ b) (x0 x1 x2 x3 : Value) :
    Wr ((((w.setCell ⟨c, 0, none⟩ x0).setCell ⟨c, 1, none⟩ x1).setCell ⟨c, 2, none⟩ x2).setCell ⟨c, 3, none⟩ x3) b cs := ((((h.far hc 0 x0).far hc 1 x1).far hc 2 x2).far hc 3 x3)
theorem below_put4n {W w : World} {B b : Nat} (h : Below B W w) (hb : B ≤ b) (x0 x1 x2 x3 : Value) :
    Below B W ((((w.setCell ⟨b, 0, none⟩ x0).setCell ⟨b, 1, none⟩ x1).setCell ⟨b, 2, none⟩ x2).setCell ⟨b, 3, none⟩ x3) :=
  ((((h.setCell (p := ⟨b, 0, none⟩) hb _).setCell (p := ⟨b, 1, none⟩) hb _).setCell (p := ⟨b, 2, none⟩) hb _).setCell (p := ⟨b, 3, none⟩) hb _)
set_option maxHeartbeats 4000000 in
theorem spec_l09Sector {v : Value} {n b : Nat} {l : List MarkR} (s : ByteArray) (f : Int) (k : Nat) (w : World) (h : w.ownsRow b 51 3 v n (l.flatMap MarkR.cells)) (hf : inB f 1 3 = true) (hv : validCells s = true) (hM : validMarks l s.size = true) (hk : k < l.length) (hn2 : n ≤ 1048576) :
    Calls Tryz.prog 71 #[.string s, .int .i64 f, v, .int .i64 k] w fun e w' => e = .returned (.agg (rsF f s l k).cells.toArray) ∧ Below w.heap.size w w' := by
  have hlx : l.length = n := by have := h.1; rw [flat_len MarkR.len] at this; omega
  have HO := Hid.in_ h
  obtain ⟨A, c9, rfl, _, hn, hA⟩ := own_shape h
  have hx1 : dmNext l k < l.length := Nat.mod_lt _ (by omega)
  obtain ⟨q, hq⟩ := get_lt l _ hx1
  obtain ⟨m, hm⟩ := get_lt l k hk
  have q1 := mark_in hM hq
  have m1 := mark_in hM hm
  obtain ⟨v0, v8, _⟩ := valid_size hv
  obtain ⟨mb, hmb⟩ := Int.eq_ofNat_of_zero_le m1.2.2.1
  obtain ⟨qb, hqb⟩ := Int.eq_ofNat_of_zero_le q1.2.2.1
  have hcs := rs_cases f s l k hm hq hmb hqb
  have HMB := Hid.in_ hmb
  have HQB := Hid.in_ hqb
  clear hmb hqb
  rw [hlx] at hx1 hk
  obtain ⟨g, rfl, _, hg, hx, _⟩ := hA (by omega)
  have HXm := Hid.in_ (Box.elem MarkR.len hx hm)
  have HXq := Hid.in_ (Box.elem MarkR.len hx hq)
  obtain ⟨c0, c1, c2⟩ := box3' HXm.out
  clear hA hx h
  have hW := wr_two w 63 [.int .i64 0, .int .i64 0, .int .i64 0, .int .i64 0, .string ⟨#[]⟩, .int .i64 0, .bool false, .int .i64 0] [.int .i64 0, .int .i64 0, .int .i64 0, .int .i64 0, .string ⟨#[]⟩, .int .i64 2, .bool false, .int .i64 m.a]
  have HW8 := Hid.in_ hW.1
  have HW9 := Hid.in_ hW.2.1
  have HB0 := Hid.in_ hW.2.2
  clear hW
  obtain ⟨h1, HV⟩ | ⟨h1, c, h, nn, z, H4, hrest⟩ := hcs
  · have HF := Hid.in_ (fun w => spec_l09Field_no f m.k m.a s m.b 4 w (by omega) (by omega) h1)
    go_enter Tryz.func71, Tryz.ntmps71
    go_wp2_with fail
    refine (HF.out _).mono ?_
    rintro e w2 ⟨rfl, hb2⟩
    obtain ⟨⟨x0, x1, x2, x3, x4, x5, x6, x7⟩, ⟨s0, s1, s2, s3, s4, s5, s6, s7⟩⟩ := wr8 (Wr.step hb2 HW9.out)
    obtain ⟨⟨y0, y1, y2, y3, y4, y5, y6, y7⟩, ⟨t0, t1, t2, t3, t4, t5, t6, t7⟩⟩ := wr8 (Wr.step hb2 HW8.out)
    obtain ⟨⟨d0, d1, d2, d3, d4, d5, d6, d7⟩, _⟩ := wr8 (Wr.put8 (Wr.step hb2 HW8.out) (.int .i64 0) (.int .i64 0) (.int .i64 0) (.int .i64 0) (.string ⟨#[]⟩) (.int .i64 2) (.bool false) (.int .i64 m.a))
    have HB2 := Hid.in_ (bstep HB0.out hb2)
    clear hb2
    go_wp2
    refine bodyPost_ret ?_ rfl ⟨(ret_fnd HV.out).symm, below_put8 HB2.out (Nat.le_refl _) _ _ _ _ _ _ _ _⟩
    simp [results, Tryz.results71, go_sem, d0, d1, d2, d3, d4, d5, d6, d7]
  · have hmb := HMB.out
    clear HMB
    have hbs : mb < s.size := by omega
    have HF := Hid.in_ (fun w => spec_l09Field f m.k m.a s mb 4 w hf (mark_kind hM hm) hv hbs (by omega) h1)
    have HDMA := Hid.in_ (fun w h => spec_l09DataMark (v := .slice (some ⟨g, 0, none⟩) n c9) (n := n) (b := b) s.size k w h hM (by omega) (by omega) (by omega) hn2)
    generalize m.b = mbi at *
    subst hmb
    have HXq := Hid.in_ (show BoxAt w g (dmNext l k * 3) [.int .i64 q.k, .int .i64 q.a, .int .i64 q.b] from HXq.out)
    have hqb := HQB.out
    clear HQB
    have hbs2 : qb < s.size := by omega
    have hkq := mark_kind hM hq
    generalize q.b = qbi at *
    subst hqb
    have hx2 : (0 : Int) ≤ ((dmNext l k : Nat) : Int) := by omega
    have hx3 : ((dmNext l k : Nat) : Int) < (n : Int) := by omega
    clear hM h1 hlx q1 m1 hn2 hn
    have HV0 := Hid.in_ hv
    clear hv
    generalize fldD f s mb 4 = D at *
    generalize fldG f m.k s mb 4 = G at *
    obtain ⟨h2, HV⟩ | ⟨h2, h3, HV⟩ | ⟨h2, h3, h5, HV⟩ | ⟨h2, h3, h5, h6, HV⟩ | ⟨h2, h3, h5, h6, HV⟩ := hrest
    · subst h2
      obtain ⟨h4, f0, f1, f2, f3⟩ := H4.out
      have i0 : 0 < D.size := by omega
      have i1 : 1 < D.size := by omega
      have i2 : 2 < D.size := by omega
      have i3 : 3 < D.size := by omega
      have f0 := f0 i0
      have f1 := f1 i1
      have f2 := f2 i2
      have f3 := f3 i3
      clear h4
      go_enter Tryz.func71, Tryz.ntmps71
      go_wp2_with fail
      refine (HF.out _).mono ?_
      rintro e w2 ⟨rfl, hb2⟩
      obtain ⟨⟨x0, x1, x2, x3, x4, x5, x6, x7⟩, ⟨s0, s1, s2, s3, s4, s5, s6, s7⟩⟩ := wr8 (Wr.step hb2 HW9.out)
      have HX9 := Hid.in_ (Wr.step hb2 HW9.out)
      have HX8 := Hid.in_ (Wr.step hb2 HW8.out)
      have HB2 := Hid.in_ (bstep HB0.out hb2)
      have u0 := u8_i64 c
      have u1 := u8_i64 h
      have u2 := u8_i64 nn
      have u3 := u8_i64 z
      clear HF HW8 HW9 hb2 c0 c1 c2
      go_upto_region 9 with fail
      clear u0 u1 u2 u3 x4 x5 x6 x7 s4 s5 s6 s7
      have HY9 := Hid.in_ (Wr.put4n HX9.out (.int .i64 (c.toNat : Int)) (.int .i64 (h.toNat : Int)) (.int .i64 (nn.toNat : Int)) (.int .i64 (z.toNat : Int)))
      have HY8 := Hid.in_ (Wr.far4n HX8.out (c := w.heap.size + 1) (by omega) (.int .i64 (c.toNat : Int)) (.int .i64 (h.toNat : Int)) (.int .i64 (nn.toNat : Int)) (.int .i64 (z.toNat : Int)))
      have HB3 := Hid.in_ (below_put4n HB2.out (b := w.heap.size + 1) (by omega) (.int .i64 (c.toNat : Int)) (.int .i64 (h.toNat : Int)) (.int .i64 (nn.toNat : Int)) (.int .i64 (z.toNat : Int)))
      clear x0 x1 x2 x3 s0 s1 s2 s3 HX8 HX9 HB2 f0 f1 f2 f3 i0 i1 i2 i3 H4
      generalize ((((w2.setCell ⟨w.heap.size + 1, 0, none⟩ (.int .i64 (c.toNat : Int))).setCell ⟨w.heap.size + 1, 1, none⟩ (.int .i64 (h.toNat : Int))).setCell ⟨w.heap.size + 1, 2, none⟩ (.int .i64 (nn.toNat : Int))).setCell ⟨w.heap.size + 1, 3, none⟩ (.int .i64 (z.toNat : Int))) = w3 at *
      obtain ⟨⟨x0, x1, x2, x3, x4, x5, x6, x7⟩, ⟨s0, s1, s2, s3, s4, s5, s6, s7⟩⟩ := wr8 HY9.out
      obtain ⟨⟨y0, y1, y2, y3, y4, y5, y6, y7⟩, ⟨t0, t1, t2, t3, t4, t5, t6, t7⟩⟩ := wr8 HY8.out
      obtain ⟨⟨d0, d1, d2, d3, d4, d5, d6, d7⟩, _⟩ := wr8 (Wr.put8 HY8.out (.int .i64 (c.toNat : Int)) (.int .i64 (h.toNat : Int)) (.int .i64 (nn.toNat : Int)) (.int .i64 (z.toNat : Int)) (.string ⟨#[]⟩) (.int .i64 2) (.bool false) (.int .i64 m.a))
      go_wp2
      refine bodyPost_ret ?_ rfl ⟨(ret_fnd HV.out).symm, below_put8 HB3.out (Nat.le_refl _) _ _ _ _ _ _ _ _⟩
      simp [results, Tryz.results71, go_sem, d0, d1, d2, d3, d4, d5, d6, d7]
    · subst h2
      obtain ⟨h4, f0, f1, f2, f3⟩ := H4.out
      have i0 : 0 < D.size := by omega
      have i1 : 1 < D.size := by omega
      have i2 : 2 < D.size := by omega
      have i3 : 3 < D.size := by omega
      have f0 := f0 i0
      have f1 := f1 i1
      have f2 := f2 i2
      have f3 := f3 i3
      clear h4
      go_enter Tryz.func71, Tryz.ntmps71
      go_wp2_with fail
      refine (HF.out _).mono ?_
      rintro e w2 ⟨rfl, hb2⟩
      obtain ⟨⟨x0, x1, x2, x3, x4, x5, x6, x7⟩, ⟨s0, s1, s2, s3, s4, s5, s6, s7⟩⟩ := wr8 (Wr.step hb2 HW9.out)
      have HX9 := Hid.in_ (Wr.step hb2 HW9.out)
      have HX8 := Hid.in_ (Wr.step hb2 HW8.out)
      have HB2 := Hid.in_ (bstep HB0.out hb2)
      have u0 := u8_i64 c
      have u1 := u8_i64 h
      have u2 := u8_i64 nn
      have u3 := u8_i64 z
      clear HF HW8 HW9 hb2 c0 c1 c2
      go_upto_region 9 with fail
      clear u0 u1 u2 u3 x4 x5 x6 x7 s4 s5 s6 s7
      have HY9 := Hid.in_ (Wr.put4n HX9.out (.int .i64 (c.toNat : Int)) (.int .i64 (h.toNat : Int)) (.int .i64 (nn.toNat : Int)) (.int .i64 (z.toNat : Int)))
      have HY8 := Hid.in_ (Wr.far4n HX8.out (c := w.heap.size + 1) (by omega) (.int .i64 (c.toNat : Int)) (.int .i64 (h.toNat : Int)) (.int .i64 (nn.toNat : Int)) (.int .i64 (z.toNat : Int)))
      have HB3 := Hid.in_ (below_put4n HB2.out (b := w.heap.size + 1) (by omega) (.int .i64 (c.toNat : Int)) (.int .i64 (h.toNat : Int)) (.int .i64 (nn.toNat : Int)) (.int .i64 (z.toNat : Int)))
      clear x0 x1 x2 x3 s0 s1 s2 s3 HX8 HX9 HB2 f0 f1 f2 f3 i0 i1 i2 i3 H4
      generalize ((((w2.setCell ⟨w.heap.size + 1, 0, none⟩ (.int .i64 (c.toNat : Int))).setCell ⟨w.heap.size + 1, 1, none⟩ (.int .i64 (h.toNat : Int))).setCell ⟨w.heap.size + 1, 2, none⟩ (.int .i64 (nn.toNat : Int))).setCell ⟨w.heap.size + 1, 3, none⟩ (.int .i64 (z.toNat : Int))) = w3 at *
      obtain ⟨⟨x0, x1, x2, x3, x4, x5, x6, x7⟩, ⟨s0, s1, s2, s3, s4, s5, s6, s7⟩⟩ := wr8 HY9.out
      have h3' : (2 : Int) < (z.toNat : Int) := by omega
      obtain ⟨⟨y0, y1, y2, y3, y4, y5, y6, y7⟩, ⟨t0, t1, t2, t3, t4, t5, t6, t7⟩⟩ := wr8 HY8.out
      obtain ⟨⟨d0, d1, d2, d3, d4, d5, d6, d7⟩, _⟩ := wr8 (Wr.put8 HY8.out (.int .i64 (c.toNat : Int)) (.int .i64 (h.toNat : Int)) (.int .i64 (nn.toNat : Int)) (.int .i64 (z.toNat : Int)) (.string ⟨#[]⟩) (.int .i64 2) (.bool false) (.int .i64 m.a))
      go_wp2
      refine bodyPost_ret ?_ rfl ⟨(ret_fnd HV.out).symm, below_put8 HB3.out (Nat.le_refl _) _ _ _ _ _ _ _ _⟩
      simp [results, Tryz.results71, go_sem, d0, d1, d2, d3, d4, d5, d6, d7]
    · subst h2
      obtain ⟨h4, f0, f1, f2, f3⟩ := H4.out
      have i0 : 0 < D.size := by omega
      have i1 : 1 < D.size := by omega
      have i2 : 2 < D.size := by omega
      have i3 : 3 < D.size := by omega
      have f0 := f0 i0
      have f1 := f1 i1
      have f2 := f2 i2
      have f3 := f3 i3
      clear h4
      go_enter Tryz.func71, Tryz.ntmps71
      go_wp2_with fail
      refine (HF.out _).mono ?_
      rintro e w2 ⟨rfl, hb2⟩
      obtain ⟨⟨x0, x1, x2, x3, x4, x5, x6, x7⟩, ⟨s0, s1, s2, s3, s4, s5, s6, s7⟩⟩ := wr8 (Wr.step hb2 HW9.out)
      have HX9 := Hid.in_ (Wr.step hb2 HW9.out)
      have HX8 := Hid.in_ (Wr.step hb2 HW8.out)
      have HB2 := Hid.in_ (bstep HB0.out hb2)
      have u0 := u8_i64 c
      have u1 := u8_i64 h
      have u2 := u8_i64 nn
      have u3 := u8_i64 z
      clear HF HW8 HW9 hb2 c0 c1 c2
      go_upto_region 9 with fail
      clear u0 u1 u2 u3 x4 x5 x6 x7 s4 s5 s6 s7
      have HY9 := Hid.in_ (Wr.put4n HX9.out (.int .i64 (c.toNat : Int)) (.int .i64 (h.toNat : Int)) (.int .i64 (nn.toNat : Int)) (.int .i64 (z.toNat : Int)))
      have HY8 := Hid.in_ (Wr.far4n HX8.out (c := w.heap.size + 1) (by omega) (.int .i64 (c.toNat : Int)) (.int .i64 (h.toNat : Int)) (.int .i64 (nn.toNat : Int)) (.int .i64 (z.toNat : Int)))
      have HB3 := Hid.in_ (below_put4n HB2.out (b := w.heap.size + 1) (by omega) (.int .i64 (c.toNat : Int)) (.int .i64 (h.toNat : Int)) (.int .i64 (nn.toNat : Int)) (.int .i64 (z.toNat : Int)))
      clear x0 x1 x2 x3 s0 s1 s2 s3 HX8 HX9 HB2 f0 f1 f2 f3 i0 i1 i2 i3 H4
      generalize ((((w2.setCell ⟨w.heap.size + 1, 0, none⟩ (.int .i64 (c.toNat : Int))).setCell ⟨w.heap.size + 1, 1, none⟩ (.int .i64 (h.toNat : Int))).setCell ⟨w.heap.size + 1, 2, none⟩ (.int .i64 (nn.toNat : Int))).setCell ⟨w.heap.size + 1, 3, none⟩ (.int .i64 (z.toNat : Int))) = w3 at *
      obtain ⟨⟨x0, x1, x2, x3, x4, x5, x6, x7⟩, ⟨s0, s1, s2, s3, s4, s5, s6, s7⟩⟩ := wr8 HY9.out
      have HDM0 := HDMA
      rw [(dm_yes h5).1] at HDM0
      clear HDMA
      have h3' : (z.toNat : Int) ≤ 2 := by omega
      have HDM := Hid.in_ (fun w h => HDM0.out w h)
      go_wp2_with fail
      refine (HDM.out _ (ostep (HB3.out.setCell (p := ⟨w.heap.size + 1, 5, none⟩) (Nat.le_succ _) _) HO.out)).mono ?_
      rintro e w4 ⟨rfl, hb4⟩
      have HZ9 := Hid.in_ (Wr.step hb4 (Wr.set HY9.out (i := 5) (.int .i64 4) (by simp)))
      have HZ8 := Hid.in_ (Wr.step hb4 (Wr.far HY8.out (c := w.heap.size + 1) (by omega) 5 (.int .i64 4)))
      have HB4 := Hid.in_ (bstep (HB3.out.setCell (p := ⟨w.heap.size + 1, 5, none⟩) (Nat.le_succ _) (.int .i64 4)) hb4)
      clear hb4 x0 x1 x2 x3 x4 x5 x6 x7 s0 s1 s2 s3 s4 s5 s6 s7
      obtain ⟨⟨x0, x1, x2, x3, x4, x5, x6, x7⟩, ⟨s0, s1, s2, s3, s4, s5, s6, s7⟩⟩ := wr8 (show Wr w4 (w.heap.size + 1) [.int .i64 (c.toNat : Int), .int .i64 (h.toNat : Int), .int .i64 (nn.toNat : Int), .int .i64 (z.toNat : Int), .string ⟨#[]⟩, .int .i64 4, .bool false, .int .i64 m.a] from HZ9.out)
      obtain ⟨⟨y0, y1, y2, y3, y4, y5, y6, y7⟩, ⟨t0, t1, t2, t3, t4, t5, t6, t7⟩⟩ := wr8 HZ8.out
      obtain ⟨⟨d0, d1, d2, d3, d4, d5, d6, d7⟩, _⟩ := wr8 (Wr.put8 HZ8.out (.int .i64 (c.toNat : Int)) (.int .i64 (h.toNat : Int)) (.int .i64 (nn.toNat : Int)) (.int .i64 (z.toNat : Int)) (.string ⟨#[]⟩) (.int .i64 4) (.bool false) (.int .i64 m.a))
      go_wp2
      refine bodyPost_ret ?_ rfl ⟨(ret_fnd HV.out).symm, below_put8 HB4.out (Nat.le_refl _) _ _ _ _ _ _ _ _⟩
      simp [results, Tryz.results71, go_sem, d0, d1, d2, d3, d4, d5, d6, d7]
    · subst h2
      obtain ⟨h4, f0, f1, f2, f3⟩ := H4.out
      have i0 : 0 < D.size := by omega
      have i1 : 1 < D.size := by omega
      have i2 : 2 < D.size := by omega
      have i3 : 3 < D.size := by omega
      have f0 := f0 i0
      have f1 := f1 i1
      have f2 := f2 i2
      have f3 := f3 i3
      clear h4
      go_enter Tryz.func71, Tryz.ntmps71
      go_wp2_with fail
      refine (HF.out _).mono ?_
      rintro e w2 ⟨rfl, hb2⟩
      obtain ⟨⟨x0, x1, x2, x3, x4, x5, x6, x7⟩, ⟨s0, s1, s2, s3, s4, s5, s6, s7⟩⟩ := wr8 (Wr.step hb2 HW9.out)
      have HX9 := Hid.in_ (Wr.step hb2 HW9.out)
      have HX8 := Hid.in_ (Wr.step hb2 HW8.out)
      have HB2 := Hid.in_ (bstep HB0.out hb2)
      have u0 := u8_i64 c
      have u1 := u8_i64 h
      have u2 := u8_i64 nn
      have u3 := u8_i64 z
      clear HF HW8 HW9 hb2 c0 c1 c2
      go_upto_region 9 with fail
      clear u0 u1 u2 u3 x4 x5 x6 x7 s4 s5 s6 s7
      have HY9 := Hid.in_ (Wr.put4n HX9.out (.int .i64 (c.toNat : Int)) (.int .i64 (h.toNat : Int)) (.int .i64 (nn.toNat : Int)) (.int .i64 (z.toNat : Int)))
      have HY8 := Hid.in_ (Wr.far4n HX8.out (c := w.heap.size + 1) (by omega) (.int .i64 (c.toNat : Int)) (.int .i64 (h.toNat : Int)) (.int .i64 (nn.toNat : Int)) (.int .i64 (z.toNat : Int)))
      have HB3 := Hid.in_ (below_put4n HB2.out (b := w.heap.size + 1) (by omega) (.int .i64 (c.toNat : Int)) (.int .i64 (h.toNat : Int)) (.int .i64 (nn.toNat : Int)) (.int .i64 (z.toNat : Int)))
      clear x0 x1 x2 x3 s0 s1 s2 s3 HX8 HX9 HB2 f0 f1 f2 f3 i0 i1 i2 i3 H4
      generalize ((((w2.setCell ⟨w.heap.size + 1, 0, none⟩ (.int .i64 (c.toNat : Int))).setCell ⟨w.heap.size + 1, 1, none⟩ (.int .i64 (h.toNat : Int))).setCell ⟨w.heap.size + 1, 2, none⟩ (.int .i64 (nn.toNat : Int))).setCell ⟨w.heap.size + 1, 3, none⟩ (.int .i64 (z.toNat : Int))) = w3 at *
      have hzz : (z.toNat : Int) = 0 ∨ (z.toNat : Int) = 1 ∨ (z.toNat : Int) = 2 := by omega
      clear h3
      generalize (z.toNat : Int) = Z at *
      obtain rfl | rfl | rfl := hzz
      · rw [show rsSz 0 = 8 from rfl] at h6
        try rw [show rsSz 0 = 8 from rfl] at HV
        have HF2 := Hid.in_ (fun w => spec_l09Field_no f q.k q.a s qb 8 w (by omega) (by omega) h6)
        obtain ⟨⟨x0, x1, x2, x3, x4, x5, x6, x7⟩, ⟨s0, s1, s2, s3, s4, s5, s6, s7⟩⟩ := wr8 HY9.out
        have HDM0 := HDMA
        rw [(dm_no h5).1] at HDM0
        clear HDMA
        generalize dmNext l k = nx at *
        have HDM := Hid.in_ (fun w h => HDM0.out w h)
        go_wp2_with fail
        refine (HDM.out _ (ostep (HB3.out.setCell (p := ⟨w.heap.size + 1, 5, none⟩) (Nat.le_succ _) _) HO.out)).mono ?_
        rintro e w4 ⟨rfl, hb4⟩
        have HZ9 := Hid.in_ (Wr.step hb4 (Wr.set HY9.out (i := 5) (.int .i64 4) (by simp)))
        have HZ8 := Hid.in_ (Wr.step hb4 (Wr.far HY8.out (c := w.heap.size + 1) (by omega) 5 (.int .i64 4)))
        have HB4 := Hid.in_ (bstep (HB3.out.setCell (p := ⟨w.heap.size + 1, 5, none⟩) (Nat.le_succ _) (.int .i64 4)) hb4)
        clear hb4 x0 x1 x2 x3 x4 x5 x6 x7 s0 s1 s2 s3 s4 s5 s6 s7
        obtain ⟨⟨x0, x1, x2, x3, x4, x5, x6, x7⟩, ⟨s0, s1, s2, s3, s4, s5, s6, s7⟩⟩ := wr8 (show Wr w4 (w.heap.size + 1) [.int .i64 (c.toNat : Int), .int .i64 (h.toNat : Int), .int .i64 (nn.toNat : Int), .int .i64 0, .string ⟨#[]⟩, .int .i64 4, .bool false, .int .i64 m.a] from HZ9.out)
        have HQ4 := Hid.in_ (BoxAt.step HB4.out HXq.out)
        obtain ⟨q0, q1, q2⟩ := boxAt3 HQ4.out
        go_upto_region 15 with fail
        go_region_held3 (fun w' => w'.cell? ⟨g, nx * 3, none⟩ = some (.int .i64 q.k) ∧ w'.cell? ⟨g, nx * 3 + 1, none⟩ = some (.int .i64 q.a) ∧ w'.cell? ⟨g, nx * 3 + 2, none⟩ = some (.int .i64 (qb : Int)) ∧ w'.cell? ⟨w.heap.size + 1, 3, none⟩ = some (.int .i64 0))
          (first | exact ⟨q0, q1, q2, x3⟩ | exact ⟨e0, e1, e2, e3⟩ | assumption)
          ((go_at_call 106; refine (HF2.out _).mono ?_; rintro e w6 ⟨rfl, hb6⟩; have e0 : w6.cell? ⟨g, nx * 3, none⟩ = some (.int .i64 q.k) := cstep hb6 q0; have e1 : w6.cell? ⟨g, nx * 3 + 1, none⟩ = some (.int .i64 q.a) := cstep hb6 q1; have e2 : w6.cell? ⟨g, nx * 3 + 2, none⟩ = some (.int .i64 (qb : Int)) := cstep hb6 q2; have e3 : w6.cell? ⟨w.heap.size + 1, 3, none⟩ = some (.int .i64 0) := cstep hb6 x3))
        all_goals
          have hb7 := bstep (Below.refl _ _).drew hb6
          have HU9 := Hid.in_ (Wr.step hb7 HZ9.out)
          have HU8 := Hid.in_ (Wr.step hb7 HZ8.out)
          have HB5 := Hid.in_ (bstep HB4.out hb7)
          clear hb6 hb7 x0 x1 x2 x3 x4 x5 x6 x7 s0 s1 s2 s3 s4 s5 s6 s7 q0 q1 q2 HZ8 HZ9
          obtain ⟨⟨x0, x1, x2, x3, x4, x5, x6, x7⟩, ⟨s0, s1, s2, s3, s4, s5, s6, s7⟩⟩ := wr8 (show Wr w6 (w.heap.size + 1) [.int .i64 (c.toNat : Int), .int .i64 (h.toNat : Int), .int .i64 (nn.toNat : Int), .int .i64 0, .string ⟨#[]⟩, .int .i64 4, .bool false, .int .i64 m.a] from HU9.out)
          obtain ⟨⟨y0, y1, y2, y3, y4, y5, y6, y7⟩, ⟨t0, t1, t2, t3, t4, t5, t6, t7⟩⟩ := wr8 HU8.out
          obtain ⟨⟨d0, d1, d2, d3, d4, d5, d6, d7⟩, _⟩ := wr8 (Wr.put8 HU8.out (.int .i64 (c.toNat : Int)) (.int .i64 (h.toNat : Int)) (.int .i64 (nn.toNat : Int)) (.int .i64 0) (.string ⟨#[]⟩) (.int .i64 4) (.bool false) (.int .i64 m.a))
          go_wp2
          refine bodyPost_ret ?_ rfl ⟨(ret_fnd HV.out).symm, below_put8 HB5.out (Nat.le_refl _) _ _ _ _ _ _ _ _⟩
          simp [results, Tryz.results71, go_sem, d0, d1, d2, d3, d4, d5, d6, d7]
      · rw [show rsSz 1 = 16 from rfl] at h6
        try rw [show rsSz 1 = 16 from rfl] at HV
        have HF2 := Hid.in_ (fun w => spec_l09Field_no f q.k q.a s qb 16 w (by omega) (by omega) h6)
        obtain ⟨⟨x0, x1, x2, x3, x4, x5, x6, x7⟩, ⟨s0, s1, s2, s3, s4, s5, s6, s7⟩⟩ := wr8 HY9.out
        have HDM0 := HDMA
        rw [(dm_no h5).1] at HDM0
        clear HDMA
        generalize dmNext l k = nx at *
        have HDM := Hid.in_ (fun w h => HDM0.out w h)
        go_wp2_with fail
        refine (HDM.out _ (ostep (HB3.out.setCell (p := ⟨w.heap.size + 1, 5, none⟩) (Nat.le_succ _) _) HO.out)).mono ?_
        rintro e w4 ⟨rfl, hb4⟩
        have HZ9 := Hid.in_ (Wr.step hb4 (Wr.set HY9.out (i := 5) (.int .i64 4) (by simp)))
        have HZ8 := Hid.in_ (Wr.step hb4 (Wr.far HY8.out (c := w.heap.size + 1) (by omega) 5 (.int .i64 4)))
        have HB4 := Hid.in_ (bstep (HB3.out.setCell (p := ⟨w.heap.size + 1, 5, none⟩) (Nat.le_succ _) (.int .i64 4)) hb4)
        clear hb4 x0 x1 x2 x3 x4 x5 x6 x7 s0 s1 s2 s3 s4 s5 s6 s7
        obtain ⟨⟨x0, x1, x2, x3, x4, x5, x6, x7⟩, ⟨s0, s1, s2, s3, s4, s5, s6, s7⟩⟩ := wr8 (show Wr w4 (w.heap.size + 1) [.int .i64 (c.toNat : Int), .int .i64 (h.toNat : Int), .int .i64 (nn.toNat : Int), .int .i64 1, .string ⟨#[]⟩, .int .i64 4, .bool false, .int .i64 m.a] from HZ9.out)
        have HQ4 := Hid.in_ (BoxAt.step HB4.out HXq.out)
        obtain ⟨q0, q1, q2⟩ := boxAt3 HQ4.out
        go_upto_region 15 with fail
        go_region_held3 (fun w' => w'.cell? ⟨g, nx * 3, none⟩ = some (.int .i64 q.k) ∧ w'.cell? ⟨g, nx * 3 + 1, none⟩ = some (.int .i64 q.a) ∧ w'.cell? ⟨g, nx * 3 + 2, none⟩ = some (.int .i64 (qb : Int)) ∧ w'.cell? ⟨w.heap.size + 1, 3, none⟩ = some (.int .i64 1))
          (first | exact ⟨q0, q1, q2, x3⟩ | exact ⟨e0, e1, e2, e3⟩ | assumption)
          ((go_at_call 106; refine (HF2.out _).mono ?_; rintro e w6 ⟨rfl, hb6⟩; have e0 : w6.cell? ⟨g, nx * 3, none⟩ = some (.int .i64 q.k) := cstep hb6 q0; have e1 : w6.cell? ⟨g, nx * 3 + 1, none⟩ = some (.int .i64 q.a) := cstep hb6 q1; have e2 : w6.cell? ⟨g, nx * 3 + 2, none⟩ = some (.int .i64 (qb : Int)) := cstep hb6 q2; have e3 : w6.cell? ⟨w.heap.size + 1, 3, none⟩ = some (.int .i64 1) := cstep hb6 x3))
        all_goals
          have hb7 := bstep (Below.refl _ _).drew hb6
          have HU9 := Hid.in_ (Wr.step hb7 HZ9.out)
          have HU8 := Hid.in_ (Wr.step hb7 HZ8.out)
          have HB5 := Hid.in_ (bstep HB4.out hb7)
          clear hb6 hb7 x0 x1 x2 x3 x4 x5 x6 x7 s0 s1 s2 s3 s4 s5 s6 s7 q0 q1 q2 HZ8 HZ9
          obtain ⟨⟨x0, x1, x2, x3, x4, x5, x6, x7⟩, ⟨s0, s1, s2, s3, s4, s5, s6, s7⟩⟩ := wr8 (show Wr w6 (w.heap.size + 1) [.int .i64 (c.toNat : Int), .int .i64 (h.toNat : Int), .int .i64 (nn.toNat : Int), .int .i64 1, .string ⟨#[]⟩, .int .i64 4, .bool false, .int .i64 m.a] from HU9.out)
          obtain ⟨⟨y0, y1, y2, y3, y4, y5, y6, y7⟩, ⟨t0, t1, t2, t3, t4, t5, t6, t7⟩⟩ := wr8 HU8.out
          obtain ⟨⟨d0, d1, d2, d3, d4, d5, d6, d7⟩, _⟩ := wr8 (Wr.put8 HU8.out (.int .i64 (c.toNat : Int)) (.int .i64 (h.toNat : Int)) (.int .i64 (nn.toNat : Int)) (.int .i64 1) (.string ⟨#[]⟩) (.int .i64 4) (.bool false) (.int .i64 m.a))
          go_wp2
          refine bodyPost_ret ?_ rfl ⟨(ret_fnd HV.out).symm, below_put8 HB5.out (Nat.le_refl _) _ _ _ _ _ _ _ _⟩
          simp [results, Tryz.results71, go_sem, d0, d1, d2, d3, d4, d5, d6, d7]
      · rw [show rsSz 2 = 32 from rfl] at h6
        try rw [show rsSz 2 = 32 from rfl] at HV
        have HF2 := Hid.in_ (fun w => spec_l09Field_no f q.k q.a s qb 32 w (by omega) (by omega) h6)
        obtain ⟨⟨x0, x1, x2, x3, x4, x5, x6, x7⟩, ⟨s0, s1, s2, s3, s4, s5, s6, s7⟩⟩ := wr8 HY9.out
        have HDM0 := HDMA
        rw [(dm_no h5).1] at HDM0
        clear HDMA
        generalize dmNext l k = nx at *
        have HDM := Hid.in_ (fun w h => HDM0.out w h)
        go_wp2_with fail
        refine (HDM.out _ (ostep (HB3.out.setCell (p := ⟨w.heap.size + 1, 5, none⟩) (Nat.le_succ _) _) HO.out)).mono ?_
        rintro e w4 ⟨rfl, hb4⟩
        have HZ9 := Hid.in_ (Wr.step hb4 (Wr.set HY9.out (i := 5) (.int .i64 4) (by simp)))
        have HZ8 := Hid.in_ (Wr.step hb4 (Wr.far HY8.out (c := w.heap.size + 1) (by omega) 5 (.int .i64 4)))
        have HB4 := Hid.in_ (bstep (HB3.out.setCell (p := ⟨w.heap.size + 1, 5, none⟩) (Nat.le_succ _) (.int .i64 4)) hb4)
        clear hb4 x0 x1 x2 x3 x4 x5 x6 x7 s0 s1 s2 s3 s4 s5 s6 s7
        obtain ⟨⟨x0, x1, x2, x3, x4, x5, x6, x7⟩, ⟨s0, s1, s2, s3, s4, s5, s6, s7⟩⟩ := wr8 (show Wr w4 (w.heap.size + 1) [.int .i64 (c.toNat : Int), .int .i64 (h.toNat : Int), .int .i64 (nn.toNat : Int), .int .i64 2, .string ⟨#[]⟩, .int .i64 4, .bool false, .int .i64 m.a] from HZ9.out)
        have HQ4 := Hid.in_ (BoxAt.step HB4.out HXq.out)
        obtain ⟨q0, q1, q2⟩ := boxAt3 HQ4.out
        go_upto_region 15 with fail
        go_region_held3 (fun w' => w'.cell? ⟨g, nx * 3, none⟩ = some (.int .i64 q.k) ∧ w'.cell? ⟨g, nx * 3 + 1, none⟩ = some (.int .i64 q.a) ∧ w'.cell? ⟨g, nx * 3 + 2, none⟩ = some (.int .i64 (qb : Int)) ∧ w'.cell? ⟨w.heap.size + 1, 3, none⟩ = some (.int .i64 2))
          (first | exact ⟨q0, q1, q2, x3⟩ | exact ⟨e0, e1, e2, e3⟩ | assumption)
          ((go_at_call 106; refine (HF2.out _).mono ?_; rintro e w6 ⟨rfl, hb6⟩; have e0 : w6.cell? ⟨g, nx * 3, none⟩ = some (.int .i64 q.k) := cstep hb6 q0; have e1 : w6.cell? ⟨g, nx * 3 + 1, none⟩ = some (.int .i64 q.a) := cstep hb6 q1; have e2 : w6.cell? ⟨g, nx * 3 + 2, none⟩ = some (.int .i64 (qb : Int)) := cstep hb6 q2; have e3 : w6.cell? ⟨w.heap.size + 1, 3, none⟩ = some (.int .i64 2) := cstep hb6 x3))
        all_goals
          have hb7 := bstep (Below.refl _ _).drew hb6
          have HU9 := Hid.in_ (Wr.step hb7 HZ9.out)
          have HU8 := Hid.in_ (Wr.step hb7 HZ8.out)
          have HB5 := Hid.in_ (bstep HB4.out hb7)
          clear hb6 hb7 x0 x1 x2 x3 x4 x5 x6 x7 s0 s1 s2 s3 s4 s5 s6 s7 q0 q1 q2 HZ8 HZ9
          obtain ⟨⟨x0, x1, x2, x3, x4, x5, x6, x7⟩, ⟨s0, s1, s2, s3, s4, s5, s6, s7⟩⟩ := wr8 (show Wr w6 (w.heap.size + 1) [.int .i64 (c.toNat : Int), .int .i64 (h.toNat : Int), .int .i64 (nn.toNat : Int), .int .i64 2, .string ⟨#[]⟩, .int .i64 4, .bool false, .int .i64 m.a] from HU9.out)
          obtain ⟨⟨y0, y1, y2, y3, y4, y5, y6, y7⟩, ⟨t0, t1, t2, t3, t4, t5, t6, t7⟩⟩ := wr8 HU8.out
          obtain ⟨⟨d0, d1, d2, d3, d4, d5, d6, d7⟩, _⟩ := wr8 (Wr.put8 HU8.out (.int .i64 (c.toNat : Int)) (.int .i64 (h.toNat : Int)) (.int .i64 (nn.toNat : Int)) (.int .i64 2) (.string ⟨#[]⟩) (.int .i64 4) (.bool false) (.int .i64 m.a))
          go_wp2
          refine bodyPost_ret ?_ rfl ⟨(ret_fnd HV.out).symm, below_put8 HB5.out (Nat.le_refl _) _ _ _ _ _ _ _ _⟩
          simp [results, Tryz.results71, go_sem, d0, d1, d2, d3, d4, d5, d6, d7]
    · subst h2
      obtain ⟨h4, f0, f1, f2, f3⟩ := H4.out
      have i0 : 0 < D.size := by omega
      have i1 : 1 < D.size := by omega
      have i2 : 2 < D.size := by omega
      have i3 : 3 < D.size := by omega
      have f0 := f0 i0
      have f1 := f1 i1
      have f2 := f2 i2
      have f3 := f3 i3
      clear h4
      go_enter Tryz.func71, Tryz.ntmps71
      go_wp2_with fail
      refine (HF.out _).mono ?_
      rintro e w2 ⟨rfl, hb2⟩
      obtain ⟨⟨x0, x1, x2, x3, x4, x5, x6, x7⟩, ⟨s0, s1, s2, s3, s4, s5, s6, s7⟩⟩ := wr8 (Wr.step hb2 HW9.out)
      have HX9 := Hid.in_ (Wr.step hb2 HW9.out)
      have HX8 := Hid.in_ (Wr.step hb2 HW8.out)
      have HB2 := Hid.in_ (bstep HB0.out hb2)
      have u0 := u8_i64 c
      have u1 := u8_i64 h
      have u2 := u8_i64 nn
      have u3 := u8_i64 z
      clear HF HW8 HW9 hb2 c0 c1 c2
      go_upto_region 9 with fail
      clear u0 u1 u2 u3 x4 x5 x6 x7 s4 s5 s6 s7
      have HY9 := Hid.in_ (Wr.put4n HX9.out (.int .i64 (c.toNat : Int)) (.int .i64 (h.toNat : Int)) (.int .i64 (nn.toNat : Int)) (.int .i64 (z.toNat : Int)))
      have HY8 := Hid.in_ (Wr.far4n HX8.out (c := w.heap.size + 1) (by omega) (.int .i64 (c.toNat : Int)) (.int .i64 (h.toNat : Int)) (.int .i64 (nn.toNat : Int)) (.int .i64 (z.toNat : Int)))
      have HB3 := Hid.in_ (below_put4n HB2.out (b := w.heap.size + 1) (by omega) (.int .i64 (c.toNat : Int)) (.int .i64 (h.toNat : Int)) (.int .i64 (nn.toNat : Int)) (.int .i64 (z.toNat : Int)))
      clear x0 x1 x2 x3 s0 s1 s2 s3 HX8 HX9 HB2 f0 f1 f2 f3 i0 i1 i2 i3 H4
      generalize ((((w2.setCell ⟨w.heap.size + 1, 0, none⟩ (.int .i64 (c.toNat : Int))).setCell ⟨w.heap.size + 1, 1, none⟩ (.int .i64 (h.toNat : Int))).setCell ⟨w.heap.size + 1, 2, none⟩ (.int .i64 (nn.toNat : Int))).setCell ⟨w.heap.size + 1, 3, none⟩ (.int .i64 (z.toNat : Int))) = w3 at *
      have hzz : (z.toNat : Int) = 0 ∨ (z.toNat : Int) = 1 ∨ (z.toNat : Int) = 2 := by omega
      clear h3
      generalize (z.toNat : Int) = Z at *
      obtain rfl | rfl | rfl := hzz
      · rw [show rsSz 0 = 8 from rfl] at h6
        try rw [show rsSz 0 = 8 from rfl] at HV
        have HF2 := Hid.in_ (fun w => spec_l09Field f q.k q.a s qb 8 w hf hkq HV0.out hbs2 (by omega) h6)
        generalize fldD f s qb 8 = D2 at *
        generalize fldG f q.k s qb 8 = G2 at *
        obtain ⟨⟨x0, x1, x2, x3, x4, x5, x6, x7⟩, ⟨s0, s1, s2, s3, s4, s5, s6, s7⟩⟩ := wr8 HY9.out
        have HDM0 := HDMA
        rw [(dm_no h5).1] at HDM0
        clear HDMA
        generalize dmNext l k = nx at *
        have HDM := Hid.in_ (fun w h => HDM0.out w h)
        go_wp2_with fail
        refine (HDM.out _ (ostep (HB3.out.setCell (p := ⟨w.heap.size + 1, 5, none⟩) (Nat.le_succ _) _) HO.out)).mono ?_
        rintro e w4 ⟨rfl, hb4⟩
        have HZ9 := Hid.in_ (Wr.step hb4 (Wr.set HY9.out (i := 5) (.int .i64 4) (by simp)))
        have HZ8 := Hid.in_ (Wr.step hb4 (Wr.far HY8.out (c := w.heap.size + 1) (by omega) 5 (.int .i64 4)))
        have HB4 := Hid.in_ (bstep (HB3.out.setCell (p := ⟨w.heap.size + 1, 5, none⟩) (Nat.le_succ _) (.int .i64 4)) hb4)
        clear hb4 x0 x1 x2 x3 x4 x5 x6 x7 s0 s1 s2 s3 s4 s5 s6 s7
        obtain ⟨⟨x0, x1, x2, x3, x4, x5, x6, x7⟩, ⟨s0, s1, s2, s3, s4, s5, s6, s7⟩⟩ := wr8 (show Wr w4 (w.heap.size + 1) [.int .i64 (c.toNat : Int), .int .i64 (h.toNat : Int), .int .i64 (nn.toNat : Int), .int .i64 0, .string ⟨#[]⟩, .int .i64 4, .bool false, .int .i64 m.a] from HZ9.out)
        have HQ4 := Hid.in_ (BoxAt.step HB4.out HXq.out)
        obtain ⟨q0, q1, q2⟩ := boxAt3 HQ4.out
        go_upto_region 15 with fail
        go_region_held3 (fun w' => w'.cell? ⟨g, nx * 3, none⟩ = some (.int .i64 q.k) ∧ w'.cell? ⟨g, nx * 3 + 1, none⟩ = some (.int .i64 q.a) ∧ w'.cell? ⟨g, nx * 3 + 2, none⟩ = some (.int .i64 (qb : Int)) ∧ w'.cell? ⟨w.heap.size + 1, 3, none⟩ = some (.int .i64 0))
          (first | exact ⟨q0, q1, q2, x3⟩ | exact ⟨e0, e1, e2, e3⟩ | assumption)
          ((go_at_call 106; refine (HF2.out _).mono ?_; rintro e w6 ⟨rfl, hb6⟩; have e0 : w6.cell? ⟨g, nx * 3, none⟩ = some (.int .i64 q.k) := cstep hb6 q0; have e1 : w6.cell? ⟨g, nx * 3 + 1, none⟩ = some (.int .i64 q.a) := cstep hb6 q1; have e2 : w6.cell? ⟨g, nx * 3 + 2, none⟩ = some (.int .i64 (qb : Int)) := cstep hb6 q2; have e3 : w6.cell? ⟨w.heap.size + 1, 3, none⟩ = some (.int .i64 0) := cstep hb6 x3))
        all_goals
          have hb7 := bstep (Below.refl _ _).drew hb6
          have HU9 := Hid.in_ (Wr.step hb7 HZ9.out)
          have HU8 := Hid.in_ (Wr.step hb7 HZ8.out)
          have HB5 := Hid.in_ (bstep HB4.out hb7)
          clear hb6 hb7 x0 x1 x2 x3 x4 x5 x6 x7 s0 s1 s2 s3 s4 s5 s6 s7 q0 q1 q2 HZ8 HZ9
          obtain ⟨⟨x0, x1, x2, x3, x4, x5, x6, x7⟩, ⟨s0, s1, s2, s3, s4, s5, s6, s7⟩⟩ := wr8 (show Wr w6 (w.heap.size + 1) [.int .i64 (c.toNat : Int), .int .i64 (h.toNat : Int), .int .i64 (nn.toNat : Int), .int .i64 0, .string ⟨#[]⟩, .int .i64 4, .bool false, .int .i64 m.a] from HU9.out)
          cases G2
          · rw [if_neg (by decide)] at HV
            go_upto_region 23 with fail
            have HL8 := Hid.in_ (show Wr (((w6.setCell ⟨w.heap.size + 1, 5, none⟩ (.int .i64 3)).setCell ⟨w.heap.size + 1, 4, none⟩ (.string D2)).setCell ⟨w.heap.size + 1, 6, none⟩ (.bool (q.k == 3))) w.heap.size _ from (Wr.far (Wr.far (Wr.far HU8.out (c := w.heap.size + 1) (by omega) 5 (.int .i64 3)) (c := w.heap.size + 1) (by omega) 4 (.string D2)) (c := w.heap.size + 1) (by omega) 6 (.bool (q.k == 3))))
            have HL9 := Hid.in_ (show Wr (((w6.setCell ⟨w.heap.size + 1, 5, none⟩ (.int .i64 3)).setCell ⟨w.heap.size + 1, 4, none⟩ (.string D2)).setCell ⟨w.heap.size + 1, 6, none⟩ (.bool (q.k == 3))) (w.heap.size + 1) [.int .i64 (c.toNat : Int), .int .i64 (h.toNat : Int), .int .i64 (nn.toNat : Int), .int .i64 0, .string D2, .int .i64 3, .bool (q.k == 3), .int .i64 m.a] from (((Wr.set HU9.out (i := 5) (.int .i64 3) (by simp)).set (i := 4) (.string D2) (by simp)).set (i := 6) (.bool (q.k == 3)) (by simp)))
            have HB6 := Hid.in_ (show Below w.heap.size w (((w6.setCell ⟨w.heap.size + 1, 5, none⟩ (.int .i64 3)).setCell ⟨w.heap.size + 1, 4, none⟩ (.string D2)).setCell ⟨w.heap.size + 1, 6, none⟩ (.bool (q.k == 3))) from (((HB5.out.setCell (p := ⟨w.heap.size + 1, 5, none⟩) (Nat.le_succ _) (.int .i64 3)).setCell (p := ⟨w.heap.size + 1, 4, none⟩) (Nat.le_succ _) (.string D2)).setCell (p := ⟨w.heap.size + 1, 6, none⟩) (Nat.le_succ _) (.bool (q.k == 3))))
            clear x0 x1 x2 x3 x4 x5 x6 x7 s0 s1 s2 s3 s4 s5 s6 s7 HU8 HU9 HB5
            generalize ((w6.setCell ⟨w.heap.size + 1, 5, none⟩ (.int .i64 3)).setCell ⟨w.heap.size + 1, 4, none⟩ (.string D2)).setCell ⟨w.heap.size + 1, 6, none⟩ (.bool (q.k == 3)) = w7 at *
            obtain ⟨⟨x0, x1, x2, x3, x4, x5, x6, x7⟩, _⟩ := wr8 HL9.out
            obtain ⟨⟨y0, y1, y2, y3, y4, y5, y6, y7⟩, ⟨t0, t1, t2, t3, t4, t5, t6, t7⟩⟩ := wr8 HL8.out
            obtain ⟨⟨d0, d1, d2, d3, d4, d5, d6, d7⟩, _⟩ := wr8 (Wr.put8 HL8.out (.int .i64 (c.toNat : Int)) (.int .i64 (h.toNat : Int)) (.int .i64 (nn.toNat : Int)) (.int .i64 0) (.string D2) (.int .i64 3) (.bool (q.k == 3)) (.int .i64 m.a))
            go_wp2
            refine bodyPost_ret ?_ rfl ⟨(ret_fnd HV.out).symm, below_put8 HB6.out (Nat.le_refl _) _ _ _ _ _ _ _ _⟩
            simp [results, Tryz.results71, go_sem, d0, d1, d2, d3, d4, d5, d6, d7]
          · rw [if_pos rfl] at HV
            go_upto_region 23 with fail
            have HL8 := Hid.in_ (show Wr ((((w6.setCell ⟨w.heap.size + 1, 5, none⟩ (.int .i64 3)).setCell ⟨w.heap.size + 1, 5, none⟩ (.int .i64 1)).setCell ⟨w.heap.size + 1, 4, none⟩ (.string D2)).setCell ⟨w.heap.size + 1, 6, none⟩ (.bool (q.k == 3))) w.heap.size _ from (Wr.far (Wr.far (Wr.far (Wr.far HU8.out (c := w.heap.size + 1) (by omega) 5 (.int .i64 3)) (c := w.heap.size + 1) (by omega) 5 (.int .i64 1)) (c := w.heap.size + 1) (by omega) 4 (.string D2)) (c := w.heap.size + 1) (by omega) 6 (.bool (q.k == 3))))
            have HL9 := Hid.in_ (show Wr ((((w6.setCell ⟨w.heap.size + 1, 5, none⟩ (.int .i64 3)).setCell ⟨w.heap.size + 1, 5, none⟩ (.int .i64 1)).setCell ⟨w.heap.size + 1, 4, none⟩ (.string D2)).setCell ⟨w.heap.size + 1, 6, none⟩ (.bool (q.k == 3))) (w.heap.size + 1) [.int .i64 (c.toNat : Int), .int .i64 (h.toNat : Int), .int .i64 (nn.toNat : Int), .int .i64 0, .string D2, .int .i64 1, .bool (q.k == 3), .int .i64 m.a] from ((((Wr.set HU9.out (i := 5) (.int .i64 3) (by simp)).set (i := 5) (.int .i64 1) (by simp)).set (i := 4) (.string D2) (by simp)).set (i := 6) (.bool (q.k == 3)) (by simp)))
            have HB6 := Hid.in_ (show Below w.heap.size w ((((w6.setCell ⟨w.heap.size + 1, 5, none⟩ (.int .i64 3)).setCell ⟨w.heap.size + 1, 5, none⟩ (.int .i64 1)).setCell ⟨w.heap.size + 1, 4, none⟩ (.string D2)).setCell ⟨w.heap.size + 1, 6, none⟩ (.bool (q.k == 3))) from ((((HB5.out.setCell (p := ⟨w.heap.size + 1, 5, none⟩) (Nat.le_succ _) (.int .i64 3)).setCell (p := ⟨w.heap.size + 1, 5, none⟩) (Nat.le_succ _) (.int .i64 1)).setCell (p := ⟨w.heap.size + 1, 4, none⟩) (Nat.le_succ _) (.string D2)).setCell (p := ⟨w.heap.size + 1, 6, none⟩) (Nat.le_succ _) (.bool (q.k == 3))))
            clear x0 x1 x2 x3 x4 x5 x6 x7 s0 s1 s2 s3 s4 s5 s6 s7 HU8 HU9 HB5
            generalize (((w6.setCell ⟨w.heap.size + 1, 5, none⟩ (.int .i64 3)).setCell ⟨w.heap.size + 1, 5, none⟩ (.int .i64 1)).setCell ⟨w.heap.size + 1, 4, none⟩ (.string D2)).setCell ⟨w.heap.size + 1, 6, none⟩ (.bool (q.k == 3)) = w7 at *
            obtain ⟨⟨x0, x1, x2, x3, x4, x5, x6, x7⟩, _⟩ := wr8 HL9.out
            obtain ⟨⟨y0, y1, y2, y3, y4, y5, y6, y7⟩, ⟨t0, t1, t2, t3, t4, t5, t6, t7⟩⟩ := wr8 HL8.out
            obtain ⟨⟨d0, d1, d2, d3, d4, d5, d6, d7⟩, _⟩ := wr8 (Wr.put8 HL8.out (.int .i64 (c.toNat : Int)) (.int .i64 (h.toNat : Int)) (.int .i64 (nn.toNat : Int)) (.int .i64 0) (.string D2) (.int .i64 1) (.bool (q.k == 3)) (.int .i64 m.a))
            go_wp2
            refine bodyPost_ret ?_ rfl ⟨(ret_fnd HV.out).symm, below_put8 HB6.out (Nat.le_refl _) _ _ _ _ _ _ _ _⟩
            simp [results, Tryz.results71, go_sem, d0, d1, d2, d3, d4, d5, d6, d7]
      · rw [show rsSz 1 = 16 from rfl] at h6
        try rw [show rsSz 1 = 16 from rfl] at HV
        have HF2 := Hid.in_ (fun w => spec_l09Field f q.k q.a s qb 16 w hf hkq HV0.out hbs2 (by omega) h6)
        generalize fldD f s qb 16 = D2 at *
        generalize fldG f q.k s qb 16 = G2 at *
        obtain ⟨⟨x0, x1, x2, x3, x4, x5, x6, x7⟩, ⟨s0, s1, s2, s3, s4, s5, s6, s7⟩⟩ := wr8 HY9.out
        have HDM0 := HDMA
        rw [(dm_no h5).1] at HDM0
        clear HDMA
        generalize dmNext l k = nx at *
        have HDM := Hid.in_ (fun w h => HDM0.out w h)
        go_wp2_with fail
        refine (HDM.out _ (ostep (HB3.out.setCell (p := ⟨w.heap.size + 1, 5, none⟩) (Nat.le_succ _) _) HO.out)).mono ?_
        rintro e w4 ⟨rfl, hb4⟩
        have HZ9 := Hid.in_ (Wr.step hb4 (Wr.set HY9.out (i := 5) (.int .i64 4) (by simp)))
        have HZ8 := Hid.in_ (Wr.step hb4 (Wr.far HY8.out (c := w.heap.size + 1) (by omega) 5 (.int .i64 4)))
        have HB4 := Hid.in_ (bstep (HB3.out.setCell (p := ⟨w.heap.size + 1, 5, none⟩) (Nat.le_succ _) (.int .i64 4)) hb4)
        clear hb4 x0 x1 x2 x3 x4 x5 x6 x7 s0 s1 s2 s3 s4 s5 s6 s7
        obtain ⟨⟨x0, x1, x2, x3, x4, x5, x6, x7⟩, ⟨s0, s1, s2, s3, s4, s5, s6, s7⟩⟩ := wr8 (show Wr w4 (w.heap.size + 1) [.int .i64 (c.toNat : Int), .int .i64 (h.toNat : Int), .int .i64 (nn.toNat : Int), .int .i64 1, .string ⟨#[]⟩, .int .i64 4, .bool false, .int .i64 m.a] from HZ9.out)
        have HQ4 := Hid.in_ (BoxAt.step HB4.out HXq.out)
        obtain ⟨q0, q1, q2⟩ := boxAt3 HQ4.out
        go_upto_region 15 with fail
        go_region_held3 (fun w' => w'.cell? ⟨g, nx * 3, none⟩ = some (.int .i64 q.k) ∧ w'.cell? ⟨g, nx * 3 + 1, none⟩ = some (.int .i64 q.a) ∧ w'.cell? ⟨g, nx * 3 + 2, none⟩ = some (.int .i64 (qb : Int)) ∧ w'.cell? ⟨w.heap.size + 1, 3, none⟩ = some (.int .i64 1))
          (first | exact ⟨q0, q1, q2, x3⟩ | exact ⟨e0, e1, e2, e3⟩ | assumption)
          ((go_at_call 106; refine (HF2.out _).mono ?_; rintro e w6 ⟨rfl, hb6⟩; have e0 : w6.cell? ⟨g, nx * 3, none⟩ = some (.int .i64 q.k) := cstep hb6 q0; have e1 : w6.cell? ⟨g, nx * 3 + 1, none⟩ = some (.int .i64 q.a) := cstep hb6 q1; have e2 : w6.cell? ⟨g, nx * 3 + 2, none⟩ = some (.int .i64 (qb : Int)) := cstep hb6 q2; have e3 : w6.cell? ⟨w.heap.size + 1, 3, none⟩ = some (.int .i64 1) := cstep hb6 x3))
        all_goals
          have hb7 := bstep (Below.refl _ _).drew hb6
          have HU9 := Hid.in_ (Wr.step hb7 HZ9.out)
          have HU8 := Hid.in_ (Wr.step hb7 HZ8.out)
          have HB5 := Hid.in_ (bstep HB4.out hb7)
          clear hb6 hb7 x0 x1 x2 x3 x4 x5 x6 x7 s0 s1 s2 s3 s4 s5 s6 s7 q0 q1 q2 HZ8 HZ9
          obtain ⟨⟨x0, x1, x2, x3, x4, x5, x6, x7⟩, ⟨s0, s1, s2, s3, s4, s5, s6, s7⟩⟩ := wr8 (show Wr w6 (w.heap.size + 1) [.int .i64 (c.toNat : Int), .int .i64 (h.toNat : Int), .int .i64 (nn.toNat : Int), .int .i64 1, .string ⟨#[]⟩, .int .i64 4, .bool false, .int .i64 m.a] from HU9.out)
          cases G2
          · rw [if_neg (by decide)] at HV
            go_upto_region 23 with fail
            have HL8 := Hid.in_ (show Wr (((w6.setCell ⟨w.heap.size + 1, 5, none⟩ (.int .i64 3)).setCell ⟨w.heap.size + 1, 4, none⟩ (.string D2)).setCell ⟨w.heap.size + 1, 6, none⟩ (.bool (q.k == 3))) w.heap.size _ from (Wr.far (Wr.far (Wr.far HU8.out (c := w.heap.size + 1) (by omega) 5 (.int .i64 3)) (c := w.heap.size + 1) (by omega) 4 (.string D2)) (c := w.heap.size + 1) (by omega) 6 (.bool (q.k == 3))))
            have HL9 := Hid.in_ (show Wr (((w6.setCell ⟨w.heap.size + 1, 5, none⟩ (.int .i64 3)).setCell ⟨w.heap.size + 1, 4, none⟩ (.string D2)).setCell ⟨w.heap.size + 1, 6, none⟩ (.bool (q.k == 3))) (w.heap.size + 1) [.int .i64 (c.toNat : Int), .int .i64 (h.toNat : Int), .int .i64 (nn.toNat : Int), .int .i64 1, .string D2, .int .i64 3, .bool (q.k == 3), .int .i64 m.a] from (((Wr.set HU9.out (i := 5) (.int .i64 3) (by simp)).set (i := 4) (.string D2) (by simp)).set (i := 6) (.bool (q.k == 3)) (by simp)))
            have HB6 := Hid.in_ (show Below w.heap.size w (((w6.setCell ⟨w.heap.size + 1, 5, none⟩ (.int .i64 3)).setCell ⟨w.heap.size + 1, 4, none⟩ (.string D2)).setCell ⟨w.heap.size + 1, 6, none⟩ (.bool (q.k == 3))) from (((HB5.out.setCell (p := ⟨w.heap.size + 1, 5, none⟩) (Nat.le_succ _) (.int .i64 3)).setCell (p := ⟨w.heap.size + 1, 4, none⟩) (Nat.le_succ _) (.string D2)).setCell (p := ⟨w.heap.size + 1, 6, none⟩) (Nat.le_succ _) (.bool (q.k == 3))))
            clear x0 x1 x2 x3 x4 x5 x6 x7 s0 s1 s2 s3 s4 s5 s6 s7 HU8 HU9 HB5
            generalize ((w6.setCell ⟨w.heap.size + 1, 5, none⟩ (.int .i64 3)).setCell ⟨w.heap.size + 1, 4, none⟩ (.string D2)).setCell ⟨w.heap.size + 1, 6, none⟩ (.bool (q.k == 3)) = w7 at *
            obtain ⟨⟨x0, x1, x2, x3, x4, x5, x6, x7⟩, _⟩ := wr8 HL9.out
            obtain ⟨⟨y0, y1, y2, y3, y4, y5, y6, y7⟩, ⟨t0, t1, t2, t3, t4, t5, t6, t7⟩⟩ := wr8 HL8.out
            obtain ⟨⟨d0, d1, d2, d3, d4, d5, d6, d7⟩, _⟩ := wr8 (Wr.put8 HL8.out (.int .i64 (c.toNat : Int)) (.int .i64 (h.toNat : Int)) (.int .i64 (nn.toNat : Int)) (.int .i64 1) (.string D2) (.int .i64 3) (.bool (q.k == 3)) (.int .i64 m.a))
            go_wp2
            refine bodyPost_ret ?_ rfl ⟨(ret_fnd HV.out).symm, below_put8 HB6.out (Nat.le_refl _) _ _ _ _ _ _ _ _⟩
            simp [results, Tryz.results71, go_sem, d0, d1, d2, d3, d4, d5, d6, d7]
          · rw [if_pos rfl] at HV
            go_upto_region 23 with fail
            have HL8 := Hid.in_ (show Wr ((((w6.setCell ⟨w.heap.size + 1, 5, none⟩ (.int .i64 3)).setCell ⟨w.heap.size + 1, 5, none⟩ (.int .i64 1)).setCell ⟨w.heap.size + 1, 4, none⟩ (.string D2)).setCell ⟨w.heap.size + 1, 6, none⟩ (.bool (q.k == 3))) w.heap.size _ from (Wr.far (Wr.far (Wr.far (Wr.far HU8.out (c := w.heap.size + 1) (by omega) 5 (.int .i64 3)) (c := w.heap.size + 1) (by omega) 5 (.int .i64 1)) (c := w.heap.size + 1) (by omega) 4 (.string D2)) (c := w.heap.size + 1) (by omega) 6 (.bool (q.k == 3))))
            have HL9 := Hid.in_ (show Wr ((((w6.setCell ⟨w.heap.size + 1, 5, none⟩ (.int .i64 3)).setCell ⟨w.heap.size + 1, 5, none⟩ (.int .i64 1)).setCell ⟨w.heap.size + 1, 4, none⟩ (.string D2)).setCell ⟨w.heap.size + 1, 6, none⟩ (.bool (q.k == 3))) (w.heap.size + 1) [.int .i64 (c.toNat : Int), .int .i64 (h.toNat : Int), .int .i64 (nn.toNat : Int), .int .i64 1, .string D2, .int .i64 1, .bool (q.k == 3), .int .i64 m.a] from ((((Wr.set HU9.out (i := 5) (.int .i64 3) (by simp)).set (i := 5) (.int .i64 1) (by simp)).set (i := 4) (.string D2) (by simp)).set (i := 6) (.bool (q.k == 3)) (by simp)))
            have HB6 := Hid.in_ (show Below w.heap.size w ((((w6.setCell ⟨w.heap.size + 1, 5, none⟩ (.int .i64 3)).setCell ⟨w.heap.size + 1, 5, none⟩ (.int .i64 1)).setCell ⟨w.heap.size + 1, 4, none⟩ (.string D2)).setCell ⟨w.heap.size + 1, 6, none⟩ (.bool (q.k == 3))) from ((((HB5.out.setCell (p := ⟨w.heap.size + 1, 5, none⟩) (Nat.le_succ _) (.int .i64 3)).setCell (p := ⟨w.heap.size + 1, 5, none⟩) (Nat.le_succ _) (.int .i64 1)).setCell (p := ⟨w.heap.size + 1, 4, none⟩) (Nat.le_succ _) (.string D2)).setCell (p := ⟨w.heap.size + 1, 6, none⟩) (Nat.le_succ _) (.bool (q.k == 3))))
            clear x0 x1 x2 x3 x4 x5 x6 x7 s0 s1 s2 s3 s4 s5 s6 s7 HU8 HU9 HB5
            generalize (((w6.setCell ⟨w.heap.size + 1, 5, none⟩ (.int .i64 3)).setCell ⟨w.heap.size + 1, 5, none⟩ (.int .i64 1)).setCell ⟨w.heap.size + 1, 4, none⟩ (.string D2)).setCell ⟨w.heap.size + 1, 6, none⟩ (.bool (q.k == 3)) = w7 at *
            obtain ⟨⟨x0, x1, x2, x3, x4, x5, x6, x7⟩, _⟩ := wr8 HL9.out
            obtain ⟨⟨y0, y1, y2, y3, y4, y5, y6, y7⟩, ⟨t0, t1, t2, t3, t4, t5, t6, t7⟩⟩ := wr8 HL8.out
            obtain ⟨⟨d0, d1, d2, d3, d4, d5, d6, d7⟩, _⟩ := wr8 (Wr.put8 HL8.out (.int .i64 (c.toNat : Int)) (.int .i64 (h.toNat : Int)) (.int .i64 (nn.toNat : Int)) (.int .i64 1) (.string D2) (.int .i64 1) (.bool (q.k == 3)) (.int .i64 m.a))
            go_wp2
            refine bodyPost_ret ?_ rfl ⟨(ret_fnd HV.out).symm, below_put8 HB6.out (Nat.le_refl _) _ _ _ _ _ _ _ _⟩
            simp [results, Tryz.results71, go_sem, d0, d1, d2, d3, d4, d5, d6, d7]
      · rw [show rsSz 2 = 32 from rfl] at h6
        try rw [show rsSz 2 = 32 from rfl] at HV
        have HF2 := Hid.in_ (fun w => spec_l09Field f q.k q.a s qb 32 w hf hkq HV0.out hbs2 (by omega) h6)
        generalize fldD f s qb 32 = D2 at *
        generalize fldG f q.k s qb 32 = G2 at *
        obtain ⟨⟨x0, x1, x2, x3, x4, x5, x6, x7⟩, ⟨s0, s1, s2, s3, s4, s5, s6, s7⟩⟩ := wr8 HY9.out
        have HDM0 := HDMA
        rw [(dm_no h5).1] at HDM0
        clear HDMA
        generalize dmNext l k = nx at *
        have HDM := Hid.in_ (fun w h => HDM0.out w h)
        go_wp2_with fail
        refine (HDM.out _ (ostep (HB3.out.setCell (p := ⟨w.heap.size + 1, 5, none⟩) (Nat.le_succ _) _) HO.out)).mono ?_
        rintro e w4 ⟨rfl, hb4⟩
        have HZ9 := Hid.in_ (Wr.step hb4 (Wr.set HY9.out (i := 5) (.int .i64 4) (by simp)))
        have HZ8 := Hid.in_ (Wr.step hb4 (Wr.far HY8.out (c := w.heap.size + 1) (by omega) 5 (.int .i64 4)))
        have HB4 := Hid.in_ (bstep (HB3.out.setCell (p := ⟨w.heap.size + 1, 5, none⟩) (Nat.le_succ _) (.int .i64 4)) hb4)
        clear hb4 x0 x1 x2 x3 x4 x5 x6 x7 s0 s1 s2 s3 s4 s5 s6 s7
        obtain ⟨⟨x0, x1, x2, x3, x4, x5, x6, x7⟩, ⟨s0, s1, s2, s3, s4, s5, s6, s7⟩⟩ := wr8 (show Wr w4 (w.heap.size + 1) [.int .i64 (c.toNat : Int), .int .i64 (h.toNat : Int), .int .i64 (nn.toNat : Int), .int .i64 2, .string ⟨#[]⟩, .int .i64 4, .bool false, .int .i64 m.a] from HZ9.out)
        have HQ4 := Hid.in_ (BoxAt.step HB4.out HXq.out)
        obtain ⟨q0, q1, q2⟩ := boxAt3 HQ4.out
        go_upto_region 15 with fail
        go_region_held3 (fun w' => w'.cell? ⟨g, nx * 3, none⟩ = some (.int .i64 q.k) ∧ w'.cell? ⟨g, nx * 3 + 1, none⟩ = some (.int .i64 q.a) ∧ w'.cell? ⟨g, nx * 3 + 2, none⟩ = some (.int .i64 (qb : Int)) ∧ w'.cell? ⟨w.heap.size + 1, 3, none⟩ = some (.int .i64 2))
          (first | exact ⟨q0, q1, q2, x3⟩ | exact ⟨e0, e1, e2, e3⟩ | assumption)
          ((go_at_call 106; refine (HF2.out _).mono ?_; rintro e w6 ⟨rfl, hb6⟩; have e0 : w6.cell? ⟨g, nx * 3, none⟩ = some (.int .i64 q.k) := cstep hb6 q0; have e1 : w6.cell? ⟨g, nx * 3 + 1, none⟩ = some (.int .i64 q.a) := cstep hb6 q1; have e2 : w6.cell? ⟨g, nx * 3 + 2, none⟩ = some (.int .i64 (qb : Int)) := cstep hb6 q2; have e3 : w6.cell? ⟨w.heap.size + 1, 3, none⟩ = some (.int .i64 2) := cstep hb6 x3))
        all_goals
          have hb7 := bstep (Below.refl _ _).drew hb6
          have HU9 := Hid.in_ (Wr.step hb7 HZ9.out)
          have HU8 := Hid.in_ (Wr.step hb7 HZ8.out)
          have HB5 := Hid.in_ (bstep HB4.out hb7)
          clear hb6 hb7 x0 x1 x2 x3 x4 x5 x6 x7 s0 s1 s2 s3 s4 s5 s6 s7 q0 q1 q2 HZ8 HZ9
          obtain ⟨⟨x0, x1, x2, x3, x4, x5, x6, x7⟩, ⟨s0, s1, s2, s3, s4, s5, s6, s7⟩⟩ := wr8 (show Wr w6 (w.heap.size + 1) [.int .i64 (c.toNat : Int), .int .i64 (h.toNat : Int), .int .i64 (nn.toNat : Int), .int .i64 2, .string ⟨#[]⟩, .int .i64 4, .bool false, .int .i64 m.a] from HU9.out)
          cases G2
          · rw [if_neg (by decide)] at HV
            go_upto_region 23 with fail
            have HL8 := Hid.in_ (show Wr (((w6.setCell ⟨w.heap.size + 1, 5, none⟩ (.int .i64 3)).setCell ⟨w.heap.size + 1, 4, none⟩ (.string D2)).setCell ⟨w.heap.size + 1, 6, none⟩ (.bool (q.k == 3))) w.heap.size _ from (Wr.far (Wr.far (Wr.far HU8.out (c := w.heap.size + 1) (by omega) 5 (.int .i64 3)) (c := w.heap.size + 1) (by omega) 4 (.string D2)) (c := w.heap.size + 1) (by omega) 6 (.bool (q.k == 3))))
            have HL9 := Hid.in_ (show Wr (((w6.setCell ⟨w.heap.size + 1, 5, none⟩ (.int .i64 3)).setCell ⟨w.heap.size + 1, 4, none⟩ (.string D2)).setCell ⟨w.heap.size + 1, 6, none⟩ (.bool (q.k == 3))) (w.heap.size + 1) [.int .i64 (c.toNat : Int), .int .i64 (h.toNat : Int), .int .i64 (nn.toNat : Int), .int .i64 2, .string D2, .int .i64 3, .bool (q.k == 3), .int .i64 m.a] from (((Wr.set HU9.out (i := 5) (.int .i64 3) (by simp)).set (i := 4) (.string D2) (by simp)).set (i := 6) (.bool (q.k == 3)) (by simp)))
            have HB6 := Hid.in_ (show Below w.heap.size w (((w6.setCell ⟨w.heap.size + 1, 5, none⟩ (.int .i64 3)).setCell ⟨w.heap.size + 1, 4, none⟩ (.string D2)).setCell ⟨w.heap.size + 1, 6, none⟩ (.bool (q.k == 3))) from (((HB5.out.setCell (p := ⟨w.heap.size + 1, 5, none⟩) (Nat.le_succ _) (.int .i64 3)).setCell (p := ⟨w.heap.size + 1, 4, none⟩) (Nat.le_succ _) (.string D2)).setCell (p := ⟨w.heap.size + 1, 6, none⟩) (Nat.le_succ _) (.bool (q.k == 3))))
            clear x0 x1 x2 x3 x4 x5 x6 x7 s0 s1 s2 s3 s4 s5 s6 s7 HU8 HU9 HB5
            generalize ((w6.setCell ⟨w.heap.size + 1, 5, none⟩ (.int .i64 3)).setCell ⟨w.heap.size + 1, 4, none⟩ (.string D2)).setCell ⟨w.heap.size + 1, 6, none⟩ (.bool (q.k == 3)) = w7 at *
            obtain ⟨⟨x0, x1, x2, x3, x4, x5, x6, x7⟩, _⟩ := wr8 HL9.out
            obtain ⟨⟨y0, y1, y2, y3, y4, y5, y6, y7⟩, ⟨t0, t1, t2, t3, t4, t5, t6, t7⟩⟩ := wr8 HL8.out
            obtain ⟨⟨d0, d1, d2, d3, d4, d5, d6, d7⟩, _⟩ := wr8 (Wr.put8 HL8.out (.int .i64 (c.toNat : Int)) (.int .i64 (h.toNat : Int)) (.int .i64 (nn.toNat : Int)) (.int .i64 2) (.string D2) (.int .i64 3) (.bool (q.k == 3)) (.int .i64 m.a))
            go_wp2
            refine bodyPost_ret ?_ rfl ⟨(ret_fnd HV.out).symm, below_put8 HB6.out (Nat.le_refl _) _ _ _ _ _ _ _ _⟩
            simp [results, Tryz.results71, go_sem, d0, d1, d2, d3, d4, d5, d6, d7]
          · rw [if_pos rfl] at HV
            go_upto_region 23 with fail
            have HL8 := Hid.in_ (show Wr ((((w6.setCell ⟨w.heap.size + 1, 5, none⟩ (.int .i64 3)).setCell ⟨w.heap.size + 1, 5, none⟩ (.int .i64 1)).setCell ⟨w.heap.size + 1, 4, none⟩ (.string D2)).setCell ⟨w.heap.size + 1, 6, none⟩ (.bool (q.k == 3))) w.heap.size _ from (Wr.far (Wr.far (Wr.far (Wr.far HU8.out (c := w.heap.size + 1) (by omega) 5 (.int .i64 3)) (c := w.heap.size + 1) (by omega) 5 (.int .i64 1)) (c := w.heap.size + 1) (by omega) 4 (.string D2)) (c := w.heap.size + 1) (by omega) 6 (.bool (q.k == 3))))
            have HL9 := Hid.in_ (show Wr ((((w6.setCell ⟨w.heap.size + 1, 5, none⟩ (.int .i64 3)).setCell ⟨w.heap.size + 1, 5, none⟩ (.int .i64 1)).setCell ⟨w.heap.size + 1, 4, none⟩ (.string D2)).setCell ⟨w.heap.size + 1, 6, none⟩ (.bool (q.k == 3))) (w.heap.size + 1) [.int .i64 (c.toNat : Int), .int .i64 (h.toNat : Int), .int .i64 (nn.toNat : Int), .int .i64 2, .string D2, .int .i64 1, .bool (q.k == 3), .int .i64 m.a] from ((((Wr.set HU9.out (i := 5) (.int .i64 3) (by simp)).set (i := 5) (.int .i64 1) (by simp)).set (i := 4) (.string D2) (by simp)).set (i := 6) (.bool (q.k == 3)) (by simp)))
            have HB6 := Hid.in_ (show Below w.heap.size w ((((w6.setCell ⟨w.heap.size + 1, 5, none⟩ (.int .i64 3)).setCell ⟨w.heap.size + 1, 5, none⟩ (.int .i64 1)).setCell ⟨w.heap.size + 1, 4, none⟩ (.string D2)).setCell ⟨w.heap.size + 1, 6, none⟩ (.bool (q.k == 3))) from ((((HB5.out.setCell (p := ⟨w.heap.size + 1, 5, none⟩) (Nat.le_succ _) (.int .i64 3)).setCell (p := ⟨w.heap.size + 1, 5, none⟩) (Nat.le_succ _) (.int .i64 1)).setCell (p := ⟨w.heap.size + 1, 4, none⟩) (Nat.le_succ _) (.string D2)).setCell (p := ⟨w.heap.size + 1, 6, none⟩) (Nat.le_succ _) (.bool (q.k == 3))))
            clear x0 x1 x2 x3 x4 x5 x6 x7 s0 s1 s2 s3 s4 s5 s6 s7 HU8 HU9 HB5
            generalize (((w6.setCell ⟨w.heap.size + 1, 5, none⟩ (.int .i64 3)).setCell ⟨w.heap.size + 1, 5, none⟩ (.int .i64 1)).setCell ⟨w.heap.size + 1, 4, none⟩ (.string D2)).setCell ⟨w.heap.size + 1, 6, none⟩ (.bool (q.k == 3)) = w7 at *
            obtain ⟨⟨x0, x1, x2, x3, x4, x5, x6, x7⟩, _⟩ := wr8 HL9.out
            obtain ⟨⟨y0, y1, y2, y3, y4, y5, y6, y7⟩, ⟨t0, t1, t2, t3, t4, t5, t6, t7⟩⟩ := wr8 HL8.out
            obtain ⟨⟨d0, d1, d2, d3, d4, d5, d6, d7⟩, _⟩ := wr8 (Wr.put8 HL8.out (.int .i64 (c.toNat : Int)) (.int .i64 (h.toNat : Int)) (.int .i64 (nn.toNat : Int)) (.int .i64 2) (.string D2) (.int .i64 1) (.bool (q.k == 3)) (.int .i64 m.a))
            go_wp2
            refine bodyPost_ret ?_ rfl ⟨(ret_fnd HV.out).symm, below_put8 HB6.out (Nat.le_refl _) _ _ _ _ _ _ _ _⟩
            simp [results, Tryz.results71, go_sem, d0, d1, d2, d3, d4, d5, d6, d7]
end Go.Proofs.YtlelgpknkgjaeaaGreatDoor
