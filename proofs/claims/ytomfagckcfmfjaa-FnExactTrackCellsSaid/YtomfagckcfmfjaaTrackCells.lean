/- 'TrackCells' of the program and of the reference: the number of cells of a track. -/
import Derived.Test.YtomfagckcfmfjaaVTrack
import Derived.Test.YtomfagckcfmfjaaMark
namespace Go.Proofs.Ytomfagckcfmfjaa
open Go.ChangeShapes Go.WideShapes Go.ChangeAt Go.RowKit
set_option linter.unusedVariables false
set_option linter.unusedSimpArgs false
set_option maxRecDepth 4000

theorem sectorLen_le {f s : Int} (h : inB f 1 3 = true) (h' : inB s 0 2 = true) : 0 ≤ sectorLen f s ∧ sectorLen f s ≤ 2000 := by
  obtain rfl | rfl | rfl := three h <;> obtain rfl | rfl | rfl := three0 h' <;> decide +kernel
theorem byteCells_le (f : Int) : 0 ≤ byteCells f ∧ byteCells f ≤ 16 := by unfold byteCells; split <;> decide
def sumTo (f : Int) (l : List SecR) (k : Nat) : Int := ((l.take k).map fun r => sectorLen f r.s).sum
theorem sumTo_next {f : Int} {l : List SecR} {k : Nat} {m : SecR} (h : l[k]? = some m) : sumTo f l (k + 1) = sumTo f l k + sectorLen f m.s := by
  unfold sumTo
  rw [take_snoc l k m h]
  simp
def totalCells (f g : Int) (l : List SecR) (k : Nat) : Int := ((l.length : Int) + 1) * g * byteCells f + sumTo f l k
theorem totalCells_next {f g : Int} {l : List SecR} {k : Nat} {m : SecR} (h : l[k]? = some m) : totalCells f g l (k + 1) = totalCells f g l k + sectorLen f m.s := by
  unfold totalCells
  rw [sumTo_next h]
  omega
def trackTotal (f g : Int) (l : List SecR) : Int := if validTrack f g l = true then totalCells f g l l.length else 0
/-- What the program has counted after 'k' sectors. -/
def upTo (f g : Int) (l : List SecR) (k : Nat) : Int := ((k : Int) + 1) * (g * byteCells f) + sumTo f l k
theorem upTo_next {f g : Int} {l : List SecR} {k : Nat} {m : SecR} (h : l[k]? = some m) : upTo f g l (k + 1) = upTo f g l k + (g * byteCells f + sectorLen f m.s) := by
  unfold upTo
  rw [sumTo_next h]
  generalize g * byteCells f = x
  have : ((k + 1 : Nat) : Int) + 1 = (k + 1 : Int) + 1 := by omega
  rw [this, Int.add_mul (k + 1 : Int)]
  omega
theorem upTo_all (f g : Int) (l : List SecR) : upTo f g l l.length = totalCells f g l l.length := by
  unfold upTo totalCells
  rw [Int.mul_assoc]
theorem valid_sizes {f g : Int} {l : List SecR} (h : validTrack f g l = true) : inB f 1 3 = true ∧ inB g 1 20 = true ∧ l.length ≤ 8 ∧ ∀ r ∈ l, inB r.s 0 2 = true := by
  unfold validTrack at h
  simp only [Bool.and_eq_true, decide_eq_true_eq, List.all_eq_true] at h
  refine ⟨h.1, h.2.1, h.2.2.1, fun r hr => ?_⟩
  have := h.2.2.2 r hr
  unfold okSec validSector at this
  simp only [Bool.and_eq_true] at this
  exact this.1.2
theorem mul_le_pair {a b A B : Int} (ha : 0 ≤ a) (hb : 0 ≤ b) (hA : a ≤ A) (hB : b ≤ B) (h0 : 0 ≤ A) : 0 ≤ a * b ∧ a * b ≤ A * B :=
  ⟨Int.mul_nonneg ha hb, Int.mul_le_mul hA hB hb h0⟩
theorem inB_le {x a b : Int} (h : inB x a b = true) : a ≤ x ∧ x ≤ b := by
  unfold inB at h
  simp at h
  exact h
set_option maxHeartbeats 2000000 in
theorem impl_trackCells (f g : Int) {v : Value} {n b0 : Nat} {l : List SecR} (w : World) (h : w.ownsRow b0 52 8 v n (l.flatMap SecR.cells)) (hv : validTrack f g l = true) :
    Calls Try.prog 103 #[.agg #[.int .i64 f, .int .i64 g, v]] w fun e w' => e = .returned (.int .i64 (totalCells f g l l.length)) ∧ Below w.heap.size w w' := by
  obtain ⟨A, c, rfl, hl, hn, hA⟩ := own_shape h
  have HL : Hid (l.length = n) := by rw [flat_len SecR.len] at hl; unfold Hid; omega
  have H1 := Hid.in_ hA
  obtain ⟨hf, hg, hlen, hs⟩ := valid_sizes hv
  rw [HL.out] at hlen
  have HF := Hid.in_ hf
  have HS := Hid.in_ hs
  have hg2 := inB_le hg
  have hbc := byteCells_le f
  obtain ⟨hm0, hm1⟩ : 0 ≤ g * byteCells f ∧ g * byteCells f ≤ 320 := mul_le_pair (a := g) (b := byteCells f) (A := 20) (B := 16) (by omega) hbc.1 hg2.2 hbc.2 (by omega)
  clear hA hl h hv hs hg hbc hf
  have HB0 := Hid.in_ (balloc (Below.refl w.heap.size w) (.cells #[.int .i64 f, .int .i64 g, .slice A n c] 35))
  have HT0 := Hid.in_ (TrkAt.fresh (t := 35) (f := f) (g := g) (v := .slice A n c) w)
  go_enter Try.func103, Try.ntmps103
  go_wp2
  generalize w.alloc (.cells #[.int .i64 f, .int .i64 g, .slice A n c] 35) = w0 at *
  obtain ⟨t0, t1, t2⟩ := HT0.out
  go_quiet ((go_at_call 123; first | exact quiet_left (impl_byteCells _ _) | exact quiet_add_left (impl_byteCells _ _)))
  have HBq := Hid.in_ (below_drewN HB0.out nq)
  have HTq := Hid.in_ (HT0.out.step (below_drewN (Below.refl _ _) nq))
  generalize w0.drewN nq = w1 at *
  obtain ⟨bx, hbx⟩ : ∃ x, x = g * byteCells f := ⟨_, rfl⟩
  rw [← hbx] at hm0 hm1 ⊢
  have HX := Hid.in_ hbx
  clear hbx t0 t1 t2
  obtain ⟨t0, t1, t2⟩ := HTq.out
  go_wp2
  go_loopg [4, 17] n (fun m s i wr => ∃ (k : Nat) (t : Int), k + m = n ∧ i = .int .i64 k ∧ s = .int .i64 t ∧ 0 ≤ t ∧ t ≤ 320 + 2320 * k ∧ Hid (t = upTo f g l k) ∧ Hid (Below w.heap.size w wr ∧ Below w1.heap.size w1 wr))
  case atStart => exact ⟨0, bx, by omega, rfl, rfl, by omega, by omega, by rw [HX.out]; show _ = upTo f g l 0; unfold upTo sumTo; simp, HBq.out, Below.refl _ _⟩
  case round =>
    obtain ⟨k, t, hkm, rfl, rfl, ht0, ht1, HU, HB⟩ := hrel
    have HK := Hid.in_ hkm
    clear hkm t0 t1 t2
    obtain ⟨s0, s1, s2⟩ := HTq.out.step HB.out.2
    by_cases hlt : k < n
    · obtain ⟨g1, rfl, _, hg1, hx1, _⟩ := H1.out (by omega)
      obtain ⟨m, hm⟩ := get_lt l k (by rw [HL.out]; exact hlt)
      obtain ⟨x0, x1, x2, x3, x4, x5, x6, x7⟩ := boxAt8 ((Box.elem SecR.len hx1 hm).step HB.out.1)
      have HS2 := Hid.in_ (HS.out m (List.mem_of_getElem? hm))
      have hlen2 := sectorLen_le HF.out HS2.out
      have HN := Hid.in_ (upTo_next (f := f) (g := g) hm)
      clear hx1 hm
      have hal := (Below.refl wr.heap.size wr).alloc (Nat.le_refl _) (.cells #[.int .i64 m.c, .int .i64 m.h, .int .i64 m.n, .int .i64 m.s, .string m.d, .bool m.x, .bool m.y, .bool m.z] 52)
      have q0 := cstep hal s0
      have HBa := Hid.in_ (hal.mono (Nat.le_refl _))
      clear hal
      go_wp2_with (go_at_call 124; refine (impl_sectorCells _ _ _ HF.out HS2.out).mono ?_; rintro e w' ⟨rfl, rfl⟩)
      have hk := HK.out
      go_roundg (gk - 1)
      case measure => omega
      case rel => exact ⟨k + 1, _, by omega, by go_num, rfl, by omega, by push_cast; omega, by rw [HN.out, ← HU.out, HX.out]; exact rfl, balloc HB.out.1 _, balloc HB.out.2 _⟩
    · have hk := HK.out
      obtain rfl : k = n := by omega
      go_wp2
      go_ret
      exact ⟨ret_int (by rw [HU.out, ← HL.out, upTo_all]), HB.out.1⟩
set_option maxHeartbeats 2000000 in
theorem spec_l08Total (b : Nat) (f g : Int) {v : Value} {n b0 : Nat} {l : List SecR} (w : World) (hT : TrkAt w b f g v) (h : w.ownsRow b0 52 8 v n (l.flatMap SecR.cells)) (hv : validTrack f g l = true) :
    Calls Try.prog 102 #[.pointer (some ⟨b, 0, none⟩)] w fun e w' => e = .returned (.int .i64 (totalCells f g l l.length)) ∧ Below w.heap.size w w' := by
  obtain ⟨A, c, rfl, hl, hn, hA⟩ := own_shape h
  have HL : Hid (l.length = n) := by rw [flat_len SecR.len] at hl; unfold Hid; omega
  have H1 := Hid.in_ hA
  obtain ⟨hf, hg, hlen, hs⟩ := valid_sizes hv
  rw [HL.out] at hlen
  have HF := Hid.in_ hf
  have HS := Hid.in_ hs
  have HT := Hid.in_ hT
  have hg2 := inB_le hg
  have hbc := byteCells_le f
  obtain ⟨hm0, hm1⟩ : 0 ≤ ((n : Int) + 1) * g ∧ ((n : Int) + 1) * g ≤ 180 := mul_le_pair (a := (n : Int) + 1) (b := g) (A := 9) (B := 20) (by omega) (by omega) (by omega) (by omega) (by omega)
  obtain ⟨hm2, hm3⟩ : 0 ≤ ((n : Int) + 1) * g * byteCells f ∧ ((n : Int) + 1) * g * byteCells f ≤ 2880 := mul_le_pair (a := ((n : Int) + 1) * g) (b := byteCells f) (A := 180) (B := 16) hm0 hbc.1 hm1 hbc.2 (by omega)
  have HZ : Hid (((n : Int) + 1) * g * byteCells f = totalCells f g l 0) := by unfold Hid totalCells sumTo; rw [HL.out]; simp
  clear hA hl h hv hs hg hbc hf hT
  obtain ⟨t0, t1, t2⟩ := HT.out
  go_enter Try.func102, Try.ntmps102
  go_wp2_with fail
  go_quiet ((go_at_call 121; first | exact quiet_left (spec_l08Cell _ _) | exact quiet_add_left (spec_l08Cell _ _)))
  have HTq := Hid.in_ (HT.out.step (below_drewN (Below.refl _ _) nq))
  have HBq := Hid.in_ (below_drewN (Below.refl w.heap.size w) nq)
  generalize w.drewN nq = w1 at *
  obtain ⟨bx, hbx⟩ : ∃ x, x = ((n : Int) + 1) * g * byteCells f := ⟨_, rfl⟩
  rw [← hbx] at hm2 hm3 HZ ⊢
  clear hbx t0 t1 t2 hm0 hm1
  go_wp2
  go_loopg [3, 4] n (fun m s i wr => ∃ (k : Nat) (t : Int), k + m = n ∧ i = .int .i64 k ∧ s = .int .i64 t ∧ 0 ≤ t ∧ t ≤ 2880 + 2000 * k ∧ Hid (t = totalCells f g l k) ∧ Hid (Below w.heap.size w wr ∧ Below w1.heap.size w1 wr))
  case atStart => exact ⟨0, bx, by omega, rfl, rfl, by omega, by omega, HZ.out, HBq.out, Below.refl _ _⟩
  case round =>
    obtain ⟨k, t, hkm, rfl, rfl, ht0, ht1, HU, HB⟩ := hrel
    have HK := Hid.in_ hkm
    clear hkm
    obtain ⟨s0, s1, s2⟩ := HTq.out.step HB.out.2
    by_cases hlt : k < n
    · obtain ⟨g1, rfl, _, hg1, hx1, _⟩ := H1.out (by omega)
      obtain ⟨m, hm⟩ := get_lt l k (by rw [HL.out]; exact hlt)
      obtain ⟨x0, x1, x2, x3, x4, x5, x6, x7⟩ := boxAt8 ((Box.elem SecR.len hx1 hm).step HB.out.1)
      have HS2 := Hid.in_ (HS.out m (List.mem_of_getElem? hm))
      have hlen2 := sectorLen_le HF.out HS2.out
      have HN := Hid.in_ (totalCells_next (f := f) (g := g) hm)
      clear hx1 hm
      go_wp2_with fail
      go_quiet ((go_at_call 122; first | exact quiet_left (spec_l08Cells _ _ _ HF.out HS2.out) | exact quiet_add_left (spec_l08Cells _ _ _ HF.out HS2.out)))
      go_wp2
      have hk := HK.out
      go_roundg (gk - 1)
      case measure => omega
      case rel => exact ⟨k + 1, _, by omega, by go_num, rfl, by omega, by push_cast; omega, by rw [HN.out, ← HU.out]; exact rfl, below_drewN HB.out.1 _, below_drewN HB.out.2 _⟩
    · have hk := HK.out
      obtain rfl : k = n := by omega
      go_wp2
      go_ret
      exact ⟨ret_int (by rw [HU.out, ← HL.out]), HB.out.1⟩
theorem impl_TrackCells (f g : Int) {v : Value} {n b0 : Nat} {l : List SecR} (w : World) (h : w.ownsRow b0 52 8 v n (l.flatMap SecR.cells)) (hd : ∀ x ∈ l, x.d.size ≤ 1048576) :
    Calls Try.prog 55 #[.agg #[.int .i64 f, .int .i64 g, v]] w fun e w' => e = .returned (.int .i64 (trackTotal f g l)) ∧ Below w.heap.size w w' := by
  have HO := Hid.in_ h
  have HD := Hid.in_ hd
  obtain ⟨A, c, rfl, _, _, _⟩ := own_shape h
  clear h hd
  have HB0 := Hid.in_ (balloc (Below.refl w.heap.size w) (.cells #[.int .i64 f, .int .i64 g, .slice A n c] 35))
  have HT := Hid.in_ (TrkAt.fresh (t := 35) (f := f) (g := g) (v := .slice A n c) w)
  obtain ⟨t0, t1, t2⟩ := HT.out
  go_enter Try.func55, Try.ntmps55
  go_wp2_with fail
  generalize w.alloc (.cells #[.int .i64 f, .int .i64 g, .slice A n c] 35) = w0 at *
  refine (impl_ValidTrackSpec _ _ _ (ostep HB0.out HO.out) HD.out).mono ?_
  rintro e w1 ⟨rfl, hb1⟩
  have HB := Hid.in_ (bstep HB0.out hb1)
  have HT1 := Hid.in_ (HT.out.step hb1)
  clear hb1 t0 t1 t2
  cases hv : validTrack f g l
  · have HV := Hid.in_ (show trackTotal f g l = 0 by unfold trackTotal; rw [hv]; rfl)
    clear hv
    go_wp2
    go_ret
    exact ⟨ret_int HV.out.symm, HB.out⟩
  · have HV := Hid.in_ (show trackTotal f g l = totalCells f g l l.length by unfold trackTotal; rw [hv]; rfl)
    have HVV := Hid.in_ hv
    clear hv
    obtain ⟨t0, t1, t2⟩ := HT1.out
    go_wp2_with fail
    refine (impl_trackCells _ _ _ (ostep HB.out HO.out) HVV.out).mono ?_
    rintro e w2 ⟨rfl, hb2⟩
    have HB2 := Hid.in_ (bstep HB.out hb2)
    clear hb2
    go_wp2
    go_ret
    exact ⟨ret_int HV.out.symm, HB2.out⟩
theorem spec_TrackCells (f g : Int) {v : Value} {n b0 : Nat} {l : List SecR} (w : World) (h : w.ownsRow b0 52 8 v n (l.flatMap SecR.cells)) (hd : ∀ x ∈ l, x.d.size ≤ 1048576) :
    Calls Try.prog 54 #[.agg #[.int .i64 f, .int .i64 g, v]] w fun e w' => e = .returned (.int .i64 (trackTotal f g l)) ∧ Below w.heap.size w w' := by
  have HO := Hid.in_ h
  have HD := Hid.in_ hd
  obtain ⟨A, c, rfl, _, _, _⟩ := own_shape h
  clear h hd
  have HB0 := Hid.in_ (balloc (Below.refl w.heap.size w) (.cells #[.int .i64 f, .int .i64 g, .slice A n c] 35))
  have HT := Hid.in_ (TrkAt.fresh (t := 35) (f := f) (g := g) (v := .slice A n c) w)
  go_enter Try.func54, Try.ntmps54
  go_wp2_with fail
  generalize w.alloc (.cells #[.int .i64 f, .int .i64 g, .slice A n c] 35) = w0 at *
  refine (spec_l08Parts _ _ _ _ HT.out (ostep HB0.out HO.out) HD.out).mono ?_
  rintro e w1 ⟨rfl, hb1⟩
  have HB := Hid.in_ (bstep HB0.out hb1)
  have HT1 := Hid.in_ (HT.out.step hb1)
  clear hb1
  cases hv : validTrack f g l
  · have HV := Hid.in_ (show trackTotal f g l = 0 by unfold trackTotal; rw [hv]; rfl)
    clear hv
    go_wp2
    go_ret
    exact ⟨ret_int HV.out.symm, HB.out⟩
  · have HV := Hid.in_ (show trackTotal f g l = totalCells f g l l.length by unfold trackTotal; rw [hv]; rfl)
    have HVV := Hid.in_ hv
    clear hv
    go_wp2_with fail
    refine (spec_l08Total _ _ _ _ HT1.out (ostep HB.out HO.out) HVV.out).mono ?_
    rintro e w2 ⟨rfl, hb2⟩
    have HB2 := Hid.in_ (bstep HB.out hb2)
    clear hb2
    go_wp2
    go_ret
    exact ⟨ret_int HV.out.symm, HB2.out⟩
end Go.Proofs.Ytomfagckcfmfjaa
