/- 'E8Cells' of the reference's drawings: some string of cells, and a format. -/
import Derived.Test.YtlelgpknkgjaeaaGreatDoorSrcG
import Derived.Test.YtlelgpknkgjaeaaGreatDoorMarkD
namespace Go.Proofs.YtlelgpknkgjaeaaGreatDoor
open Go.ChangeShapes Go.WideShapes Go.ChangeAt Go.RowKit
set_option linter.unusedSimpArgs false
set_option linter.unusedVariables false
set_option maxRecDepth 8000

theorem w64 (n : Nat) (h : n ≤ 1000000) : Value.int .i64 (wrap64 (n : Int)) = .int .i64 (n : Int) := by
  have : wrap64 (n : Int) = (n : Int) := by unfold wrap64; omega
  rw [this]
theorem chr_bit (b : Bool) : isBit (chr b) = true := by cases b <;> rfl
theorem encS_bits (m la : Bool) (s : ByteArray) : allBits (encS m la s) = true := by
  unfold allBits encS
  rw [List.all_eq_true]
  intro x hx
  simp only [List.toList_toArray, List.mem_map] at hx
  obtain ⟨b, _, rfl⟩ := hx
  exact chr_bit b
theorem encS_size0 (m la : Bool) (s : ByteArray) : (encS m la s).size = 16 * s.size := by
  show (((encL m la (bitsN s s.size)).map chr).toArray).size = _
  rw [List.size_toArray, List.length_map, encL_len, bitsN_len (Nat.le_refl _)]
  omega
theorem mark_bits : ∀ f k : Fin 3, allBits (markCS ((f.val : Int) + 1) (markByte ((f.val : Int) + 1) ((k.val : Int) + 1)).toNat) = true ∧ (markCS ((f.val : Int) + 1) (markByte ((f.val : Int) + 1) ((k.val : Int) + 1)).toNat).size ≤ 64 ∧ 1 ≤ (markCS ((f.val : Int) + 1) (markByte ((f.val : Int) + 1) ((k.val : Int) + 1)).toNat).size := by decide +kernel
theorem mark_byte_ok : ∀ f k : Fin 3, 0 ≤ markByte ((f.val : Int) + 1) ((k.val : Int) + 1) ∧ markByte ((f.val : Int) + 1) ((k.val : Int) + 1) ≤ 255 := by decide +kernel
theorem mark_any {f k : Nat} (h1 : 1 ≤ f) (h2 : f ≤ 3) (h3 : 1 ≤ k) (h4 : k ≤ 3) : ∃ b : Nat, markByte (f : Int) (k : Int) = b ∧ b ≤ 255 ∧ allBits (markCS (f : Int) b) = true ∧ (markCS (f : Int) b).size ≤ 64 ∧ 1 ≤ (markCS (f : Int) b).size := by
  have e1 : (((⟨f - 1, by omega⟩ : Fin 3).val : Int) + 1) = (f : Int) := by show ((f - 1 : Nat) : Int) + 1 = f; omega
  have e2 : (((⟨k - 1, by omega⟩ : Fin 3).val : Int) + 1) = (k : Int) := by show ((k - 1 : Nat) : Int) + 1 = k; omega
  have hb := mark_byte_ok ⟨f - 1, by omega⟩ ⟨k - 1, by omega⟩
  have hm := mark_bits ⟨f - 1, by omega⟩ ⟨k - 1, by omega⟩
  rw [e1, e2] at hb hm
  refine ⟨(markByte (f : Int) (k : Int)).toNat, by omega, by omega, hm⟩
theorem strCells_bytes (s : ByteArray) : Lib.strCells s = Lib.byteCells s.data.toList := rfl
/-- The state of the drawing: the cells so far, and the source. -/
structure DSt (w0 wr : World) (b : Nat) (A : Option Addr) (n cap : Nat) (v : Value) (L : List UInt8) (a : Nat) : Prop where
  row : wr.ownsRow w0.heap.size 5 1 v L.length (Lib.byteCells L)
  bits : L.all isBit = true
  src : Src wr b A n cap a
  adv : AdvG b w0 wr
theorem DSt.call {w0 wr w2 : World} {b : Nat} {A : Option Addr} {n cap : Nat} {v : Value} {L : List UInt8} {a a2 : Nat} (h : DSt w0 wr b A n cap v L a) (hb : b < w0.heap.size) (k : AdvG b wr w2) (hS : Src w2 b A n cap a2) : DSt w0 w2 b A n cap v L a2 :=
  ⟨k.own h.row hb, h.bits, hS, h.adv.trans k⟩
theorem DSt.low {w0 wr w2 : World} {b : Nat} {A : Option Addr} {n cap : Nat} {v : Value} {L : List UInt8} {a : Nat} (h : DSt w0 wr b A n cap v L a) (hb : b < w0.heap.size) (k : Below wr.heap.size wr w2) : DSt w0 w2 b A n cap v L a :=
  ⟨ostep k h.row, h.bits, h.src.low k h.src.lt, h.adv.up (k.mono h.adv.size) hb⟩
theorem DSt.push {w0 wr w2 : World} {b : Nat} {A : Option Addr} {n cap : Nat} {v v2 : Value} {L M : List UInt8} {a m : Nat} (h : DSt w0 wr b A n cap v L a) (hb : b < w0.heap.size)
    (ho : w2.ownsRow w0.heap.size 5 1 v2 (L.length + m) (Lib.byteCells L ++ Lib.byteCells M)) (hg : wr.grownBy w2 v.ownBlock) (hm : M.length = m) (hM : M.all isBit = true) : DSt w0 w2 b A n cap v2 (L ++ M) a := by
  have hlow : Below w0.heap.size wr w2 := (Below.refl _ _).grown hg h.adv.size (fun k hk => (h.row.lt k hk).1)
  refine ⟨?_, by rw [List.all_append, h.bits, hM]; rfl, h.src.low hlow hb, h.adv.up hlow hb⟩
  rw [List.length_append, hm, show Lib.byteCells (L ++ M) = Lib.byteCells L ++ Lib.byteCells M from by unfold Lib.byteCells; exact List.map_append]
  exact ho
theorem spec_EncodeMfm (s : ByteArray) (la : Bool) (w : World) (hs : 16 * s.size ≤ 8000) :
    Calls Tryz.prog 87 #[.string s, .bool la] w fun e w' => e = .returned (.string (encS true la s)) ∧ Below w.heap.size w w' := by
  have hv : encV05 true la s = encS true la s := if_neg (by omega)
  have hl := spec_l05Encode s la true w (by omega)
  rw [hv] at hl
  have HL := Hid.in_ hl
  clear hl
  go_enter Tryz.func87, Tryz.ntmps87
  go_wp2_with (go_at_call 119; refine HL.out.mono ?_; rintro e w' ⟨rfl, hb⟩)
  go_ret
  exact ⟨rfl, hb⟩
set_option maxHeartbeats 16000000 in
theorem spec_l07DrawCells {A : Option Addr} {n cap b a0 : Nat} (f : Nat) (w : World) (hS : Src w b A n cap a0) (hC : CodeAt w b A n) (ha : a0 ≤ 10) (hn : n ≤ 1048576) (hf1 : 1 ≤ f) (hf2 : f ≤ 3) :
    Calls Tryz.prog 53 #[.pointer (some ⟨b, 0, none⟩), .int .i64 f] w fun e w' => ∃ l : List UInt8, e = .returned (.string ⟨l.toArray⟩) ∧ l.all isBit = true ∧ 1 ≤ l.length ∧ l.length ≤ 512 ∧ Below b w w' := by
  obtain ⟨i0, hti, hz0, hz1, hz2⟩ := info_parts Tryz.infoU8b
  have hbb := hS.lt
  have hal : Below w.heap.size w (w.alloc (.cells #[] 5)) := balloc (Below.refl _ _) _
  have HD0 := Hid.in_ (show DSt w (w.alloc (.cells #[] 5)) b A n cap (.slice (some ⟨w.heap.size, 0, none⟩) 0 0) [] a0 from ⟨World.ownsRow_lit w #[] 0 (Nat.le_refl _) (by decide) (by decide), rfl, hS.low hal hbb, (AdvG.refl b w).up hal hbb⟩)
  have HC0 := Hid.in_ (fun (wr : World) (h : AdvG b w wr) => hC.stepG h)
  have HP := Hid.in_ (src_pick 7 (w.alloc (.cells #[] 5)) HD0.out.src (HC0.out _ HD0.out.adv) (by omega) hn (by omega) (by omega))
  clear hS hC hal
  go_enter Tryz.func53, Tryz.ntmps53
  go_wp2_with fail
  refine HP.out.mono ?_
  rintro e w1 ⟨x, rfl, hx, hS1, hA1⟩
  have HD1 := Hid.in_ (HD0.out.call hbb (AdvG.of hA1) hS1)
  clear hS1 hA1 HP HD0
  obtain ⟨q, hq⟩ : ∃ q, x + 1 = q := ⟨_, rfl⟩
  have hq1 : (x : Int) + 1 = (q : Int) := by omega
  have hq7 : q ≤ 7 := by omega
  clear hx hq
  go_wp2_with fail
  go_loopg [5, 6] q (fun m v i wr => i = .int .i64 m ∧ Hid (m ≤ 7 ∧ ∃ (L : List UInt8) (a : Nat), a ≤ 11 + 30 * (7 - m) ∧ L.length ≤ 64 * (7 - m) ∧ DSt w wr b A n cap v L a))
  case atStart => exact ⟨rfl, hq7, [], a0 + 1, by omega, by simp, HD1.out⟩
  case round =>
    clear HD1
    obtain ⟨rfl, HH⟩ := hrel
    by_cases hgt : 0 < gk
    · obtain ⟨gO, rfl⟩ : ∃ g, gk = g + 1 := ⟨gk - 1, by omega⟩
      obtain ⟨h7, L, a, haL, hLL, hD⟩ := HH.out
      have HLL := Hid.in_ hLL
      have HAL := Hid.in_ (show a ≤ 191 + 0 ∧ a ≤ 11 + 30 * (7 - (gO + 1)) by omega)
      have H7 := Hid.in_ (show gO + 1 ≤ 7 from h7)
      have HP := Hid.in_ (src_pick 4 wr hD.src (HC0.out _ hD.adv) (by omega) hn (by omega) (by omega))
      have HD := Hid.in_ hD
      have hgt' : (0 : Int) < ((gO + 1 : Nat) : Int) := by omega
      have hsub : ((gO + 1 : Nat) : Int) - 1 = (gO : Int) := by omega
      clear hD hLL haL h7 HH hgt
      go_wp2_with fail
      refine HP.out.mono ?_
      rintro e w2 ⟨y, rfl, hy, hS2, hA2⟩
      have HD2 := Hid.in_ (HD.out.call hbb (AdvG.of hA2) hS2)
      clear hS2 hA2 HP HD
      have hy4 : y = 0 ∨ y = 1 ∨ y = 2 ∨ y = 3 := by omega
      clear hy
      obtain rfl | rfl | rfl | rfl := hy4
      · have HP := Hid.in_ (src_pick 3 w2 HD2.out.src (HC0.out _ HD2.out.adv) (by have := HAL.out; omega) hn (by omega) (by omega))
        go_wp2_with fail
        refine HP.out.mono ?_
        rintro e w3 ⟨z, rfl, hz, hS3, hA3⟩
        have HD3 := Hid.in_ (HD2.out.call hbb (AdvG.of hA3) hS3)
        clear hS3 hA3 HP
        obtain ⟨k, hk⟩ : ∃ k, z + 1 = k := ⟨_, rfl⟩
        have hk1 : (1 : Int) + (z : Int) = (k : Int) := by omega
        have hk3 : k ≤ 3 := by omega
        obtain ⟨bb, hb1, hb2, hmb, hms, hms1⟩ := mark_any (f := f) (k := k) hf1 hf2 (by omega) (by omega)
        have HM := Hid.in_ (fun w => spec_l07Mark (f : Int) (k : Int) bb w (inB_mk (by omega) (by omega)) (inB_mk (by omega) (by omega)) hb1 hb2)
        generalize markCS (f : Int) bb = S at *
        have HMB := Hid.in_ hmb
        have HMS := Hid.in_ hms
        clear hk hb1 hb2 hmb hms hms1 hz
        go_wp2_with fail
        refine (HM.out _).mono ?_
        rintro e w4 ⟨rfl, hb4⟩
        have HD4 := Hid.in_ (HD3.out.low hbb hb4)
        clear hb4
        go_wp2_with (at_builtin; refine Lib.wpList_append_own_string _ rfl _ _ 43 9 rfl w.heap.size 5 i0 Tryz.underlying43 Tryz.underlying9 hti hz0 hz1 hz2 _ _ _ rfl HD4.out.row S rfl ?c3 ?c4 ?c5 ?_)
        case c3 => have := HMS.out; have := HLL.out; unfold maxLen; omega
        case c4 => have := HMS.out; have := HLL.out; omega
        case c5 => exact HD4.out.adv.size
        intro v5 w5 ho5 hg5 _
        have HD5 := Hid.in_ (HD4.out.push (M := S.data.toList) (m := S.size) hbb (by rw [← strCells_bytes]; exact ho5) hg5 (by simp) HMB.out)
        clear ho5 hg5
        go_wp2_with fail
        go_roundg gO
        case measure => omega
        case rel => exact ⟨by have := H7.out; first | rfl | exact w64 _ (by omega), by have := H7.out; omega, _, _, by have := HAL.out; have := H7.out; omega, by have := HMS.out; have := HLL.out; have := H7.out; rw [List.length_append, show S.data.toList.length = S.size by simp]; omega, HD5.out⟩
      · have HP := Hid.in_ (src_pick 9 w2 HD2.out.src (HC0.out _ HD2.out.adv) (by have := HAL.out; omega) hn (by omega) (by omega))
        go_wp2_with fail
        refine HP.out.mono ?_
        rintro e w3 ⟨z, rfl, hz, hS3, hA3⟩
        have HD3 := Hid.in_ (HD2.out.call hbb (AdvG.of hA3) hS3)
        clear hS3 hA3 HP
        obtain ⟨k, hk⟩ : ∃ k, z + 8 = k := ⟨_, rfl⟩
        have hk1 : (8 : Int) + (z : Int) = (k : Int) := by omega
        have HK16 := Hid.in_ (show k ≤ 16 by omega)
        clear hk hz
        go_wp2_with fail
        go_loopg [5, 8] k (fun m v i wr => i = .int .i64 m ∧ m ≤ k ∧ Hid (∃ L' : List UInt8, L'.length + m ≤ L.length + k ∧ DSt w wr b A n cap v L' (a + 1 + 1)))
        case atStart => exact ⟨by have := HK16.out; first | rfl | exact w64 _ (by omega), Nat.le_refl _, L, by omega, HD3.out⟩
        case round =>
          obtain ⟨rfl, hmk, HI⟩ := hrel
          have HMK := Hid.in_ hmk
          clear hmk
          by_cases hg0 : 0 < gk
          · obtain ⟨gI, rfl⟩ : ∃ g, gk = g + 1 := ⟨gk - 1, by omega⟩
            obtain ⟨L', hL', hD'⟩ := HI.out
            have HD' := Hid.in_ hD'
            have HL' := Hid.in_ hL'
            have hgt2 : (0 : Int) < ((gI + 1 : Nat) : Int) := by omega
            have hsub2 : ((gI + 1 : Nat) : Int) - 1 = (gI : Int) := by omega
            clear hD' hL' hg0
            go_wp2_with (at_builtin; refine wpList_append_own _ rfl _ _ 43 rfl w.heap.size 5 i0 (.int .u8 0) 1 1 Tryz.underlying43 hti hz0 hz1 hz2 rfl (by decide) _ _ _ rfl (HD'.out.row.alloc _) ⟨wr.heap.size, 0, none⟩ 1 1 [.int .u8 49] rfl rfl (cell_one_new _ _ _) (fun x hx => by simp at hx; subst hx; rfl) (by have := HL'.out; have := HLL.out; have := HK16.out; unfold maxLen; omega) (by have := HL'.out; have := HLL.out; have := HK16.out; omega) (Nat.le_trans HD'.out.adv.size (balloc (Below.refl _ _) _).size) ?_; intro v6 w6 ho6 hg6 _)
            have HD6 := Hid.in_ ((HD'.out.low hbb (balloc (Below.refl _ _) _)).push (M := [49]) (m := 1) hbb ho6 hg6 rfl rfl)
            clear ho6 hg6
            go_roundg gI
            case measure => omega
            case rel => exact ⟨by have := HMK.out; have := HK16.out; first | rfl | exact w64 _ (by omega), by have := HMK.out; omega, _, by have := HL'.out; rw [List.length_append]; simp; omega, HD6.out⟩
          · obtain rfl : gk = 0 := by omega
            obtain ⟨L', hL', hD'⟩ := HI.out
            have HD' := Hid.in_ hD'
            have HL' := Hid.in_ hL'
            clear hD' hL' hg0
            go_wp2_with fail
            go_roundg gO
            case measure => omega
            case rel => exact ⟨by have := H7.out; first | rfl | exact w64 _ (by omega), by have := H7.out; omega, _, _, by have := HAL.out; have := H7.out; omega, by have := HL'.out; have := HLL.out; have := HK16.out; have := H7.out; omega, HD'.out⟩
      · have HP := Hid.in_ (src_word2 4 w2 HD2.out.src (HC0.out _ HD2.out.adv) (by have := HAL.out; omega) hn (by omega) (by omega))
        go_wp2_with fail
        refine HP.out.mono ?_
        rintro e w3 ⟨l, a', rfl, hl, ha', hS3, hA3⟩
        have HD3 := Hid.in_ (HD2.out.call hbb hA3 hS3)
        clear hS3 hA3 HP
        have hz : (⟨l.toArray⟩ : ByteArray).size = l.length := by show l.toArray.size = _; simp
        have hs4 : (⟨l.toArray⟩ : ByteArray).size ≤ 3 := by omega
        have HA' := Hid.in_ ha'
        clear hl hz ha'
        generalize (⟨l.toArray⟩ : ByteArray) = S0 at *
        go_wp2_with fail
        refine (spec_EncodeMfm S0 false _ (by omega)).mono ?_
        rintro e w4 ⟨rfl, hb4⟩
        have HD4 := Hid.in_ (HD3.out.low hbb hb4)
        have HMB := Hid.in_ (encS_bits true false S0)
        have HMS := Hid.in_ (show (encS true false S0).size ≤ 48 by rw [encS_size0]; omega)
        clear hb4
        generalize encS true false S0 = S at *
        go_wp2_with (at_builtin; refine Lib.wpList_append_own_string _ rfl _ _ 43 9 rfl w.heap.size 5 i0 Tryz.underlying43 Tryz.underlying9 hti hz0 hz1 hz2 _ _ _ rfl HD4.out.row S rfl ?c3 ?c4 ?c5 ?_)
        case c3 => have := HMS.out; have := HLL.out; unfold maxLen; omega
        case c4 => have := HMS.out; have := HLL.out; omega
        case c5 => exact HD4.out.adv.size
        intro v5 w5 ho5 hg5 _
        have HD5 := Hid.in_ (HD4.out.push (M := S.data.toList) (m := S.size) hbb (by rw [← strCells_bytes]; exact ho5) hg5 (by simp) HMB.out)
        clear ho5 hg5
        go_wp2_with fail
        go_roundg gO
        case measure => omega
        case rel => exact ⟨by have := H7.out; first | rfl | exact w64 _ (by omega), by have := H7.out; omega, _, _, by have := HAL.out; have := HA'.out; have := H7.out; omega, by have := HMS.out; have := HLL.out; have := H7.out; rw [List.length_append, show S.data.toList.length = S.size by simp]; omega, HD5.out⟩
      · have HP := Hid.in_ (src_pick 20 w2 HD2.out.src (HC0.out _ HD2.out.adv) (by have := HAL.out; omega) hn (by omega) (by omega))
        go_wp2_with fail
        refine HP.out.mono ?_
        rintro e w3 ⟨k, rfl, hk, hS3, hA3⟩
        have HD3 := Hid.in_ (HD2.out.call hbb (AdvG.of hA3) hS3)
        clear hS3 hA3 HP
        have HK20 := Hid.in_ hk
        clear hk
        go_wp2_with fail
        go_loopg [5, 9] k (fun m v i wr => i = .int .i64 m ∧ m ≤ k ∧ Hid (m ≤ k ∧ ∃ L' : List UInt8, L'.length + m ≤ L.length + k ∧ DSt w wr b A n cap v L' (a + 1 + 1 + (k - m))))
        case atStart => exact ⟨by have := HK20.out; first | rfl | exact w64 _ (by omega), Nat.le_refl _, Nat.le_refl _, L, by omega, by rw [Nat.sub_self]; exact HD3.out⟩
        case round =>
          obtain ⟨rfl, hmk0, HI⟩ := hrel
          have HMK := Hid.in_ hmk0
          clear hmk0
          by_cases hg0 : 0 < gk
          · obtain ⟨gI, rfl⟩ : ∃ g, gk = g + 1 := ⟨gk - 1, by omega⟩
            obtain ⟨hmk, L', hL', hD'⟩ := HI.out
            have HD' := Hid.in_ hD'
            have HL' := Hid.in_ (And.intro hL' hmk)
            have HP := Hid.in_ (src_pick 2 wr hD'.src (HC0.out _ hD'.adv) (by have := HAL.out; have := HK20.out; omega) hn (by omega) (by omega))
            have hgt2 : (0 : Int) < ((gI + 1 : Nat) : Int) := by omega
            have hsub2 : ((gI + 1 : Nat) : Int) - 1 = (gI : Int) := by omega
            clear hD' hL' hg0 hmk
            go_wp2_with fail
            refine HP.out.mono ?_
            rintro e w4 ⟨z, rfl, hz, hS4, hA4⟩
            have HD4 := Hid.in_ (HD'.out.call hbb (AdvG.of hA4) hS4)
            clear hS4 hA4 HP
            obtain ⟨c, hc⟩ : ∃ c : UInt8, c = UInt8.ofNat (48 + z) := ⟨_, rfl⟩
            have hcz : (48 : Int) + (z : Int) = (c.toNat : Int) := by rw [hc, UInt8.toNat_ofNat']; omega
            have hcw : IntKind.u8.wrap (c.toNat : Int) = (c.toNat : Int) := IntWalk.u8_in _ (by have := c.toNat_lt; omega)
            have hcb : c.toNat < 256 := c.toNat_lt
            have HCB := Hid.in_ (show ([c] : List UInt8).all isBit = true by
              obtain rfl | rfl : z = 0 ∨ z = 1 := by omega
              · subst hc; rfl
              · subst hc; rfl)
            clear hc hz
            go_wp2_with (at_builtin; refine wpList_append_own _ rfl _ _ 43 rfl w.heap.size 5 i0 (.int .u8 0) 1 1 Tryz.underlying43 hti hz0 hz1 hz2 rfl (by decide) _ _ _ rfl (HD4.out.row.alloc _) ⟨w4.heap.size, 0, none⟩ 1 1 [.int .u8 (c.toNat : Int)] rfl rfl (cell_one_new _ _ _) (fun x hx => by simp at hx; subst hx; rfl) (by have := HL'.out; have := HLL.out; have := HK20.out; unfold maxLen; omega) (by have := HL'.out; have := HLL.out; have := HK20.out; omega) (Nat.le_trans HD4.out.adv.size (balloc (Below.refl _ _) _).size) ?_; intro v6 w6 ho6 hg6 _)
            have HD6 := Hid.in_ ((HD4.out.low hbb (balloc (Below.refl _ _) _)).push (M := [c]) (m := 1) hbb ho6 hg6 rfl HCB.out)
            clear ho6 hg6
            go_roundg gI
            case measure => omega
            case rel => exact ⟨by have := HMK.out; have := HK20.out; first | rfl | exact w64 _ (by omega), by have := HMK.out; omega, by have := HL'.out; omega, L' ++ [c], by have h0 := HL'.out.1; rw [List.length_append, List.length_singleton]; omega, by have h := HD6.out; have := HL'.out; rw [show a + 1 + 1 + (k - gI) = a + 1 + 1 + (k - (gI + 1)) + 1 by omega]; exact h⟩
          · obtain rfl : gk = 0 := by omega
            obtain ⟨hmk, L', hL', hD'⟩ := HI.out
            have HD' := Hid.in_ hD'
            have HL' := Hid.in_ hL'
            clear hD' hL' hg0 hmk
            go_wp2_with fail
            go_roundg gO
            case measure => omega
            case rel => exact ⟨by have := H7.out; first | rfl | exact w64 _ (by omega), by have := H7.out; omega, _, _, by have := HAL.out; have := HK20.out; have := H7.out; omega, by have := HL'.out; have := HLL.out; have := HK20.out; have := H7.out; omega, HD'.out⟩
    · obtain rfl : gk = 0 := by omega
      obtain ⟨_, L, a, haL, hLL, hD⟩ := HH.out
      obtain ⟨NL, hNL⟩ : ∃ N, L.length = N := ⟨_, rfl⟩
      have hrow := hD.row
      rw [hNL] at hrow hLL
      obtain ⟨A', c', rfl, _, _, _⟩ := own_shape hrow
      have HD := Hid.in_ hD
      have HNL := Hid.in_ hNL
      have HROW := Hid.in_ hrow
      have HLL := Hid.in_ hLL
      clear hD hrow hLL hNL haL HH hgt
      by_cases h0 : NL = 0
      · subst h0
        have hL0 : L = [] := List.eq_nil_of_length_eq_zero HNL.out
        subst hL0
        go_wp2_with (at_builtin; refine wpList_append_own _ rfl _ _ 43 rfl w.heap.size 5 i0 (.int .u8 0) 1 1 Tryz.underlying43 hti hz0 hz1 hz2 rfl (by decide) _ _ _ rfl (HROW.out.alloc _) ⟨wr.heap.size, 0, none⟩ 1 1 [.int .u8 48] rfl rfl (cell_one_new _ _ _) (fun x hx => by simp at hx; subst hx; rfl) (by unfold maxLen; omega) (by omega) (Nat.le_trans HD.out.adv.size (balloc (Below.refl _ _) _).size) ?_; intro v6 w6 ho6 hg6 _; have HD6 := Hid.in_ ((HD.out.low hbb (balloc (Below.refl _ _) _)).push (M := [48]) (m := 1) hbb ho6 hg6 rfl rfl); have hc := conv_own (l := [48]) Tryz.underlying43 Tryz.underlying5 Tryz.underlying9 HD6.out.row; clear ho6 hg6)
        go_ret
        exact ⟨[48], rfl, rfl, by simp, by simp, HD6.out.adv.low b (Nat.le_refl _)⟩
      · have hc := conv_own Tryz.underlying43 Tryz.underlying5 Tryz.underlying9 HROW.out
        have h0' : ((NL : Int) == 0) = false := beq_eq_false_iff_ne.2 (by omega)
        go_wp2
        go_ret
        exact ⟨L, rfl, HD.out.bits, by have := HNL.out; omega, by have := HNL.out; have := HLL.out; omega, HD.out.adv.low b (Nat.le_refl _)⟩
set_option maxHeartbeats 1000000 in
theorem spec_E8Cells {A : Option Addr} {n cap : Nat} {bs : List UInt8} (w : World) (hA : ArgS w A n cap 1 (Lib.byteCells bs)) (hn : n ≤ 1048576) :
    Calls Tryz.prog 26 #[.slice A n cap] w fun e w' => ∃ (l : List UInt8) (f : Nat), e = .returned (.tuple #[.string ⟨l.toArray⟩, .int .i64 f]) ∧ l.all isBit = true ∧ 1 ≤ l.length ∧ l.length ≤ 512 ∧ 1 ≤ f ∧ f ≤ 3 ∧ Below w.heap.size w w' := by
  have hal : Below w.heap.size w (w.alloc (.cells #[.slice A n cap, .int .i64 0, .int .u64 0] 113)) := balloc (Below.refl _ _) _
  have hS : Src (w.alloc (.cells #[.slice A n cap, .int .i64 0, .int .u64 0] 113)) w.heap.size A n cap 0 := ⟨0, Wr.new w [.slice A n cap, .int .i64 0, .int .u64 0] 113⟩
  have hC : CodeAt (w.alloc (.cells #[.slice A n cap, .int .i64 0, .int .u64 0] 113)) w.heap.size A n := fun h0 => by
    obtain ⟨g, o, hg, hlt, hbx⟩ := hA.2.2.2 h0 (by decide)
    refine ⟨g, o, hg, hlt, fun k hk => ?_⟩
    have hl : bs.length = n := by have := hA.1; rw [Lib.byteCells_length] at this; omega
    refine ⟨bs[k]'(by omega), cstep hal (hbx k _ ?_)⟩
    unfold Lib.byteCells
    rw [List.getElem?_map, List.getElem?_eq_getElem (by omega)]
    rfl
  have HP := Hid.in_ (src_pick 3 _ hS hC (by omega) hn (by omega) (by omega))
  have HC := Hid.in_ hC
  have HAL := Hid.in_ hal
  clear hS hC hal hA
  go_enter Tryz.func26, Tryz.ntmps26
  go_wp2_with fail
  refine (spec_l00From w).mono ?_
  rintro e w1 ⟨rfl, rfl⟩
  go_wp2_with fail
  refine HP.out.mono ?_
  rintro e w2 ⟨x, rfl, hx, hS2, hA2⟩
  obtain ⟨f, hf⟩ : ∃ f, x + 1 = f := ⟨_, rfl⟩
  have hf1 : (1 : Int) + (x : Int) = (f : Int) := by omega
  have hf3 : f ≤ 3 := by omega
  have HF := Hid.in_ (show 1 ≤ f ∧ f ≤ 3 by omega)
  have HB2 := Hid.in_ (HAL.out.trans (hA2.low _ (Nat.le_refl _)))
  have HD := Hid.in_ (spec_l07DrawCells f w2 hS2 (HC.out.stepG (AdvG.of hA2)) (by omega) hn (by omega) (by omega))
  clear hS2 hA2 hf hx
  go_wp2_with fail
  refine HD.out.mono ?_
  rintro e w3 ⟨l, rfl, hl1, hl2, hl3, hb3⟩
  have HB3 := Hid.in_ (HB2.out.trans hb3)
  have HL := Hid.in_ (And.intro hl1 (And.intro hl2 hl3))
  clear hb3 hl1 hl2 hl3
  go_wp2
  go_ret2
  exact ⟨l, f, rfl, HL.out.1, HL.out.2.1, HL.out.2.2, HF.out.1, HF.out.2, HB3.out⟩
end Go.Proofs.YtlelgpknkgjaeaaGreatDoor
