/- The cells of bytes: 'fmCells', 'mfmCells' of the program, 'l05Encode' of the reference. -/
import Derived.Test.YtlelgpknkgjaeaaGreatDoorBits
import Derived.StillTailTactics
namespace Go.Proofs.YtlelgpknkgjaeaaGreatDoor
open Go.ChangeShapes Go.WideShapes Go.ChangeAt Go.RowKit
set_option linter.unusedSimpArgs false
set_option linter.unusedVariables false
set_option maxRecDepth 4000

/-- The cell of the clock: what 'mfm' says, the bit before and the bit. -/
def clk (mfm last b : Bool) : Bool := !mfm || (!last && !b)
def encL (mfm : Bool) : Bool → List Bool → List Bool
  | _, [] => []
  | last, b :: bs => clk mfm last b :: b :: encL mfm b bs
def lastOf : Bool → List Bool → Bool
  | last, [] => last
  | _, b :: bs => lastOf b bs
theorem encL_snoc (mfm : Bool) (b : Bool) : ∀ (last : Bool) (bs : List Bool), encL mfm last (bs ++ [b]) = encL mfm last bs ++ [clk mfm (lastOf last bs) b, b]
  | last, [] => rfl
  | last, c :: bs => by
    show clk mfm last c :: c :: encL mfm c (bs ++ [b]) = _
    rw [encL_snoc mfm b c bs]
    rfl
theorem lastOf_snoc (b : Bool) : ∀ (last : Bool) (bs : List Bool), lastOf last (bs ++ [b]) = b
  | last, [] => rfl
  | last, c :: bs => lastOf_snoc b c bs
theorem encL_len (mfm : Bool) : ∀ (last : Bool) (bs : List Bool), (encL mfm last bs).length = 2 * bs.length
  | last, [] => rfl
  | last, c :: bs => by
    show (encL mfm c bs).length + 1 + 1 = _
    rw [encL_len mfm c bs, List.length_cons]
    omega
def encS (mfm last : Bool) (s : ByteArray) : ByteArray := ⟨((encL mfm last (bitsN s s.size)).map chr).toArray⟩
theorem bitsS_size (s : ByteArray) : (bitsS s).size = 8 * s.size := by
  show (((bitsN s s.size).map chr).toArray).size = _
  rw [List.size_toArray, List.length_map, bitsN_len (Nat.le_refl _)]
theorem bitsS_get {s : ByteArray} {k : Nat} (h : k < (bitsS s).size) : ∃ b, (bitsN s s.size)[k]? = some b ∧ (bitsS s)[k] = chr b := by
  have hk : k < (bitsN s s.size).length := by rw [bitsN_len (Nat.le_refl _)]; rw [bitsS_size] at h; omega
  refine ⟨(bitsN s s.size)[k], List.getElem?_eq_getElem hk, ?_⟩
  show ((bitsN s s.size).map chr)[k]'(by rw [List.length_map]; exact hk) = _
  rw [List.getElem_map]
theorem ret_strX {a b : ByteArray} (h : a = b) : Ending.returned (.string a) = .returned (.string b) := by rw [h]
theorem take_next {l : List Bool} {k : Nat} {b : Bool} (h : l[k]? = some b) : l.take (k + 1) = l.take k ++ [b] := by
  have hk : k < l.length := (List.getElem?_eq_some_iff.1 h).1
  rw [List.take_succ_eq_append_getElem hk]
  rw [List.getElem?_eq_getElem hk] at h
  injection h with h
  rw [h]
theorem two_cells (a b : Bool) : [Value.int .u8 ((chr a).toNat : Int), Value.int .u8 ((chr b).toNat : Int)] = bitCells [a, b] := rfl
theorem cell_two (w : World) (x y : Value) (t : TypeId) : ∀ j u, [x, y][j]? = some u → (w.alloc (.cells #[x, y] t)).cell? ((⟨w.heap.size, 0, none⟩ : Addr).add j) = some u := fun j u hu => by
  have h := Box.new w [x, y] t j u hu
  rw [addr_add, Nat.zero_add]
  exact h
set_option maxHeartbeats 8000000 in
theorem impl_mfmCells (s : ByteArray) (last : Bool) (w : World) (hs : s.size ≤ 1048576) :
    Calls Tryz.prog 92 #[.string s, .bool last] w fun e w' => e = .returned (.string (encS true last s)) ∧ Below w.heap.size w w' := by
  obtain ⟨i0, hti, hz0, hz1, hz2⟩ := info_parts Tryz.infoByte8
  have HBI := Hid.in_ (impl_bitsOf s w hs)
  have HSZ := Hid.in_ (bitsS_size s)
  have hbs : (bitsS s).size ≤ 8388608 := by rw [bitsS_size]; omega
  have HGET := Hid.in_ (show ∀ k (h : k < (bitsS s).size), ∃ b, (bitsN s s.size)[k]? = some b ∧ (bitsS s)[k] = chr b from fun k h => bitsS_get h)
  have HLEN := Hid.in_ (bitsN_len (s := s) (Nat.le_refl _))
  have HR : Hid (encS true last s = ⟨((encL true last (bitsN s s.size)).map chr).toArray⟩) := rfl
  generalize bitsS s = B at *
  generalize bitsN s s.size = L at *
  go_enter Tryz.func92, Tryz.ntmps92
  go_wp2_with fail
  refine HBI.out.mono ?_
  rintro e w0 ⟨rfl, hb0⟩
  have HB0 := Hid.in_ hb0
  clear hb0
  go_wp2_with (at_make; refine wpList_make_own _ rfl _ _ 43 rfl w.heap.size 5 i0 (.int .u8 0) 1 Tryz.underlying43 hti hz0 hz1 .i64 .i64 _ (2 * B.size) rfl rfl (by push_cast; rfl) (by rw [hz2]; omega) (by unfold maxLen; omega) HB0.out.size ?_; intro w1 hown hgrow)
  have HO1 := Hid.in_ hown
  have HB1 := Hid.in_ (show Below w.heap.size w w1 from HB0.out.grown hgrow HB0.out.size (fun k hk => by cases hk))
  clear hown hgrow
  go_loopg [1, 6, 17] B.size (fun m la v i wr => ∃ k : Nat, k + m = B.size ∧ i = .int .i64 k ∧ la = .bool (lastOf last (L.take k)) ∧ Hid (wr.ownsRow w.heap.size 5 1 v (2 * k) (bitCells (encL true last (L.take k)))) ∧ Hid (Below w.heap.size w wr))
  case atStart => exact ⟨0, by omega, rfl, rfl, HO1.out, HB1.out⟩
  case round =>
    obtain ⟨k, hkm, rfl, rfl, HI, HB⟩ := hrel
    have HK := Hid.in_ hkm
    clear hkm
    by_cases hlt : k < B.size
    · obtain ⟨b, hb, hc⟩ := HGET.out k hlt
      have HT := Hid.in_ (take_next hb)
      have HE := Hid.in_ (encL_snoc true b last (L.take k))
      have HLS := Hid.in_ (lastOf_snoc b last (L.take k))
      clear hb
      generalize lastOf last (L.take k) = la at *
      cases b <;> cases la
      · have hc2 : B[k] = 48 := hc
        have HW := Hid.in_ (show bitCells (encL true last (L.take (k + 1))) = bitCells (encL true last (L.take k)) ++ [.int .u8 49, .int .u8 48] by rw [HT.out, HE.out, bitCells_app]; rfl)
        have HLA := Hid.in_ (show lastOf last (L.take (k + 1)) = false by rw [HT.out, HLS.out])
        clear hc HT HE HLS
        go_wp2_with (at_builtin; refine wpList_append_own _ rfl _ _ 43 rfl w.heap.size 5 i0 (.int .u8 0) 1 1 Tryz.underlying43 hti hz0 hz1 hz2 rfl (by decide) _ _ _ rfl (HI.out.alloc _) ⟨wr.heap.size, 0, none⟩ 2 2 [.int .u8 49, .int .u8 48] rfl rfl (cell_two _ _ _ _) (fun x hx => by simp at hx; rcases hx with rfl | rfl <;> rfl) (by unfold maxLen; omega) (by omega) (balloc HB.out _).size ?_; intro v4 w4 ho4 hg4 _)
        have HB4 := Hid.in_ (bgrown (balloc HB.out _) (HI.out.alloc _) (Nat.le_refl _) hg4)
        rw [← HW.out] at ho4
        have HO4 := Hid.in_ ho4
        clear ho4 hg4
        have hk := HK.out
        go_roundg (gk - 1)
        case measure => omega
        case rel => exact ⟨k + 1, by omega, by go_num, by rw [HLA.out], HO4.out, HB4.out⟩
      · have hc2 : B[k] = 48 := hc
        have HW := Hid.in_ (show bitCells (encL true last (L.take (k + 1))) = bitCells (encL true last (L.take k)) ++ [.int .u8 48, .int .u8 48] by rw [HT.out, HE.out, bitCells_app]; rfl)
        have HLA := Hid.in_ (show lastOf last (L.take (k + 1)) = false by rw [HT.out, HLS.out])
        clear hc HT HE HLS
        go_wp2_with (at_builtin; refine wpList_append_own _ rfl _ _ 43 rfl w.heap.size 5 i0 (.int .u8 0) 1 1 Tryz.underlying43 hti hz0 hz1 hz2 rfl (by decide) _ _ _ rfl (HI.out.alloc _) ⟨wr.heap.size, 0, none⟩ 2 2 [.int .u8 48, .int .u8 48] rfl rfl (cell_two _ _ _ _) (fun x hx => by simp at hx; rcases hx with rfl | rfl <;> rfl) (by unfold maxLen; omega) (by omega) (balloc HB.out _).size ?_; intro v4 w4 ho4 hg4 _)
        have HB4 := Hid.in_ (bgrown (balloc HB.out _) (HI.out.alloc _) (Nat.le_refl _) hg4)
        rw [← HW.out] at ho4
        have HO4 := Hid.in_ ho4
        clear ho4 hg4
        have hk := HK.out
        go_roundg (gk - 1)
        case measure => omega
        case rel => exact ⟨k + 1, by omega, by go_num, by rw [HLA.out], HO4.out, HB4.out⟩
      · have hc2 : B[k] = 49 := hc
        have HW := Hid.in_ (show bitCells (encL true last (L.take (k + 1))) = bitCells (encL true last (L.take k)) ++ [.int .u8 48, .int .u8 49] by rw [HT.out, HE.out, bitCells_app]; rfl)
        have HLA := Hid.in_ (show lastOf last (L.take (k + 1)) = true by rw [HT.out, HLS.out])
        clear hc HT HE HLS
        go_wp2_with (at_builtin; refine wpList_append_own _ rfl _ _ 43 rfl w.heap.size 5 i0 (.int .u8 0) 1 1 Tryz.underlying43 hti hz0 hz1 hz2 rfl (by decide) _ _ _ rfl (HI.out.alloc _) ⟨wr.heap.size, 0, none⟩ 2 2 [.int .u8 48, .int .u8 49] rfl rfl (cell_two _ _ _ _) (fun x hx => by simp at hx; rcases hx with rfl | rfl <;> rfl) (by unfold maxLen; omega) (by omega) (balloc HB.out _).size ?_; intro v4 w4 ho4 hg4 _)
        have HB4 := Hid.in_ (bgrown (balloc HB.out _) (HI.out.alloc _) (Nat.le_refl _) hg4)
        rw [← HW.out] at ho4
        have HO4 := Hid.in_ ho4
        clear ho4 hg4
        have hk := HK.out
        go_roundg (gk - 1)
        case measure => omega
        case rel => exact ⟨k + 1, by omega, by go_num, by rw [HLA.out], HO4.out, HB4.out⟩
      · have hc2 : B[k] = 49 := hc
        have HW := Hid.in_ (show bitCells (encL true last (L.take (k + 1))) = bitCells (encL true last (L.take k)) ++ [.int .u8 48, .int .u8 49] by rw [HT.out, HE.out, bitCells_app]; rfl)
        have HLA := Hid.in_ (show lastOf last (L.take (k + 1)) = true by rw [HT.out, HLS.out])
        clear hc HT HE HLS
        go_wp2_with (at_builtin; refine wpList_append_own _ rfl _ _ 43 rfl w.heap.size 5 i0 (.int .u8 0) 1 1 Tryz.underlying43 hti hz0 hz1 hz2 rfl (by decide) _ _ _ rfl (HI.out.alloc _) ⟨wr.heap.size, 0, none⟩ 2 2 [.int .u8 48, .int .u8 49] rfl rfl (cell_two _ _ _ _) (fun x hx => by simp at hx; rcases hx with rfl | rfl <;> rfl) (by unfold maxLen; omega) (by omega) (balloc HB.out _).size ?_; intro v4 w4 ho4 hg4 _)
        have HB4 := Hid.in_ (bgrown (balloc HB.out _) (HI.out.alloc _) (Nat.le_refl _) hg4)
        rw [← HW.out] at ho4
        have HO4 := Hid.in_ ho4
        clear ho4 hg4
        have hk := HK.out
        go_roundg (gk - 1)
        case measure => omega
        case rel => exact ⟨k + 1, by omega, by go_num, by rw [HLA.out], HO4.out, HB4.out⟩
    · have hk := HK.out
      obtain rfl : k = B.size := by omega
      have hle : L.length ≤ B.size := by rw [HLEN.out, HSZ.out]; omega
      have HX := HI.out
      rw [List.take_of_length_le hle] at HX
      have hcv := conv_own Tryz.underlying43 Tryz.underlying5 Tryz.underlying9 HX
      clear HX
      go_wp2
      go_ret
      exact ⟨ret_strX HR.out.symm, HB.out⟩
end Go.Proofs.YtlelgpknkgjaeaaGreatDoor
