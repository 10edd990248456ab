/- 'FindPattern' of the program and of the reference: where a pattern begins on a circular track. -/
import Derived.Shelf.Strings.Prefix
import Derived.Test.YtlelgpknkgjaeaaGreatDoorSlice
import Derived.Test.YtlelgpknkgjaeaaGreatDoorPlaces
namespace Go.Proofs.YtlelgpknkgjaeaaGreatDoor
open Go.ChangeShapes Go.WideShapes Go.ChangeAt Go.RowKit
set_option linter.unusedSimpArgs false
set_option linter.unusedVariables false
set_option maxRecDepth 4000

theorem Tryz.infoI64f : (Tryz.prog.info? 2).map (fun i => (i.zero, i.size, i.bytes)) = some (some (.int .i64 0), 1, 8) := by kernel_rfl
def fitsB (s p : ByteArray) (k : Nat) : Bool := decide (sliceL s.data.toList k p.size = p.data.toList)
theorem byteAt_get {s : ByteArray} {k : Nat} (h : k < s.size) : s.data.toList[k]? = some (byteAt s k) := by
  unfold byteAt
  rw [List.getD_eq_getElem?_getD, List.getElem?_eq_getElem (by rw [len_data]; exact h)]
  rfl
theorem sliceL_get {s : ByteArray} {a n i : Nat} (h : i < n) : (sliceL s.data.toList a n)[i]? = some (byteAt s ((a + i) % s.size)) := by
  unfold sliceL byteAt
  rw [List.getElem?_map, List.getElem?_range h, len_data]
  rfl
theorem fits_no {s p : ByteArray} {a k : Nat} (hk : k < p.size) (h : byteAt s ((a + k) % s.size) ≠ byteAt p k) : fitsB s p a = false := by
  refine decide_eq_false fun e => h ?_
  have h1 := sliceL_get (s := s) (a := a) hk
  rw [e, byteAt_get hk] at h1
  exact (Option.some.inj h1).symm
theorem fits_yes {s p : ByteArray} {a : Nat} (h : ∀ k, k < p.size → byteAt s ((a + k) % s.size) = byteAt p k) : fitsB s p a = true := by
  refine decide_eq_true (List.ext_getElem? fun k => ?_)
  by_cases hk : k < p.size
  · rw [sliceL_get hk, byteAt_get hk, h k hk]
  · rw [List.getElem?_eq_none (by rw [sliceL_len]; omega), List.getElem?_eq_none (by rw [len_data]; omega)]
theorem twice_list {L : List UInt8} {i p : Nat} (hi : i < L.length) (hp : p ≤ L.length) : ((L ++ L).drop i).take p = sliceL L i p := by
  by_cases h : i + p ≤ L.length
  · rw [← sliceL_one h, List.drop_append_of_le_length (by omega), List.take_append_of_le_length (by rw [List.length_drop]; omega)]
  · rw [← sliceL_two hi hp (by omega), List.drop_append_of_le_length (by omega), List.take_append, List.take_of_length_le (by rw [List.length_drop]; omega), List.length_drop]
    congr 2
    omega
theorem fits_twice {s p : ByteArray} {i : Nat} (hi : i < s.size) (hp : p.size ≤ s.size) : Lib.hasPrefix ((s ++ s).extract i (s ++ s).size).data.toList p.data.toList = fitsB s p i := by
  have hE : ((s ++ s).extract i (s ++ s).size).data.toList = (s.data.toList ++ s.data.toList).drop i := by
    rw [extract_list, ByteArray.data_append, Array.toList_append, List.take_of_length_le]
    rw [List.length_drop, List.length_append, len_data, ByteArray.size_append]
    omega
  have hT := twice_list (L := s.data.toList) (i := i) (p := p.size) (by rw [len_data]; exact hi) (by rw [len_data]; exact hp)
  rw [hE]
  unfold Lib.hasPrefix fitsB
  rw [← hT]
  rw [Bool.eq_iff_iff, List.isPrefixOf_iff_prefix, List.prefix_iff_eq_take, len_data, decide_eq_true_eq]
  exact eq_comm
theorem byte_cases (c d : UInt8) : (c = d) ∨ (((c.toNat : Int) != (d.toNat : Int)) = true ∧ c ≠ d) := by
  by_cases h : c = d
  · exact .inl h
  · exact .inr ⟨bne_iff_ne.2 fun e => h (UInt8.toNat_inj.1 (by omega)), h⟩
set_option maxHeartbeats 1000000 in
theorem spec_l07Fits (s p : ByteArray) (a : Nat) (w : World) (h0 : 0 < s.size) (hs : s.size ≤ 1048576) (hp : p.size ≤ 1048576) (ha : a ≤ 1048576) :
    Calls Tryz.prog 65 #[.string s, .string p, .int .i64 a] w fun e w' => e = .returned (.bool (fitsB s p a)) ∧ Below w.heap.size w w' := by
  go_enter Tryz.func65, Tryz.ntmps65
  go_wp2_with fail
  go_loopg [7] p.size (fun m i wr => ∃ k : Nat, k + m = p.size ∧ i = .int .i64 k ∧ Hid (∀ j, j < k → byteAt s ((a + j) % s.size) = byteAt p j) ∧ Hid (Below w.heap.size w wr))
  case atStart => exact ⟨0, by omega, rfl, fun j hj => by omega, Below.refl _ _⟩
  case round =>
    obtain ⟨k, hkm, rfl, HA, HB⟩ := hrel
    have HK := Hid.in_ hkm
    clear hkm
    by_cases hlt : k < p.size
    · have HC := Hid.in_ (fun w => spec_l07At s (a + k) w h0 hs (by omega))
      have HP := Hid.in_ (byteAt_eq hlt)
      have HNO := Hid.in_ (fits_no (s := s) (p := p) (a := a) hlt)
      have HYES := Hid.in_ (show byteAt s ((a + k) % s.size) = byteAt p k → ∀ j, j < k + 1 → byteAt s ((a + j) % s.size) = byteAt p j from fun e j hj => by
        rcases Nat.lt_or_ge j k with h | h
        · exact HA.out j h
        · obtain rfl : j = k := by omega
          exact e)
      obtain ⟨d, hd⟩ : ∃ d : UInt8, p[k] = d := ⟨_, rfl⟩
      have HD := Hid.in_ (HP.out.trans hd)
      obtain ⟨c, hc⟩ : ∃ c, byteAt s ((a + k) % s.size) = c := ⟨_, rfl⟩
      rw [hc] at HC HNO HYES
      rw [HD.out] at HNO HYES
      clear hc
      obtain rfl | ⟨h1, h2⟩ := byte_cases c d
      · go_wp2_with fail
        go_quiet ((go_at_call 95; first | exact quiet_left (show Calls Tryz.prog 95 #[.string s, .int .i64 ((a : Int) + (k : Int))] _ _ from HC.out _) | exact quiet_add_left (show Calls Tryz.prog 95 #[.string s, .int .i64 ((a : Int) + (k : Int))] _ _ from HC.out _)))
        go_wp2
        have hk := HK.out
        go_roundg (gk - 1)
        case measure => omega
        case rel => exact ⟨k + 1, by omega, by go_num, by first | exact HYES.out rfl | exact HYES.out trivial, below_drewN HB.out _⟩
      · have HN := Hid.in_ (HNO.out h2)
        go_wp2_with fail
        go_quiet ((go_at_call 95; first | exact quiet_left (show Calls Tryz.prog 95 #[.string s, .int .i64 ((a : Int) + (k : Int))] _ _ from HC.out _) | exact quiet_add_left (show Calls Tryz.prog 95 #[.string s, .int .i64 ((a : Int) + (k : Int))] _ _ from HC.out _)))
        go_wp2
        go_ret
        exact ⟨ret_bool HN.out.symm, below_drewN HB.out _⟩
    · have hk := HK.out
      obtain rfl : k = p.size := by omega
      have HY := Hid.in_ (fits_yes HA.out)
      go_wp2
      go_ret
      exact ⟨ret_bool HY.out.symm, HB.out⟩
def findOk (s p : ByteArray) : Bool := validCells s && (validCells p && decide (p.size ≤ s.size))
def findV (s p : ByteArray) : List Int := if findOk s p = true then placesTo (fitsB s p) s.size else []
theorem findV_len (s p : ByteArray) : (findV s p).length ≤ 8000 := by
  unfold findV
  split
  · rename_i h
    unfold findOk at h
    rw [Bool.and_eq_true] at h
    have := placesTo_len (fitsB s p) s.size
    have := (valid_size h.1).2.1
    omega
  · exact Nat.zero_le _
theorem find_cases (s p : ByteArray) :
    (validCells s = false ∧ Hid (findV s p = [])) ∨ (validCells s = true ∧ validCells p = false ∧ Hid (findV s p = [])) ∨ (validCells s = true ∧ validCells p = true ∧ s.size < p.size ∧ Hid (findV s p = [])) ∨
    (validCells s = true ∧ validCells p = true ∧ p.size ≤ s.size ∧ Hid (findV s p = placesTo (fitsB s p) s.size)) := by
  unfold Hid findV findOk
  cases validCells s
  · exact .inl ⟨rfl, rfl⟩
  cases validCells p
  · exact .inr (.inl ⟨rfl, rfl, rfl⟩)
  by_cases h : p.size ≤ s.size
  · exact .inr (.inr (.inr ⟨rfl, rfl, h, by rw [decide_eq_true h]; rfl⟩))
  · exact .inr (.inr (.inl ⟨rfl, rfl, by omega, by rw [decide_eq_false h]; rfl⟩))
set_option maxHeartbeats 1000000 in
theorem spec_l07Find (s p : ByteArray) (w : World) (h0 : 0 < s.size) (hs : s.size ≤ 1048576) (hp : p.size ≤ 1048576) :
    Calls Tryz.prog 63 #[.string s, .string p] w fun e w' => ∃ v, e = .returned v ∧ w'.ownsRow w.heap.size 2 1 v (placesTo (fitsB s p) s.size).length (I64 (placesTo (fitsB s p) s.size)) ∧ Below w.heap.size w w' := by
  obtain ⟨i0, hti, hz0, hz1, hz2⟩ := info_parts Tryz.infoI64f
  go_enter Tryz.func63, Tryz.ntmps63
  go_wp2_with fail
  go_loopg [5, 6] s.size (fun m v i wr => ∃ k : Nat, k + m = s.size ∧ i = .int .i64 k ∧ Hid (wr.ownsRow w.heap.size 2 1 v (placesTo (fitsB s p) k).length (I64 (placesTo (fitsB s p) k))) ∧ Hid (Below w.heap.size w wr))
  case atStart => exact ⟨0, by omega, rfl, World.ownsRow_lit w #[] 0 (Nat.le_refl _) (by decide) (by decide), balloc (Below.refl _ _) _⟩
  case round =>
    obtain ⟨k, hkm, rfl, HI, HB⟩ := hrel
    have HK := Hid.in_ hkm
    clear hkm
    by_cases hlt : k < s.size
    · have HL := Hid.in_ (placesTo_len (fitsB s p) k)
      go_wp2_with fail
      refine (spec_l07Fits s p k _ h0 hs hp (by omega)).mono ?_
      rintro e w2 ⟨rfl, hb2⟩
      have HO2 := Hid.in_ (own_below HI.out hb2 (Nat.le_refl _))
      have HB2 := Hid.in_ (HB.out.trans (hb2.mono HB.out.size))
      clear hb2 HI
      cases hq : fitsB s p k
      · have HN := Hid.in_ (placesTo_no hq)
        go_wp2
        have hk := HK.out
        go_roundg (gk - 1)
        case measure => omega
        case rel => exact ⟨k + 1, by omega, by go_num, by rw [HN.out]; exact HO2.out, HB2.out⟩
      · have HN := Hid.in_ (placesTo_yes hq)
        go_wp2_with (at_builtin; refine wpList_append_own _ rfl _ _ 54 rfl w.heap.size 2 i0 (.int .i64 0) 1 8 Tryz.underlying54 hti hz0 hz1 hz2 rfl (by decide) _ _ _ rfl (HO2.out.alloc _) ⟨w2.heap.size, 0, none⟩ 1 1 [.int .i64 k] rfl rfl (cell_one_new _ _ _) (fun x hx => by simp at hx; subst hx; rfl) (by have := HL.out; unfold maxLen; omega) (by have := HL.out; omega) (balloc HB2.out _).size ?_; intro v4 w4 ho4 hg4 _)
        have HB4 := Hid.in_ (bgrown (balloc HB2.out _) (HO2.out.alloc _) (Nat.le_refl _) hg4)
        have hk := HK.out
        go_roundg (gk - 1)
        case measure => omega
        case rel => exact ⟨k + 1, by omega, by go_num, by rw [HN.out, List.length_append, I64_app]; exact ho4, HB4.out⟩
    · have hk := HK.out
      obtain rfl : k = s.size := by omega
      go_wp2
      go_ret
      exact ⟨_, rfl, HI.out, HB.out⟩
set_option maxHeartbeats 1000000 in
theorem impl_findPattern (s p : ByteArray) (w : World) (hs : s.size ≤ 1048576) (hp : p.size ≤ s.size) :
    Calls Tryz.prog 59 #[.string s, .string p] w fun e w' => ∃ v, e = .returned v ∧ w'.ownsRow w.heap.size 2 1 v (placesTo (fitsB s p) s.size).length (I64 (placesTo (fitsB s p) s.size)) ∧ Below w.heap.size w w' := by
  obtain ⟨i0, hti, hz0, hz1, hz2⟩ := info_parts Tryz.infoI64f
  have hno : ¬ (s.size + s.size > 9223372036854775807) := by omega
  have hss : (s ++ s).size = s.size + s.size := ByteArray.size_append
  have HT := Hid.in_ (fun i (hi : i < s.size) => fits_twice (s := s) (p := p) hi hp)
  obtain ⟨t, ht⟩ : ∃ t, s ++ s = t := ⟨_, rfl⟩
  rw [ht] at HT hss
  rw [hss] at HT
  go_enter Tryz.func59, Tryz.ntmps59
  go_wp2_with fail
  try rw [ht]
  rw [show decide (s.size < p.size) = false from decide_eq_false (by omega)]
  clear ht
  go_loopg [6, 18] s.size (fun m v i wr => ∃ k : Nat, k + m = s.size ∧ i = .int .i64 k ∧ Hid (wr.ownsRow w.heap.size 2 1 v (placesTo (fitsB s p) k).length (I64 (placesTo (fitsB s p) k))) ∧ Hid (Below w.heap.size w wr))
  case atStart => exact ⟨0, by omega, rfl, World.ownsRow_nil _ _ _ _, Below.refl _ _⟩
  case round =>
    obtain ⟨k, hkm, rfl, HI, HB⟩ := hrel
    have HK := Hid.in_ hkm
    clear hkm
    by_cases hlt : k < s.size
    · have HL := Hid.in_ (placesTo_len (fitsB s p) k)
      have HTK := Hid.in_ (HT.out k hlt)
      go_wp2_with fail
      refine (Any.strings_HasPrefix Tryz.lays99 _ _ _).mono ?_
      rintro e w2 ⟨rfl, rfl⟩
      rw [HTK.out]
      cases hq : fitsB s p k
      · have HN := Hid.in_ (placesTo_no hq)
        go_wp2
        have hk := HK.out
        go_roundg (gk - 1)
        case measure => omega
        case rel => exact ⟨k + 1, by omega, by go_num, by rw [HN.out]; exact HI.out, HB.out⟩
      · have HN := Hid.in_ (placesTo_yes hq)
        go_wp2_with (at_builtin; refine wpList_append_own _ rfl _ _ 54 rfl w.heap.size 2 i0 (.int .i64 0) 1 8 Tryz.underlying54 hti hz0 hz1 hz2 rfl (by decide) _ _ _ rfl (HI.out.alloc _) ⟨w2.heap.size, 0, none⟩ 1 1 [.int .i64 k] rfl rfl (cell_one_new _ _ _) (fun x hx => by simp at hx; subst hx; rfl) (by have := HL.out; unfold maxLen; omega) (by have := HL.out; omega) (balloc HB.out _).size ?_; intro v4 w4 ho4 hg4 _)
        have HB4 := Hid.in_ (bgrown (balloc HB.out _) (HI.out.alloc _) (Nat.le_refl _) hg4)
        have hk := HK.out
        go_roundg (gk - 1)
        case measure => omega
        case rel => exact ⟨k + 1, by omega, by go_num, by rw [HN.out, List.length_append, I64_app]; exact ho4, HB4.out⟩
    · have hk := HK.out
      obtain rfl : k = s.size := by omega
      go_wp2
      go_ret
      exact ⟨_, rfl, HI.out, HB.out⟩
theorem impl_findPattern_long (s p : ByteArray) (w : World) (hs : s.size ≤ 1048576) (hp : s.size < p.size) (hp2 : p.size ≤ 1048576) :
    Calls Tryz.prog 59 #[.string s, .string p] w fun e w' => e = .returned (.slice none 0 0) ∧ Below w.heap.size w w' := by
  go_enter Tryz.func59, Tryz.ntmps59
  go_wp2
  go_ret
  exact ⟨rfl, Below.refl _ _⟩
set_option maxHeartbeats 1000000 in
theorem impl_FindPattern (s p : ByteArray) (w : World) (hs : s.size ≤ 1048576) (hp : p.size ≤ 1048576) :
    Calls Tryz.prog 32 #[.string s, .string p] w fun e w' => ∃ v, e = .returned v ∧ w'.ownsRow w.heap.size 2 1 v (findV s p).length (I64 (findV s p)) ∧ Below w.heap.size w w' := by
  have HC1 := Hid.in_ (impl_ValidCells s w (by omega))
  have HC2 := Hid.in_ (fun w => impl_ValidCells p w (by omega))
  obtain ⟨h1, HV⟩ | ⟨h1, h2, HV⟩ | ⟨h1, h2, h3, HV⟩ | ⟨h1, h2, h3, HV⟩ := find_cases s p
  all_goals rw [h1] at HC1
  · go_enter Tryz.func32, Tryz.ntmps32
    go_wp2_with fail
    refine HC1.out.mono ?_
    rintro e w1 ⟨rfl, hb1⟩
    go_wp2
    go_ret
    rw [HV.out]
    exact ⟨_, rfl, World.ownsRow_nil _ _ _ _, hb1⟩
  · rw [h2] at HC2
    go_enter Tryz.func32, Tryz.ntmps32
    go_wp2_with fail
    refine HC1.out.mono ?_
    rintro e w1 ⟨rfl, hb1⟩
    go_wp2_with fail
    refine (HC2.out _).mono ?_
    rintro e w2 ⟨rfl, hb2⟩
    have hb := bstep hb1 hb2
    go_wp2
    go_ret
    rw [HV.out]
    exact ⟨_, rfl, World.ownsRow_nil _ _ _ _, hb⟩
  · rw [h2] at HC2
    go_enter Tryz.func32, Tryz.ntmps32
    go_wp2_with fail
    refine HC1.out.mono ?_
    rintro e w1 ⟨rfl, hb1⟩
    go_wp2_with fail
    refine (HC2.out _).mono ?_
    rintro e w2 ⟨rfl, hb2⟩
    have hb := bstep hb1 hb2
    go_wp2_with fail
    refine (impl_findPattern_long s p _ hs h3 hp).mono ?_
    rintro e w3 ⟨rfl, hb3⟩
    have hb := bstep hb hb3
    go_wp2
    go_ret
    rw [HV.out]
    exact ⟨_, rfl, World.ownsRow_nil _ _ _ _, hb⟩
  · rw [h2] at HC2
    go_enter Tryz.func32, Tryz.ntmps32
    go_wp2_with fail
    refine HC1.out.mono ?_
    rintro e w1 ⟨rfl, hb1⟩
    go_wp2_with fail
    refine (HC2.out _).mono ?_
    rintro e w2 ⟨rfl, hb2⟩
    have hb := bstep hb1 hb2
    go_wp2_with fail
    refine (impl_findPattern s p _ hs h3).mono ?_
    rintro e w3 ⟨v3, rfl, ho3, hb3⟩
    have ho := own_base ho3 hb.size
    have hb := bstep hb hb3
    go_wp2
    go_ret
    rw [HV.out]
    exact ⟨_, rfl, ho, hb⟩
end Go.Proofs.YtlelgpknkgjaeaaGreatDoor
