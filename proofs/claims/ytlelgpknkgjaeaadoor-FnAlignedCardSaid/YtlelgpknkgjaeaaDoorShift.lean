/- 'BestShift' of the program and of the reference: by how many cells a revolution is best turned. -/
import Derived.Test.YtlelgpknkgjaeaaDoorSlice
import Derived.Test.YtlelgpknkgjaeaaDoorRevs
namespace Go.Proofs.YtlelgpknkgjaeaaDoor
open Go.ChangeShapes Go.WideShapes Go.ChangeAt Go.RowKit
set_option linter.unusedSimpArgs false
set_option linter.unusedVariables false
set_option maxRecDepth 4000

/-- The place at which a string of 'n' cells that is turned by 'sh' begins. -/
def rotAt (sh : Int) (n : Nat) : Nat := (sh % (n : Int)).toNat
theorem rotAt_eq {sh : Int} {n : Nat} (h : 0 < n) : sh % (n : Int) = (rotAt sh n : Nat) ∧ rotAt sh n < n := by
  have h1 := Int.emod_nonneg sh (show (n : Int) ≠ 0 by omega)
  have h2 := Int.emod_lt_of_pos sh (show (0 : Int) < n by omega)
  unfold rotAt
  omega
def shD (a b : ByteArray) (n : Nat) (sh : Int) : Nat := distTo a (sliceS b (rotAt sh n) n) n
def shOf (k : Nat) : Int := if k % 2 = 0 then -((k / 2 : Nat) : Int) else (((k + 1) / 2 : Nat) : Int)
def shTo (a b : ByteArray) (n : Nat) : Nat → Int × Nat
  | 0 => (0, shD a b n 0)
  | k + 1 => if shD a b n (shOf (k + 1)) < (shTo a b n k).2 then (shOf (k + 1), shD a b n (shOf (k + 1))) else shTo a b n k
theorem shOf_even (j : Nat) : shOf (2 * j) = -(j : Int) := by
  unfold shOf
  rw [if_pos (by omega), show 2 * j / 2 = j by omega]
theorem shOf_odd (j : Nat) : shOf (2 * j + 1) = (j : Int) + 1 := by
  unfold shOf
  rw [if_neg (by omega), show (2 * j + 1 + 1) / 2 = j + 1 by omega]
  omega
theorem shTo_less {a b : ByteArray} {n k : Nat} (h : shD a b n (shOf (k + 1)) < (shTo a b n k).2) : shTo a b n (k + 1) = (shOf (k + 1), shD a b n (shOf (k + 1))) := by
  show (if shD a b n (shOf (k + 1)) < (shTo a b n k).2 then _ else _) = _
  rw [if_pos h]
theorem shTo_more {a b : ByteArray} {n k : Nat} (h : ¬ shD a b n (shOf (k + 1)) < (shTo a b n k).2) : shTo a b n (k + 1) = shTo a b n k := by
  show (if shD a b n (shOf (k + 1)) < (shTo a b n k).2 then _ else _) = _
  rw [if_neg h]
theorem shD_le (a b : ByteArray) (n : Nat) (sh : Int) : shD a b n sh ≤ n := distTo_le _ _ _
theorem shTo_le (a b : ByteArray) (n : Nat) : ∀ k, (shTo a b n k).2 ≤ n ∧ -(k : Int) ≤ (shTo a b n k).1 ∧ (shTo a b n k).1 ≤ k
  | 0 => ⟨shD_le _ _ _ _, by show -(0 : Int) ≤ 0; omega, by show (0 : Int) ≤ 0; omega⟩
  | k + 1 => by
    have ih := shTo_le a b n k
    have h := shD_le a b n (shOf (k + 1))
    have hs : -((k + 1 : Nat) : Int) ≤ shOf (k + 1) ∧ shOf (k + 1) ≤ ((k + 1 : Nat) : Int) := by
      unfold shOf
      split <;> omega
    unfold shTo
    split
    · exact ⟨h, hs.1, hs.2⟩
    · exact ⟨ih.1, by omega, by omega⟩
theorem byteAt_slice {b : ByteArray} {r n k : Nat} (h : k < n) : byteAt (sliceS b r n) k = byteAt b ((r + k) % b.size) := by
  unfold byteAt
  rw [List.getD_eq_getElem?_getD]
  show ((sliceL b.data.toList r n).toArray.toList[k]?).getD 0 = _
  rw [List.toList_toArray, sliceL_at h, len_data]
  rfl
theorem dist_step {a b : ByteArray} {k : Nat} {c d : UInt8} (hc : byteAt a k = c) (hd : byteAt b k = d) :
    (((c.toNat : Int) != (d.toNat : Int)) = false ∧ Hid (distTo a b (k + 1) = distTo a b k)) ∨ (((c.toNat : Int) != (d.toNat : Int)) = true ∧ Hid (distTo a b (k + 1) = distTo a b k + 1)) := by
  unfold Hid
  show _ ∧ distTo a b k + (if byteAt a k = byteAt b k then 0 else 1) = _ ∨ _ ∧ distTo a b k + (if byteAt a k = byteAt b k then 0 else 1) = _
  rw [hc, hd]
  by_cases h : c = d
  · left
    subst h
    exact ⟨by simp, by simp⟩
  · right
    refine ⟨bne_iff_ne.2 fun e => h (UInt8.toNat_inj.1 (by omega)), by rw [if_neg h]⟩
theorem twice_cut {b : ByteArray} {r : Nat} (h : r < b.size) : (b ++ b).extract r (r + b.size) = sliceS b r b.size := by
  apply ba_ext
  rw [extract_list, ByteArray.data_append, Array.toList_append, Nat.add_sub_cancel_left]
  show ((b.data.toList ++ b.data.toList).drop r).take b.size = sliceL b.data.toList r b.size
  have hl := len_data b
  by_cases h0 : r = 0
  · subst h0
    rw [List.drop_zero, ← sliceL_one (by omega), List.drop_zero, List.take_append_of_le_length (by omega)]
  · rw [← sliceL_two (by omega) (by omega) (by omega), List.drop_append_of_le_length (by omega), List.take_append, List.take_of_length_le (by rw [List.length_drop]; omega), List.length_drop]
    congr 2
    omega
theorem drewN_add (w : World) (a b : Nat) : (w.drewN a).drewN b = w.drewN (a + b) := by simp [World.drewN, Nat.add_assoc]
/-- The state of the program's loop: nothing yet, or the best of the shifts up to here. -/
def shSt (a b : ByteArray) (n : Nat) : Nat → Int × Int
  | 0 => (0, -1)
  | k + 1 => ((shTo a b n k).1, ((shTo a b n k).2 : Nat))
theorem shSt_le (a b : ByteArray) (n k : Nat) : -1 ≤ (shSt a b n k).2 ∧ (shSt a b n k).2 ≤ n ∧ -(k : Int) ≤ (shSt a b n k).1 ∧ (shSt a b n k).1 ≤ k := by
  cases k with
  | zero => exact ⟨by show (-1 : Int) ≤ -1; omega, by show (-1 : Int) ≤ n; omega, by show -(0 : Int) ≤ 0; omega, by show (0 : Int) ≤ 0; omega⟩
  | succ k =>
    have := shTo_le a b n k
    show -1 ≤ (((shTo a b n k).2 : Nat) : Int) ∧ (((shTo a b n k).2 : Nat) : Int) ≤ n ∧ -((k + 1 : Nat) : Int) ≤ (shTo a b n k).1 ∧ (shTo a b n k).1 ≤ ((k + 1 : Nat) : Int)
    omega
theorem shSt_take {a b : ByteArray} {n k : Nat} (h : (shSt a b n k).2 < 0 ∨ (shD a b n (shOf k) : Int) < (shSt a b n k).2) : shSt a b n (k + 1) = (shOf k, ((shD a b n (shOf k) : Nat) : Int)) := by
  cases k with
  | zero => rfl
  | succ k =>
    have h' : shD a b n (shOf (k + 1)) < (shTo a b n k).2 := by
      have h2 : (((shTo a b n k).2 : Nat) : Int) < 0 ∨ (shD a b n (shOf (k + 1)) : Int) < (((shTo a b n k).2 : Nat) : Int) := h
      omega
    show ((shTo a b n (k + 1)).1, (((shTo a b n (k + 1)).2 : Nat) : Int)) = _
    rw [shTo_less h']
theorem shSt_keep {a b : ByteArray} {n k : Nat} (h : ¬ ((shSt a b n k).2 < 0 ∨ (shD a b n (shOf k) : Int) < (shSt a b n k).2)) : shSt a b n (k + 1) = shSt a b n k := by
  cases k with
  | zero => exact absurd (Or.inl (show (-1 : Int) < 0 by omega)) h
  | succ k =>
    have h' : ¬ shD a b n (shOf (k + 1)) < (shTo a b n k).2 := by
      have h2 : ¬ ((((shTo a b n k).2 : Nat) : Int) < 0 ∨ (shD a b n (shOf (k + 1)) : Int) < (((shTo a b n k).2 : Nat) : Int)) := h
      omega
    show ((shTo a b n (k + 1)).1, (((shTo a b n (k + 1)).2 : Nat) : Int)) = _
    rw [shTo_more h']
    rfl
set_option maxHeartbeats 4000000 in
theorem impl_bestShift (a b : ByteArray) (N m : Nat) (w : World) (ha : a.size = N) (hb : b.size = N) (h1 : 1 ≤ N) (h8 : N ≤ 8000) (hm : m ≤ 40) :
    Calls Tryd.prog 20 #[.string a, .string b, .int .i64 m] w fun e w' => e = .returned (.tuple #[.int .i64 (shTo a b N (2 * m)).1, .int .i64 ((shTo a b N (2 * m)).2 : Nat)]) ∧ Below w.heap.size w w' := by
  have hno : ¬ (b.size + b.size > 9223372036854775807) := by omega
  have hss : (b ++ b).size = N + N := by rw [ByteArray.size_append]; omega
  have HT := Hid.in_ (fun r (hr : r < N) => show (b ++ b).extract r (r + N) = sliceS b r N from by
    have := twice_cut (b := b) (r := r) (by omega)
    rw [hb] at this
    exact this)
  have HDI := Hid.in_ (fun (sh : Int) (w : World) => show Calls Tryd.prog 31 #[.string a, .string (sliceS b (rotAt sh N) N)] w fun e w' => e = .returned (.int .i64 (shD a b N sh : Nat)) ∧ Below w.heap.size w w' from by
    have := impl_distance a (sliceS b (rotAt sh N) N) w (by omega) (by rw [sliceS_size]; omega)
    rw [ha] at this
    exact this)
  obtain ⟨t, ht⟩ : ∃ t, b ++ b = t := ⟨_, rfl⟩
  rw [ht] at HT hss
  go_enter Tryd.func20, Tryd.ntmps20
  go_wp2_with fail
  try rw [ht]
  clear ht
  go_loopg [10, 11, 24] (2 * m + 1) (fun u bs ls i wr => ∃ k : Nat, k + u = 2 * m + 1 ∧ i = .int .i64 k ∧ bs = .int .i64 (shSt a b N k).1 ∧ ls = .int .i64 (shSt a b N k).2 ∧ Hid (Below w.heap.size w wr))
  case atStart => exact ⟨0, by omega, rfl, rfl, rfl, Below.refl _ _⟩
  case round =>
    obtain ⟨k, hkm, rfl, rfl, rfl, HB⟩ := hrel
    have HK := Hid.in_ hkm
    clear hkm
    have hle := shSt_le a b N k
    by_cases hlt : k < 2 * m + 1
    · have HTK := Hid.in_ (shSt_take (a := a) (b := b) (n := N) (k := k))
      have HKP := Hid.in_ (shSt_keep (a := a) (b := b) (n := N) (k := k))
      have hD := shD_le a b N (shOf k)
      obtain ⟨hr, hrl⟩ := rotAt_eq (sh := shOf k) (n := N) (by omega)
      have HDK := Hid.in_ (HDI.out (shOf k))
      have HTR := Hid.in_ (HT.out (rotAt (shOf k) N) hrl)
      rw [← HTR.out] at HDK
      have hko : (∃ j : Nat, k = 2 * j) ∨ (∃ j : Nat, k = 2 * j + 1) := by
        by_cases h : k % 2 = 0
        · exact .inl ⟨k / 2, by omega⟩
        · exact .inr ⟨k / 2, by omega⟩
      generalize shD a b N (shOf k) = D at *
      obtain ⟨X, hX⟩ : ∃ X, (shSt a b N k).1 = X := ⟨_, rfl⟩
      obtain ⟨Y, hY⟩ : ∃ Y, (shSt a b N k).2 = Y := ⟨_, rfl⟩
      rw [hX, hY] at hle
      rw [hY] at HTK HKP
      rw [hX, hY]
      have HX := Hid.in_ hX
      have HY := Hid.in_ hY
      clear hX hY
      generalize rotAt (shOf k) N = r at *
      obtain ⟨j, rfl⟩ | ⟨j, rfl⟩ := hko
      · have q1 : (2 * (j : Int)) % 2 = 0 := by omega
        have q2 : (2 * (j : Int) + 1) / 2 = (j : Int) := by omega
        rw [shOf_even] at hr HTK
        go_wp2_with fail
        refine (impl_modulo _ _ _ (by omega) (by omega)).mono ?_
        rintro e w1 ⟨rfl, rfl⟩
        rw [hr]
        clear hr
        go_wp2_with fail
        refine (HDK.out _).mono ?_
        rintro e w2 ⟨rfl, hb2⟩
        have HB2 := Hid.in_ (HB.out.trans (hb2.mono HB.out.size))
        clear hb2
        have hcs : Y < 0 ∨ (0 ≤ Y ∧ (D : Int) < Y) ∨ (0 ≤ Y ∧ Y ≤ (D : Int)) := by omega
        obtain h9 | ⟨h9, h10⟩ | ⟨h9, h10⟩ := hcs
        · have HN := Hid.in_ (HTK.out (.inl h9))
          go_wp2
          have hk := HK.out
          go_roundg (gk - 1)
          case measure => omega
          case rel => exact ⟨2 * j + 1, by omega, by go_num, by (rw [HN.out]; try (congr 1; omega)), by rw [HN.out], HB2.out⟩
        · have HN := Hid.in_ (HTK.out (.inr h10))
          go_wp2
          have hk := HK.out
          go_roundg (gk - 1)
          case measure => omega
          case rel => exact ⟨2 * j + 1, by omega, by go_num, by (rw [HN.out]; try (congr 1; omega)), by rw [HN.out], HB2.out⟩
        · have HN := Hid.in_ (HKP.out (by omega))
          go_wp2
          have hk := HK.out
          go_roundg (gk - 1)
          case measure => omega
          case rel => exact ⟨2 * j + 1, by omega, by go_num, by rw [HN.out, HX.out], by rw [HN.out, HY.out], HB2.out⟩
      · have q1 : (2 * (j : Int) + 1) % 2 = 1 := by omega
        have q2 : (2 * (j : Int) + 1 + 1) / 2 = (j : Int) + 1 := by omega
        rw [shOf_odd] at hr HTK
        go_wp2_with fail
        refine (impl_modulo _ _ _ (by omega) (by omega)).mono ?_
        rintro e w1 ⟨rfl, rfl⟩
        rw [hr]
        clear hr
        go_wp2_with fail
        refine (HDK.out _).mono ?_
        rintro e w2 ⟨rfl, hb2⟩
        have HB2 := Hid.in_ (HB.out.trans (hb2.mono HB.out.size))
        clear hb2
        have hcs : Y < 0 ∨ (0 ≤ Y ∧ (D : Int) < Y) ∨ (0 ≤ Y ∧ Y ≤ (D : Int)) := by omega
        obtain h9 | ⟨h9, h10⟩ | ⟨h9, h10⟩ := hcs
        · have HN := Hid.in_ (HTK.out (.inl h9))
          go_wp2
          have hk := HK.out
          go_roundg (gk - 1)
          case measure => omega
          case rel => exact ⟨2 * j + 1 + 1, by omega, by go_num, by (rw [HN.out]; try (congr 1; omega)), by rw [HN.out], HB2.out⟩
        · have HN := Hid.in_ (HTK.out (.inr h10))
          go_wp2
          have hk := HK.out
          go_roundg (gk - 1)
          case measure => omega
          case rel => exact ⟨2 * j + 1 + 1, by omega, by go_num, by (rw [HN.out]; try (congr 1; omega)), by rw [HN.out], HB2.out⟩
        · have HN := Hid.in_ (HKP.out (by omega))
          go_wp2
          have hk := HK.out
          go_roundg (gk - 1)
          case measure => omega
          case rel => exact ⟨2 * j + 1 + 1, by omega, by go_num, by rw [HN.out, HX.out], by rw [HN.out, HY.out], HB2.out⟩
    · have hk := HK.out
      obtain rfl : k = 2 * m + 1 := by omega
      go_wp2
      go_ret2
      exact ⟨rfl, HB.out⟩
def bsEnd (a b : ByteArray) (k : Int) : Ending :=
  if revsOk [a, b] = true then
    if inB k 0 40 = true then .returned (.tuple #[.int .i64 (shTo a b a.size (2 * k.toNat)).1, .int .i64 ((shTo a b a.size (2 * k.toNat)).2 : Nat), .int .i64 0])
    else .returned (.tuple #[.int .i64 0, .int .i64 0, .int .i64 2])
  else .returned (.tuple #[.int .i64 0, .int .i64 0, .int .i64 1])
theorem bs_cases (a b : ByteArray) (k : Int) :
    (revsOk [a, b] = false ∧ Hid (bsEnd a b k = .returned (.tuple #[.int .i64 0, .int .i64 0, .int .i64 1]))) ∨
    (revsOk [a, b] = true ∧ inB k 0 40 = false ∧ Hid (bsEnd a b k = .returned (.tuple #[.int .i64 0, .int .i64 0, .int .i64 2]))) ∨
    (revsOk [a, b] = true ∧ inB k 0 40 = true ∧ ∃ m N : Nat, k = m ∧ m ≤ 40 ∧ a.size = N ∧ b.size = N ∧ 1 ≤ N ∧ N ≤ 8000 ∧ Hid (bsEnd a b k = .returned (.tuple #[.int .i64 (shTo a b N (2 * m)).1, .int .i64 ((shTo a b N (2 * m)).2 : Nat), .int .i64 0]))) := by
  unfold Hid bsEnd
  cases h1 : revsOk [a, b]
  · exact .inl ⟨rfl, rfl⟩
  cases h2 : inB k 0 40
  · exact .inr (.inl ⟨rfl, rfl, rfl⟩)
  · obtain ⟨r1, r2, r3, r4, r5⟩ := revs_at h1
    obtain ⟨k1, k2⟩ := inB_t h2
    obtain ⟨m, rfl⟩ := Int.eq_ofNat_of_zero_le k1
    have hb := (r5 b (by simp)).1
    have hl : revLen [a, b] = a.size := rfl
    rw [hl] at hb r3 r4
    exact .inr (.inr ⟨rfl, rfl, m, a.size, rfl, by omega, rfl, hb, r3, r4, rfl⟩)
theorem two_row (a b : ByteArray) (w : World) : (w.alloc (.cells #[.string a, .string b] 9)).ownsRow w.heap.size 9 1 (.slice (some ⟨w.heap.size, 0, none⟩) 2 2) 2 (Strs [a, b]) :=
  World.ownsRow_lit w #[.string a, .string b] 2 (Nat.le_refl _) (by decide) rfl
set_option maxHeartbeats 1000000 in
theorem impl_BestShift (a b : ByteArray) (k : Int) (w : World) (ha : a.size ≤ 1048576) (hb : b.size ≤ 1048576) :
    Calls Tryd.prog 9 #[.string a, .string b, .int .i64 k] w fun e w' => e = bsEnd a b k ∧ Below w.heap.size w w' := by
  have HC := Hid.in_ (impl_ValidRevolutions _ (two_row a b w) (fun s hs => by rcases List.mem_cons.1 hs with rfl | hs; omega; obtain rfl := List.mem_singleton.1 hs; omega))
  have HB0 := Hid.in_ (balloc (Below.refl w.heap.size w) (.cells #[.string a, .string b] 9))
  obtain ⟨h1, HV⟩ | ⟨h1, h2, HV⟩ | ⟨h1, h2, m, N, rfl, hm, hN1, hN2, h3, h4, HV⟩ := bs_cases a b k
  · rw [h1] at HC
    go_enter Tryd.func9, Tryd.ntmps9
    go_wp2_with (go_at_call 18; refine HC.out.mono ?_; rintro e w1 ⟨rfl, hb1⟩)
    go_ret3
    exact ⟨HV.out.symm, bstep HB0.out hb1⟩
  · rw [h1] at HC
    go_enter Tryd.func9, Tryd.ntmps9
    go_wp2_with (first | (go_at_call 18; refine HC.out.mono ?_; rintro e w1 ⟨rfl, hb1⟩) | (go_at_call 19; refine (bool_is (impl_within _ _ _ _) (by assumption)).mono ?_; rintro e w' ⟨rfl, rfl⟩))
    go_ret3
    exact ⟨HV.out.symm, bstep HB0.out hb1⟩
  · rw [h1] at HC
    have HS := Hid.in_ (fun w => impl_bestShift a b N m w hN1 hN2 h3 h4 hm)
    generalize (shTo a b N (2 * m)).1 = X at *
    generalize (shTo a b N (2 * m)).2 = Y at *
    go_enter Tryd.func9, Tryd.ntmps9
    go_wp2_with (first | (go_at_call 18; refine HC.out.mono ?_; rintro e w1 ⟨rfl, hb1⟩) | (go_at_call 19; refine (bool_is (impl_within _ _ _ _) (by assumption)).mono ?_; rintro e w' ⟨rfl, rfl⟩) | (go_at_call 20; refine (HS.out _).mono ?_; rintro e w2 ⟨rfl, hb2⟩))
    go_ret3
    exact ⟨HV.out.symm, bstep (bstep HB0.out hb1) hb2⟩
end Go.Proofs.YtlelgpknkgjaeaaDoor
