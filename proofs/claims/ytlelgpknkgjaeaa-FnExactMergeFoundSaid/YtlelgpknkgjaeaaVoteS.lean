/- 'VoteBytes' of the reference. -/
import Derived.Test.YtlelgpknkgjaeaaVoteP
import Derived.Test.YtlelgpknkgjaeaaKeep
namespace Go.Proofs.Ytlelgpknkgjaeaa
open Go.ChangeShapes Go.WideShapes Go.ChangeAt Go.RowKit
set_option linter.unusedSimpArgs false
set_option linter.unusedVariables false
set_option maxRecDepth 4000

theorem Try.infoU8v : (Try.prog.info? 5).map (fun i => (i.zero, i.size, i.bytes)) = some (some (.int .u8 0), 1, 1) := by kernel_rfl
theorem Try.infoI64v : (Try.prog.info? 2).map (fun i => (i.zero, i.size, i.bytes)) = some (some (.int .i64 0), 1, 8) := by kernel_rfl
def mostTo (l : List ByteArray) (k m : Nat) : Nat := if m = 0 then 0 else cntN l k (bestTo l k m)
theorem most_yes {l : List ByteArray} {k m X : Nat} (hX : cntN l k m = X) (h : mostTo l k m < X) : bestTo l k (m + 1) = m ∧ mostTo l k (m + 1) = X := by
  subst hX
  have h1 : bestTo l k (m + 1) = m := by
    by_cases hc : cntN l k (bestTo l k m) < cntN l k m
    · exact bestTo_yes hc
    · rw [bestTo_no hc]
      rcases Nat.eq_zero_or_pos m with h0 | h0
      · subst h0
        have := bestTo_le l k 0
        omega
      · unfold mostTo at h
        rw [if_neg (by omega)] at h
        exact absurd h hc
  refine ⟨h1, ?_⟩
  unfold mostTo
  rw [if_neg (by omega), h1]
theorem most_no {l : List ByteArray} {k m X : Nat} (hX : cntN l k m = X) (h : ¬ mostTo l k m < X) : bestTo l k (m + 1) = bestTo l k m ∧ mostTo l k (m + 1) = mostTo l k m := by
  subst hX
  unfold mostTo at h
  have h1 : bestTo l k (m + 1) = bestTo l k m := by
    refine bestTo_no fun hc => ?_
    rcases Nat.eq_zero_or_pos m with h0 | h0
    · rw [if_pos h0] at h
      omega
    · rw [if_neg (by omega)] at h
      exact h hc
  refine ⟨h1, ?_⟩
  unfold mostTo
  rw [if_neg (by omega), h1]
  rcases Nat.eq_zero_or_pos m with h0 | h0
  · subst h0
    rw [if_pos rfl] at h ⊢
    have : bestTo l k 0 = 0 := rfl
    rw [this]
    omega
  · rw [if_neg (by omega)]
theorem mostTo_le (l : List ByteArray) (k m : Nat) : mostTo l k m ≤ l.length := by
  unfold mostTo
  split
  · omega
  · exact cntTo_le _ _ _ _
theorem most_all {l : List ByteArray} {k n : Nat} (hl : l.length = n) : (((mostTo l k 256 : Nat) : Int) == (n : Int)) = !diffAt l k := by
  have h1 := best_all l k
  have h2 : mostTo l k 256 = cntN l k (bestTo l k 256) := by unfold mostTo; rw [if_neg (by omega)]
  rw [h2]
  cases hd : diffAt l k
  · rw [hd] at h1
    rw [h1.2 rfl, hl]
    simp
  · rw [hd] at h1
    have : ¬ cntN l k (bestTo l k 256) = l.length := fun e => by have := h1.1 e; cases this
    simp
    omega
theorem byte_is (d : UInt8) {b : Nat} (hb : b < 256) : (d = UInt8.ofNat b ∧ ((d.toNat : Int) == (b : Int)) = true) ∨ (d ≠ UInt8.ofNat b ∧ ((d.toNat : Int) == (b : Int)) = false) := by
  by_cases h : d = UInt8.ofNat b
  · refine .inl ⟨h, ?_⟩
    subst h
    rw [UInt8.toNat_ofNat', Nat.mod_eq_of_lt (by omega)]
    simp
  · refine .inr ⟨h, beq_eq_false_iff_ne.2 fun e => h (UInt8.toNat_inj.1 ?_)⟩
    rw [UInt8.toNat_ofNat', Nat.mod_eq_of_lt (by omega)]
    omega
set_option maxHeartbeats 1000000 in
theorem spec_l10Byte {v : Value} {n b : Nat} {l : List ByteArray} (k : Nat) (w : World) (h : w.ownsRow b 9 1 v n (Strs l)) (hl : l.length = n) (hk : ∀ s ∈ l, k < s.size ∧ s.size ≤ 1048576) (hn : n ≤ 1048576) :
    Calls Try.prog 80 #[v, .int .i64 k] w fun e w' => e = .returned (.tuple #[.int .u8 (bestTo l k 256 : Nat), .bool (!diffAt l k)]) ∧ w = w' := by
  obtain ⟨A, c, rfl, _, _, hA⟩ := own_shape h
  have HL := Hid.in_ hl
  have H1 := Hid.in_ hA
  have HZ := Hid.in_ hk
  have HALL := Hid.in_ (most_all (k := k) hl)
  clear hA h hl hk
  go_enter Try.func80, Try.ntmps80
  go_wp2_with fail
  go_loopg [6, 7, 8] 256 (fun m be mo i wr => ∃ j : Nat, j + m = 256 ∧ i = .int .i64 j ∧ be = .int .u8 (bestTo l k j : Nat) ∧ mo = .int .i64 (mostTo l k j : Nat) ∧ w = wr)
  case atStart => exact ⟨0, by omega, rfl, rfl, rfl, rfl⟩
  case round =>
    obtain ⟨j, hkm, rfl, rfl, rfl, rfl⟩ := hrel
    have HK := Hid.in_ hkm
    clear hkm
    have hml := mostTo_le l k j
    rw [HL.out] at hml
    by_cases hlt : j < 256
    · have hw8 : IntKind.u8.wrap (j : Int) = (j : Int) := IntWalk.u8_in _ (by omega)
      have HMY := Hid.in_ (fun X (hX : cntN l k j = X) => And.intro (most_yes (k := k) hX) (most_no (k := k) hX))
      have hbb := bestTo_le l k j
      have HCN := Hid.in_ (show cntN l k j = cntTo l k (UInt8.ofNat j) n from by unfold cntN; rw [HL.out])
      generalize hbe : bestTo l k j = BE at *
      generalize hmo : mostTo l k j = MO at *
      have HBM := Hid.in_ (And.intro hbe hmo)
      clear hbe hmo
      go_wp2_with fail
      obtain ⟨gO, rfl⟩ : ∃ g, g = gk := ⟨_, rfl⟩
      go_loopg [9, 10] n (fun m o i wi => ∃ q : Nat, q + m = n ∧ i = .int .i64 q ∧ o = .int .i64 (cntTo l k (UInt8.ofNat j) q : Nat) ∧ w = wi)
      case atStart => exact ⟨0, by omega, rfl, rfl, rfl⟩
      case round =>
        obtain ⟨q, hqm, rfl, rfl, rfl⟩ := hrel
        have HJ := Hid.in_ hqm
        clear hqm
        have hle := cntTo_le l k (UInt8.ofNat j) q
        by_cases hlq : q < n
        · obtain ⟨g, rfl, _, hg, hx, _⟩ := H1.out (by omega)
          obtain ⟨s, hs⟩ := get_lt l q (by rw [HL.out]; exact hlq)
          have c0 := hx q _ (Strs_get hs)
          obtain ⟨hks, hsz⟩ := HZ.out s (List.mem_of_getElem? hs)
          obtain ⟨d, hd⟩ : ∃ d : UInt8, s[k] = d := ⟨_, rfl⟩
          have HCV := Hid.in_ (colAt_val hs hks hd)
          clear hx hs
          obtain ⟨e1, e2⟩ | ⟨e1, e2⟩ := byte_is d hlt
          · have HN := Hid.in_ (cnt_next1 (l := l) (k := k) (i := q) (c := UInt8.ofNat j) (by rw [HCV.out, e1]))
            clear e1
            generalize cntTo l k (UInt8.ofNat j) q = X at *
            go_wp2
            have hj := HJ.out
            go_roundg (gk - 1)
            case measure => omega
            case rel => exact ⟨q + 1, by omega, by go_num, by rw [HN.out]; go_num, rfl⟩
          · have HN := Hid.in_ (cnt_next0 (l := l) (k := k) (i := q) (c := UInt8.ofNat j) (by rw [HCV.out]; exact e1))
            clear e1
            generalize cntTo l k (UInt8.ofNat j) q = X at *
            go_wp2
            have hj := HJ.out
            go_roundg (gk - 1)
            case measure => omega
            case rel => exact ⟨q + 1, by omega, by go_num, by rw [HN.out], rfl⟩
        · have hj := HJ.out
          obtain rfl : q = n := by omega
          generalize cntTo l k (UInt8.ofNat j) q = X at *
          have HM := Hid.in_ (HMY.out X HCN.out)
          by_cases hq : MO < X
          · have HM2 := Hid.in_ (HM.out.1 hq)
            go_wp2
            have hk := HK.out
            go_roundg (gO - 1)
            case measure => omega
            case rel => exact ⟨j + 1, by omega, by go_num, by rw [HM2.out.1], by rw [HM2.out.2], rfl⟩
          · have HM2 := Hid.in_ (HM.out.2 hq)
            go_wp2
            have hk := HK.out
            go_roundg (gO - 1)
            case measure => omega
            case rel => exact ⟨j + 1, by omega, by go_num, by rw [HM2.out.1], by rw [HM2.out.2], rfl⟩
    · have hk := HK.out
      obtain rfl : j = 256 := by omega
      have hq := HALL.out
      generalize mostTo l k 256 = MO at *
      go_wp2
      go_ret2
      exact ⟨rfl, rfl⟩
theorem vote_cell (l : List ByteArray) (k X : Nat) (h : bestTo l k 256 = X) : Lib.byteCells (voteTo l k) ++ [.int .u8 (X : Int)] = Lib.byteCells (voteTo l (k + 1)) := by
  rw [voteTo_next, ← voteB_nat h]
  unfold Lib.byteCells
  rw [List.map_append]
  rfl
set_option maxHeartbeats 2000000 in
theorem spec_l10Vote {v : Value} {n b N : Nat} {l : List ByteArray} (w : World) (h : w.ownsRow b 9 1 v n (Strs l)) (h0 : 0 < n) (hk : ∀ s ∈ l, s.size = N) (hN : N ≤ 1024) (hn : n ≤ 1048576) :
    Calls Try.prog 43 #[v] w fun e w' => ∃ v', e = .returned (.tuple #[.string ⟨(voteTo l N).toArray⟩, v']) ∧ w'.ownsRow w.heap.size 2 1 v' (placesTo (diffAt l) N).length (I64 (placesTo (diffAt l) N)) ∧ Below w.heap.size w w' := by
  obtain ⟨i0, hti, hz0, hz1, hz2⟩ := info_parts Try.infoU8v
  obtain ⟨i1, hti1, hy0, hy1, hy2⟩ := info_parts Try.infoI64v
  have hlx : l.length = n := by have := h.1; rw [Strs_len] at this; omega
  have HOW := Hid.in_ h
  obtain ⟨A, c, rfl, _, _, hA⟩ := own_shape h
  have HL := Hid.in_ hlx
  have HZ := Hid.in_ hk
  obtain ⟨g, rfl, _, hg, hx, _⟩ := hA h0
  obtain ⟨s0, hs0⟩ := get_lt l 0 (by omega)
  have HX := Hid.in_ (hx 0 _ (Strs_get hs0))
  have hsz0 := hk s0 (List.mem_of_getElem? hs0)
  clear hA h hlx hk hx hs0
  go_enter Try.func43, Try.ntmps43
  go_wp2_with fail
  go_loopg [4, 5, 6] N (fun m v u i wr => ∃ k : Nat, k + m = N ∧ i = .int .i64 k ∧ Hid (wr.ownsRow w.heap.size 5 1 v k (Lib.byteCells (voteTo l k))) ∧ Hid (wr.ownsRow w.heap.size 2 1 u (placesTo (diffAt l) k).length (I64 (placesTo (diffAt l) k))) ∧ Hid (Below w.heap.size w wr))
  case atStart =>
    refine ⟨0, by omega, rfl, ?_, ?_, ?_⟩
    · exact ostep (balloc (Below.refl _ _) _) (World.ownsRow_lit (size := 1) (e := 5) w #[] 0 (Nat.le_refl _) (by decide) (by decide))
    · have hsz : (w.alloc (.cells #[] 5)).heap.size = w.heap.size + 1 := by unfold World.alloc; exact Array.size_push _
      have h := World.ownsRow_lit (base := w.heap.size) (size := 1) (e := 2) (w.alloc (.cells #[] 5)) #[] 0 (by omega) (by decide) (by decide)
      rw [hsz] at h
      exact h
    · exact balloc (balloc (Below.refl _ _) _) _
  case round =>
    obtain ⟨k, hkm, rfl, HI, HP, HB⟩ := hrel
    have HK := Hid.in_ hkm
    clear hkm
    have c0 := cstep HB.out HX.out
    by_cases hlt : k < N
    · have HO := Hid.in_ (ostep HB.out HOW.out)
      have HPL := Hid.in_ (placesTo_len (diffAt l) k)
      go_wp2_with fail
      refine (spec_l10Byte k _ HO.out HL.out (fun s hs => by have := HZ.out s hs; omega) (by omega)).mono ?_
      rintro e w2 ⟨rfl, rfl⟩
      obtain ⟨X, hX⟩ : ∃ X, bestTo l k 256 = X := ⟨_, rfl⟩
      have HW := Hid.in_ (vote_cell l k X hX)
      have hXb := bestTo_le l k 256
      rw [hX] at hXb ⊢
      clear hX
      cases hd : diffAt l k
      · have HPN := Hid.in_ (placesTo_no hd)
        clear hd
        go_wp2_with (at_builtin; refine wpList_append_own _ rfl _ _ 107 rfl w.heap.size 5 i0 (.int .u8 0) 1 1 Try.underlying107 hti hz0 hz1 hz2 rfl (by decide) _ _ _ rfl (HI.out.alloc _) ⟨wr.heap.size, 0, none⟩ 1 1 [.int .u8 (X : Int)] rfl rfl (cell_one_new _ _ _) (fun x hx => by simp at hx; subst hx; rfl) (by unfold maxLen; omega) (by omega) (balloc HB.out _).size ?_; intro v4 w4 ho4 hg4 _)
        have HB4 := Hid.in_ (bgrown (balloc HB.out _) (HI.out.alloc _) (Nat.le_refl _) hg4)
        have HP4 := Hid.in_ (kept_apart (by decide) (HP.out.alloc _) (HI.out.alloc _) hg4)
        have HO4 := Hid.in_ (show w4.ownsRow w.heap.size 5 1 v4 (k + 1) (Lib.byteCells (voteTo l (k + 1))) by rw [← HW.out]; exact ho4)
        clear ho4 hg4
        have hk := HK.out
        go_roundg (gk - 1)
        case measure => omega
        case rel => exact ⟨k + 1, by omega, by go_num, HO4, by rw [HPN.out]; exact HP4, HB4⟩
      · have HPN := Hid.in_ (placesTo_yes hd)
        clear hd
        go_wp2_with (first
          | (at_builtin; refine wpList_append_own _ rfl _ _ 107 rfl w.heap.size 5 i0 (.int .u8 0) 1 1 Try.underlying107 hti hz0 hz1 hz2 rfl (by decide) _ _ _ rfl (HI.out.alloc _) ⟨wr.heap.size, 0, none⟩ 1 1 [.int .u8 (X : Int)] rfl rfl (cell_one_new _ _ _) (fun x hx => by simp at hx; subst hx; rfl) (by unfold maxLen; omega) (by omega) (balloc HB.out _).size ?_; intro v4 w4 ho4 hg4 _; have HB4 := Hid.in_ (bgrown (balloc HB.out _) (HI.out.alloc _) (Nat.le_refl _) hg4); have HP4 := Hid.in_ (kept_apart (by decide) (HP.out.alloc _) (HI.out.alloc _) hg4); have HO4 := Hid.in_ (show w4.ownsRow w.heap.size 5 1 v4 (k + 1) (Lib.byteCells (voteTo l (k + 1))) by rw [← HW.out]; exact ho4); clear ho4 hg4)
          | (at_builtin; refine wpList_append_own _ rfl _ _ 24 rfl w.heap.size 2 i1 (.int .i64 0) 1 8 Try.underlying24 hti1 hy0 hy1 hy2 rfl (by decide) _ _ _ rfl (HP4.out.alloc _) ⟨w4.heap.size, 0, none⟩ 1 1 [.int .i64 (k : Int)] rfl rfl (cell_one_new _ _ _) (fun x hx => by simp at hx; subst hx; rfl) (by have := HPL.out; unfold maxLen; omega) (by have := HPL.out; omega) (balloc HB4.out _).size ?_; intro v6 w6 ho6 hg6 _))
        have HB6 := Hid.in_ (bgrown (balloc HB4.out _) (HP4.out.alloc _) (Nat.le_refl _) hg6)
        have HO6 := Hid.in_ (kept_apart (by decide) (HO4.out.alloc _) (HP4.out.alloc _) hg6)
        have HP6 := Hid.in_ (show w6.ownsRow w.heap.size 2 1 v6 (placesTo (diffAt l) (k + 1)).length (I64 (placesTo (diffAt l) (k + 1))) by rw [HPN.out, List.length_append, I64_app]; exact ho6)
        clear ho6 hg6
        have hk := HK.out
        go_roundg (gk - 1)
        case measure => omega
        case rel => exact ⟨k + 1, by omega, by go_num, HO6, HP6, HB6⟩
    · have hk := HK.out
      obtain rfl : k = N := by omega
      have hc := conv_own Try.underlying107 Try.underlying5 Try.underlying9 HI.out
      go_wp2
      go_ret2
      exact ⟨_, rfl, HP.out, HB.out⟩
end Go.Proofs.Ytlelgpknkgjaeaa
