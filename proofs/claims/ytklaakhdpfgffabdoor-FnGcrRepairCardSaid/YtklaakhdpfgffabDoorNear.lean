/- 'NearestGcr' of the program and of the reference: the values whose code differs least from a group. -/
import Derived.Test.YtklaakhdpfgffabDoorDist
import Derived.Test.YtklaakhdpfgffabDoorFaults
namespace Go.Proofs.YtklaakhdpfgffabDoor
open Go.ChangeShapes Go.WideShapes Go.ChangeAt Go.RowKit
set_option linter.unusedSimpArgs false
set_option linter.unusedVariables false
set_option maxRecDepth 4000

theorem distTo_comm (a b : ByteArray) : ∀ k, distTo a b k = distTo b a k
  | 0 => rfl
  | k + 1 => by
    show distTo a b k + (if byteAt a k = byteAt b k then 0 else 1) = distTo b a k + (if byteAt b k = byteAt a k then 0 else 1)
    rw [distTo_comm a b k]
    by_cases h : byteAt a k = byteAt b k
    · rw [if_pos h, if_pos h.symm]
    · rw [if_neg h, if_neg fun e => h e.symm]
theorem gcrS_size {k : Nat} (h : k < 16) : (gcrS k).size = 5 := by
  obtain rfl | rfl | rfl | rfl | rfl | rfl | rfl | rfl | rfl | rfl | rfl | rfl | rfl | rfl | rfl | rfl : k = 0 ∨ k = 1 ∨ k = 2 ∨ k = 3 ∨ k = 4 ∨ k = 5 ∨ k = 6 ∨ k = 7 ∨ k = 8 ∨ k = 9 ∨ k = 10 ∨ k = 11 ∨ k = 12 ∨ k = 13 ∨ k = 14 ∨ k = 15 := by omega
  all_goals rfl
def nD (g : ByteArray) (k : Nat) : Nat := distTo g (gcrS k) 5
/-- The least difference among the first 'k' values, and those that have it. -/
def nearTo (g : ByteArray) : Nat → Nat × List Int
  | 0 => (6, [])
  | k + 1 => if nD g k < (nearTo g k).1 then (nD g k, [(k : Int)]) else if nD g k = (nearTo g k).1 then ((nearTo g k).1, (nearTo g k).2 ++ [(k : Int)]) else nearTo g k
theorem near_le (g : ByteArray) : ∀ k, (nearTo g k).1 ≤ 6 ∧ (nearTo g k).2.length ≤ k
  | 0 => ⟨Nat.le_refl _, Nat.le_refl _⟩
  | k + 1 => by
    have h := near_le g k
    unfold nearTo
    split
    · have : nD g k ≤ 5 := distTo_le _ _ _
      exact ⟨by show nD g k ≤ 6; omega, by show 1 ≤ k + 1; omega⟩
    · split
      · exact ⟨h.1, by simp; exact h.2⟩
      · exact ⟨h.1, by omega⟩
theorem near_less {g : ByteArray} {k : Nat} (h : nD g k < (nearTo g k).1) : nearTo g (k + 1) = (nD g k, [(k : Int)]) := by
  show (if nD g k < (nearTo g k).1 then (nD g k, [(k : Int)]) else if nD g k = (nearTo g k).1 then ((nearTo g k).1, (nearTo g k).2 ++ [(k : Int)]) else nearTo g k) = _
  rw [if_pos h]
theorem near_same {g : ByteArray} {k : Nat} (h : nD g k = (nearTo g k).1) : nearTo g (k + 1) = (nD g k, (nearTo g k).2 ++ [(k : Int)]) := by
  show (if nD g k < (nearTo g k).1 then (nD g k, [(k : Int)]) else if nD g k = (nearTo g k).1 then ((nearTo g k).1, (nearTo g k).2 ++ [(k : Int)]) else nearTo g k) = _
  rw [if_neg (by omega), if_pos h, h]
theorem near_more {g : ByteArray} {k : Nat} (h : (nearTo g k).1 < nD g k) : nearTo g (k + 1) = nearTo g k := by
  show (if nD g k < (nearTo g k).1 then (nD g k, [(k : Int)]) else if nD g k = (nearTo g k).1 then ((nearTo g k).1, (nearTo g k).2 ++ [(k : Int)]) else nearTo g k) = _
  rw [if_neg (by omega), if_neg (by omega)]
def nearest (g : ByteArray) : List Int := if isGrp g = true then (nearTo g 16).2 else []
theorem nearest_len (g : ByteArray) : (nearest g).length ≤ 16 := by
  unfold nearest
  split
  · exact (near_le g 16).2
  · exact Nat.zero_le _
set_option maxHeartbeats 2000000 in
theorem impl_NearestGcr (g : ByteArray) (w : World) (hs : g.size ≤ 1048576) (hT : Tab w) :
    Calls Tryd.prog 36 #[.string g] w fun e w' => ∃ v, e = .returned v ∧ w'.ownsRow w.heap.size 2 1 v (nearest g).length (I64 (nearest g)) ∧ Below w.heap.size w w' := by
  obtain ⟨i0, hti, hz0, hz1, hz2⟩ := info_parts Tryd.infoI64
  have HC := Hid.in_ (impl_isGroup g w (by omega))
  have HTT := Hid.in_ hT
  clear hT
  cases hg : isGrp g
  · rw [hg] at HC
    have HF := Hid.in_ (show nearest g = [] by unfold nearest; rw [hg]; rfl)
    clear hg
    go_enter Tryd.func36, Tryd.ntmps36
    go_wp2_with (go_at_call 39; refine HC.out.mono ?_; rintro e w1 ⟨rfl, hb1⟩)
    go_ret
    rw [HF.out]
    exact ⟨_, rfl, World.ownsRow_nil _ _ _ _, hb1⟩
  · rw [hg] at HC
    have h5 := grp_size hg
    have HF := Hid.in_ (show nearest g = (nearTo g 16).2 by unfold nearest; rw [hg]; rfl)
    clear hg
    go_enter Tryd.func36, Tryd.ntmps36
    go_wp2_with fail
    refine HC.out.mono ?_
    rintro e w1 ⟨rfl, hb1⟩
    obtain ⟨tt, ht⟩ := Tab.step hb1 HTT.out
    go_wp2_with (refine wpList_load_row rfl 65 _ rfl 0 rfl tt _ (0, 0) _ ht Tryd.underlying65 rfl (by kernel_rfl) ?_)
    have HB1 := Hid.in_ hb1
    clear hb1 ht
    go_loopg [3, 4, 12] 16 (fun m v b i wr => ∃ k : Nat, k + m = 16 ∧ i = .int .i64 k ∧ b = .int .i64 ((nearTo g k).1 : Nat) ∧ Hid (wr.ownsRow w.heap.size 2 1 v (nearTo g k).2.length (I64 (nearTo g k).2)) ∧ Hid (Below w.heap.size w wr))
    case atStart => exact ⟨0, by omega, rfl, rfl, World.ownsRow_nil _ _ _ _, HB1.out⟩
    case round =>
      obtain ⟨k, hkm, rfl, rfl, HI, HB⟩ := hrel
      have HK := Hid.in_ hkm
      clear hkm
      by_cases hlt : k < 16
      · have c0 := Tryd.gcr_index k hlt
        have HL := Hid.in_ (near_le g k)
        have HG5 := Hid.in_ (gcrS_size hlt)
        have HD := Hid.in_ (show ∀ w : World, Calls Tryd.prog 40 #[.string (gcrS k), .string g] w fun e w' => e = .returned (.int .i64 (nD g k : Nat)) ∧ Below w.heap.size w w' from fun w => by
          have h6 := HG5.out
          have := impl_distance (gcrS k) g w (by omega) (by omega)
          rw [h6, distTo_comm] at this
          exact this)
        go_wp2_with fail
        refine (HD.out _).mono ?_
        rintro e w2 ⟨rfl, hb2⟩
        have HO2 := Hid.in_ (own_below HI.out hb2 (Nat.le_refl _))
        have HB2 := Hid.in_ (HB.out.trans (hb2.mono HB.out.size))
        clear hb2 HI
        have hcs : Hid (nearTo g k = ((nearTo g k).1, (nearTo g k).2)) := rfl
        rcases Nat.lt_trichotomy (nD g k) (nearTo g k).1 with hcmp | hcmp | hcmp
        · have HN := Hid.in_ (near_less hcmp)
          generalize nD g k = n at *
          generalize (nearTo g k).1 = bb at *
          generalize (nearTo g k).2 = l at *
          go_wp2_with (at_builtin; refine wpList_append_own _ rfl _ _ 39 rfl w.heap.size 2 i0 (.int .i64 0) 1 8 Tryd.underlying39 hti hz0 hz1 hz2 rfl (by decide) _ _ _ rfl (World.ownsRow_nil _ w.heap.size 2 1) ⟨w2.heap.size, 0, none⟩ 1 1 [.int .i64 k] rfl rfl (cell_one_new _ _ _) (fun x hx => by simp at hx; subst hx; rfl) (by unfold maxLen; omega) (by omega) (balloc HB2.out _).size ?_; intro v4 w4 ho4 hg4 _)
          have HB4 := Hid.in_ (bgrown (balloc HB2.out _) (World.ownsRow_nil _ w.heap.size 2 1) (Nat.le_refl _) hg4)
          have hk := HK.out
          go_roundg (gk - 1)
          case measure => omega
          case rel => exact ⟨k + 1, by omega, by go_num, by rw [HN.out], by rw [HN.out]; exact ho4, HB4.out⟩
        · have HN := Hid.in_ (near_same hcmp)
          have HLL := Hid.in_ HL.out.2
          generalize nD g k = n at *
          generalize (nearTo g k).1 = bb at *
          generalize (nearTo g k).2 = l at *
          subst hcmp
          go_wp2_with (at_builtin; refine wpList_append_own _ rfl _ _ 39 rfl w.heap.size 2 i0 (.int .i64 0) 1 8 Tryd.underlying39 hti hz0 hz1 hz2 rfl (by decide) _ _ _ rfl (HO2.out.alloc _) ⟨w2.heap.size, 0, none⟩ 1 1 [.int .i64 k] rfl rfl (cell_one_new _ _ _) (fun x hx => by simp at hx; subst hx; rfl) (by have := HLL.out; unfold maxLen; omega) (by have := HLL.out; omega) (balloc HB2.out _).size ?_; intro v4 w4 ho4 hg4 _)
          have HB4 := Hid.in_ (bgrown (balloc HB2.out _) (HO2.out.alloc _) (Nat.le_refl _) hg4)
          have hk := HK.out
          go_roundg (gk - 1)
          case measure => omega
          case rel => exact ⟨k + 1, by omega, by go_num, by rw [HN.out], by rw [HN.out]; rw [List.length_append, I64_append]; exact ho4, HB4.out⟩
        · have HN := Hid.in_ (near_more hcmp)
          have hl := HL.out.1
          generalize nD g k = n at *
          go_wp2
          have hk := HK.out
          go_roundg (gk - 1)
          case measure => omega
          case rel => exact ⟨k + 1, by omega, by go_num, by rw [HN.out], by rw [HN.out]; exact HO2.out, HB2.out⟩
      · have hk := HK.out
        obtain rfl : k = 16 := by omega
        go_wp2
        go_ret
        rw [HF.out]
        exact ⟨_, rfl, HI.out, HB.out⟩
theorem alloc_sz2 (w : World) (o : Obj) : (w.alloc o).heap.size = w.heap.size + 1 := by unfold World.alloc; exact Array.size_push _
theorem box_grown {w w' : World} {b : Nat} {cs : List Value} {row : Option Nat} (h : Box w b cs) (hlt : b < w.heap.size) (hne : row ≠ some b) (hg : w.grownBy w' row) : Box w' b cs := fun j u hu => by
  rw [hg.cell_far ⟨b, j, none⟩ hlt (fun e => hne e.symm)]
  exact h j u hu
theorem near_cases (g : ByteArray) : (cellStr g = false ∧ Hid (isGrp g = false)) ∨ (cellStr g = true ∧ ¬ (g.size : Int) = 5 ∧ Hid (isGrp g = false)) ∨ (cellStr g = true ∧ (g.size : Int) = 5 ∧ Hid (isGrp g = true)) := by
  have hg : isGrp g = (cellStr g && decide (g.size = 5)) := by
    unfold isGrp cellStr
    by_cases h : g.size = 5
    · rw [decide_eq_true h, decide_eq_true (by omega : g.size ≤ 8000), Bool.true_and, Bool.and_true, Bool.and_true]
    · rw [decide_eq_false h, Bool.false_and, Bool.and_false]
  unfold Hid
  rw [hg]
  cases cellStr g
  · exact .inl ⟨rfl, rfl⟩
  · by_cases h : g.size = 5
    · exact .inr (.inr ⟨rfl, by omega, by rw [decide_eq_true h]; rfl⟩)
    · exact .inr (.inl ⟨rfl, by omega, by rw [decide_eq_false h]; rfl⟩)
end Go.Proofs.YtklaakhdpfgffabDoor
