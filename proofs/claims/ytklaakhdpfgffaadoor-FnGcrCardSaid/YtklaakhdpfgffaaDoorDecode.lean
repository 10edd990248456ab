/- 'DecodeGcr' of the program and of the reference. -/
import Derived.Test.YtklaakhdpfgffaaDoorFaults
import Derived.Test.YtklaakhdpfgffaaDoorStr
namespace Go.Proofs.YtklaakhdpfgffaaDoor
open Go.ChangeShapes Go.WideShapes Go.ChangeAt Go.RowKit
set_option linter.unusedSimpArgs false
set_option linter.unusedVariables false
set_option maxRecDepth 4000

theorem Tryd.infoU8 : (Tryd.prog.info? 5).map (fun i => (i.zero, i.size, i.bytes)) = some (some (.int .u8 0), 1, 1) := by kernel_rfl
def gV (s : ByteArray) (j : Nat) : Int := gcrValue (grpAt s j)
theorem gcrValue_in (g : ByteArray) : -1 ≤ gcrValue g ∧ gcrValue g ≤ 15 := by
  unfold gcrValue
  split
  · rename_i i h
    have := List.mem_of_find?_eq_some h
    rw [List.mem_range] at this
    omega
  · omega
def decByte (s : ByteArray) (k : Nat) : UInt8 := UInt8.ofNat (16 * gV s (2 * k) + gV s (2 * k + 1)).toNat
def decTo (s : ByteArray) (k : Nat) : List UInt8 := (List.range k).map (decByte s)
theorem decTo_len (s : ByteArray) (k : Nat) : (decTo s k).length = k := by simp [decTo]
theorem decTo_next (s : ByteArray) (k : Nat) : decTo s (k + 1) = decTo s k ++ [decByte s k] := by
  unfold decTo
  rw [List.range_succ, List.map_append]
  rfl
theorem decByte_val {s : ByteArray} {k : Nat} (h : ¬ gV s (2 * k) < 0) (h' : ¬ gV s (2 * k + 1) < 0) : Lib.byteCells (decTo s k) ++ [.int .u8 (16 * gV s (2 * k) + gV s (2 * k + 1))] = Lib.byteCells (decTo s (k + 1)) := by
  rw [decTo_next]
  unfold Lib.byteCells
  rw [List.map_append]
  congr 1
  have h1 := gcrValue_in (grpAt s (2 * k))
  have h2 := gcrValue_in (grpAt s (2 * k + 1))
  unfold decByte gV at *
  generalize gcrValue (grpAt s (2 * k)) = a at *
  generalize gcrValue (grpAt s (2 * k + 1)) = b at *
  show _ = [Value.int .u8 ((UInt8.ofNat (16 * a + b).toNat).toNat : Int)]
  rw [UInt8.toNat_ofNat']
  congr 2
  omega
def isDec (s : ByteArray) : Bool := cellStr s && decide ((s.size : Int) % 10 = 0)
def decGood (s : ByteArray) : Bool := (List.range (2 * (s.size / 10))).all fun j => decide (0 ≤ gV s j)
def decB (s : ByteArray) : Bool := isDec s && decGood s
def decV (s : ByteArray) : ByteArray := if decB s = true then ⟨(decTo s (s.size / 10)).toArray⟩ else ⟨#[]⟩
theorem decGood_no {s : ByteArray} {j : Nat} (hj : j < 2 * (s.size / 10)) (h : gV s j < 0) : decB s = false ∧ decV s = ⟨#[]⟩ := by
  have : decGood s = false := by
    unfold decGood
    rw [List.all_eq_false]
    exact ⟨j, List.mem_range.2 hj, by simp; omega⟩
  have hb : decB s = false := by unfold decB; rw [this, Bool.and_false]
  exact ⟨hb, if_neg (by rw [hb]; decide)⟩
theorem decGood_yes {s : ByteArray} {N : Nat} (hN : s.size / 10 = N) (hd : isDec s = true) (h : ∀ j, j < 2 * N → 0 ≤ gV s j) : decB s = true ∧ decV s = ⟨(decTo s N).toArray⟩ := by
  have : decGood s = true := by
    unfold decGood
    rw [hN, List.all_eq_true]
    intro j hj
    have := h j (List.mem_range.1 hj)
    simp
    omega
  have hb : decB s = true := by unfold decB; rw [this, hd]; rfl
  exact ⟨hb, by unfold decV; rw [if_pos hb, hN]⟩
theorem dec_cases (s : ByteArray) : (cellStr s = false ∧ Hid (decB s = false ∧ decV s = ⟨#[]⟩)) ∨ (cellStr s = true ∧ ((s.size : Int) % 10 != 0) = true ∧ Hid (decB s = false ∧ decV s = ⟨#[]⟩)) ∨ (cellStr s = true ∧ ((s.size : Int) % 10 != 0) = false ∧ Hid (isDec s = true ∧ ∃ N, s.size = 10 * N ∧ s.size / 10 = N ∧ s.size ≤ 8000)) := by
  have hno : isDec s = false → decB s = false ∧ decV s = ⟨#[]⟩ := fun h => by
    have hb : decB s = false := by unfold decB; rw [h]; rfl
    exact ⟨hb, if_neg (by rw [hb]; decide)⟩
  cases h : cellStr s
  · exact .inl ⟨rfl, hno (by unfold isDec; rw [h]; rfl)⟩
  · by_cases h' : (s.size : Int) % 10 = 0
    · refine .inr (.inr ⟨rfl, by simp [h'], by unfold isDec; rw [h, decide_eq_true h']; rfl, s.size / 10, by omega, rfl, ?_⟩)
      unfold cellStr at h
      simp only [Bool.and_eq_true, decide_eq_true_eq] at h
      exact h.2
    · exact .inr (.inl ⟨rfl, bne_iff_ne.2 h', hno (by unfold isDec; rw [decide_eq_false h', Bool.and_false])⟩)
theorem good_next {s : ByteArray} {k : Nat} (H : ∀ j, j < 2 * k → 0 ≤ gV s j) (h : ¬ gV s (2 * k) < 0) (h' : ¬ gV s (2 * k + 1) < 0) : ∀ j, j < 2 * (k + 1) → 0 ≤ gV s j := fun j hj => by
  rcases Nat.lt_or_ge j (2 * k) with h1 | h1
  · exact H j h1
  · obtain rfl | rfl : j = 2 * k ∨ j = 2 * k + 1 := by omega
    · omega
    · omega
theorem ret2_sb' {a b : ByteArray} {x y : Bool} (h : a = b) (k : x = y) : Ending.returned (.tuple #[.string a, .bool x]) = .returned (.tuple #[.string b, .bool y]) := by rw [h, k]
set_option maxHeartbeats 2000000 in
theorem impl_DecodeGcr (s : ByteArray) (w : World) (hs : s.size ≤ 1048576) (hT : Tab w) :
    Calls Tryd.prog 29 #[.string s] w fun e w' => e = .returned (.tuple #[.string (decV s), .bool (decB s)]) ∧ Below w.heap.size w w' := by
  obtain ⟨i0, hti, hz0, hz1, hz2⟩ := info_parts Tryd.infoU8
  have HC := Hid.in_ (impl_isCellString s w (by omega))
  have HT := Hid.in_ hT
  clear hT
  obtain ⟨h1, HV⟩ | ⟨h1, h2, HV⟩ | ⟨h1, h2, HV⟩ := dec_cases s
  case inr.inr =>
    rw [h1] at HC
    obtain ⟨hd, N, hN, hN2, h8⟩ := HV.out
    have HD := Hid.in_ hd
    have HN2 := Hid.in_ hN2
    clear hd hN2 HV
    go_enter Tryd.func29, Tryd.ntmps29
    go_wp2_with (go_at_call 49; refine HC.out.mono ?_; rintro e w1 ⟨rfl, hb1⟩)
    have HB1 := Hid.in_ hb1
    clear hb1
    go_loopg [4, 5] N (fun m v i wr => ∃ k : Nat, k + m = N ∧ i = .int .i64 (10 * (k : Int)) ∧ Hid (wr.ownsRow w.heap.size 5 1 v k (Lib.byteCells (decTo s k))) ∧ Hid (Below w.heap.size w wr) ∧ Hid (∀ j, j < 2 * k → 0 ≤ gV s j))
    case atStart => exact ⟨0, by omega, rfl, World.ownsRow_nil _ _ _ _, HB1.out, fun j hj => by omega⟩
    case round =>
      obtain ⟨k, hkm, rfl, HI, HB, HG⟩ := hrel
      have HK := Hid.in_ hkm
      clear hkm
      by_cases hlt : k < N
      · have HTW := Hid.in_ (Tab.step HB.out HT.out)
        go_wp2_with fail
        go_quiet ((go_at_call 53; first | exact quiet_left (impl_GcrValue _ _ HTW.out) | exact quiet_left (impl_GcrValue _ _ (HTW.out : Tab (World.drewN _ _)))))
        have HB4 := Hid.in_ (below_drewN HB.out nq)
        have HO4 := Hid.in_ (own_drewN HI.out nq)
        generalize wr.drewN nq = w4 at *
        have q1 := gcrValue_in (s.extract (10 * k) (10 * k + 5))
        have q2 := gcrValue_in (s.extract (10 * k + 5) (10 * k + 10))
        have HX := Hid.in_ (show gcrValue (s.extract (10 * k) (10 * k + 5)) = gV s (2 * k) by unfold gV grpAt; rw [show 5 * (2 * k) = 10 * k by omega])
        have HY := Hid.in_ (show gcrValue (s.extract (10 * k + 5) (10 * k + 10)) = gV s (2 * k + 1) by unfold gV grpAt; rw [show 5 * (2 * k + 1) = 10 * k + 5 by omega])
        generalize gcrValue (s.extract (10 * k) (10 * k + 5)) = a at *
        generalize gcrValue (s.extract (10 * k + 5) (10 * k + 10)) = b at *
        by_cases ha : a < 0
        · have HQ := Hid.in_ (decGood_no (s := s) (j := 2 * k) (by rw [HN2.out]; omega) (by rw [← HX.out]; exact ha))
          go_wp2
          go_ret2
          exact ⟨ret2_sb' HQ.out.2.symm HQ.out.1.symm, HB4.out⟩
        by_cases hb : b < 0
        · have HQ := Hid.in_ (decGood_no (s := s) (j := 2 * k + 1) (by rw [HN2.out]; omega) (by rw [← HY.out]; exact hb))
          go_wp2
          go_ret2
          exact ⟨ret2_sb' HQ.out.2.symm HQ.out.1.symm, HB4.out⟩
        · have HW := Hid.in_ (decByte_val (s := s) (k := k) (by rw [← HX.out]; exact ha) (by rw [← HY.out]; exact hb))
          have HG2 := Hid.in_ (good_next HG.out (by rw [← HX.out]; exact ha) (by rw [← HY.out]; exact hb))
          go_wp2_with (at_builtin; refine wpList_append_own _ rfl _ _ 44 rfl w.heap.size 5 i0 (.int .u8 0) 1 1 Tryd.underlying44 hti hz0 hz1 hz2 rfl (by decide) _ _ _ rfl (HO4.out.alloc _) ⟨w4.heap.size, 0, none⟩ 1 1 [.int .u8 (16 * a + b)] rfl rfl (cell_one_new _ _ _) (fun x hx => by simp at hx; subst hx; rfl) (by unfold maxLen; omega) (by omega) (balloc HB4.out _).size ?_; intro v6 w6 ho6 hg6 _)
          have HB6 := Hid.in_ (bgrown (balloc HB4.out _) (HO4.out.alloc _) (Nat.le_refl _) hg6)
          rw [HX.out, HY.out, HW.out] at ho6
          have HO6 := Hid.in_ ho6
          clear ho6 hg6
          have hk := HK.out
          go_roundg (gk - 1)
          case measure => omega
          case rel => exact ⟨k + 1, by omega, by go_num, HO6, HB6, HG2⟩
      · have hk := HK.out
        obtain rfl : k = N := by omega
        have HQ := Hid.in_ (decGood_yes HN2.out HD.out HG.out)
        have hc := conv_own Tryd.underlying44 Tryd.underlying5 Tryd.underlying9 HI.out
        go_wp2
        go_ret2
        exact ⟨ret2_sb' HQ.out.2.symm HQ.out.1.symm, HB.out⟩
  all_goals
    rw [h1] at HC
    go_enter Tryd.func29, Tryd.ntmps29
    go_wp2_with (go_at_call 49; refine HC.out.mono ?_; rintro e w1 ⟨rfl, hb1⟩)
    go_ret2
    exact ⟨ret2_sb' HV.out.2.symm HV.out.1.symm, hb1⟩
end Go.Proofs.YtklaakhdpfgffaaDoor
