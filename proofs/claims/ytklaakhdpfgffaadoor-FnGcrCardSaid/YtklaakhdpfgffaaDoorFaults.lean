/- 'GcrFaults' of the program and of the reference: which groups are of no value. -/
import Derived.Test.YtklaakhdpfgffaaDoorCells
import Derived.Test.YtklaakhdpfgffaaDoorGcr
import Derived.Test.YtklaakhdpfgffaaDoorI64
import Derived.Test.YtklaakhdpfgffaaDoorRow
import Derived.Lib.Builder
import Derived.Laws.DeepStrings4
namespace Go.Proofs.YtklaakhdpfgffaaDoor
open Go.ChangeShapes Go.WideShapes Go.ChangeAt Go.RowKit
set_option linter.unusedSimpArgs false
set_option linter.unusedVariables false
set_option maxRecDepth 4000

theorem Tryd.infoI64 : (Tryd.prog.info? 2).map (fun i => (i.zero, i.size, i.bytes)) = some (some (.int .i64 0), 1, 8) := by kernel_rfl
def grpAt (s : ByteArray) (k : Nat) : ByteArray := s.extract (5 * k) (5 * k + 5)
theorem I64_append (a b : List Int) : I64 (a ++ b) = I64 a ++ I64 b := by unfold I64; exact List.map_append
def isGrps (s : ByteArray) : Bool := cellStr s && decide ((s.size : Int) % 5 = 0)
def faultsTo (s : ByteArray) : Nat → List Int
  | 0 => []
  | k + 1 => faultsTo s k ++ (if gcrValue (grpAt s k) < 0 then [(k : Int)] else [])
theorem faultsTo_len (s : ByteArray) : ∀ k, (faultsTo s k).length ≤ k
  | 0 => Nat.le_refl _
  | k + 1 => by
    have := faultsTo_len s k
    unfold faultsTo
    split <;> simp <;> omega
theorem faultsTo_bad {s : ByteArray} {k : Nat} (h : gcrValue (grpAt s k) < 0) : faultsTo s (k + 1) = faultsTo s k ++ [(k : Int)] := by
  show faultsTo s k ++ (if gcrValue (grpAt s k) < 0 then [(k : Int)] else []) = _
  rw [if_pos h]
theorem faultsTo_good {s : ByteArray} {k : Nat} (h : ¬ gcrValue (grpAt s k) < 0) : faultsTo s (k + 1) = faultsTo s k := by
  show faultsTo s k ++ (if gcrValue (grpAt s k) < 0 then [(k : Int)] else []) = _
  rw [if_neg h, List.append_nil]
def faults (s : ByteArray) : List Int := if isGrps s = true then faultsTo s (s.size / 5) else []
theorem faults_len (s : ByteArray) : (faults s).length ≤ s.size := by
  unfold faults
  split
  · have := faultsTo_len s (s.size / 5)
    omega
  · exact Nat.zero_le _
theorem grps_cases (s : ByteArray) : (cellStr s = false ∧ Hid (isGrps s = false)) ∨ (cellStr s = true ∧ ((s.size : Int) % 5 == 0) = false ∧ Hid (isGrps s = false)) ∨ (cellStr s = true ∧ ((s.size : Int) % 5 == 0) = true ∧ Hid (isGrps s = true)) := by
  unfold Hid isGrps
  cases cellStr s
  · simp
  · by_cases h : (s.size : Int) % 5 = 0
    · exact .inr (.inr ⟨rfl, beq_iff_eq.2 h, by rw [decide_eq_true h]; rfl⟩)
    · exact .inr (.inl ⟨rfl, beq_eq_false_iff_ne.2 h, by rw [decide_eq_false h]; rfl⟩)
theorem grps_size {s : ByteArray} (h : isGrps s = true) : ∃ n, s.size = 5 * n ∧ s.size / 5 = n ∧ s.size ≤ 8000 := by
  unfold isGrps cellStr at h
  simp only [Bool.and_eq_true, decide_eq_true_eq] at h
  exact ⟨s.size / 5, by omega, rfl, h.1.2⟩
theorem impl_isGroups (s : ByteArray) (w : World) (hs : s.size ≤ 1048576) :
    Calls Tryd.prog 54 #[.string s] w fun e w' => e = .returned (.bool (isGrps s)) ∧ Below w.heap.size w w' := by
  have HC := Hid.in_ (impl_isCellString s w (by omega))
  obtain ⟨h1, HV⟩ | ⟨h1, h2, HV⟩ | ⟨h1, h2, HV⟩ := grps_cases s
  all_goals
    rw [h1] at HC
    go_enter Tryd.func54, Tryd.ntmps54
    go_wp2_with (go_at_call 49; refine HC.out.mono ?_; rintro e w' ⟨rfl, hB⟩)
    go_ret
    exact ⟨ret_bool HV.out.symm, hB⟩
set_option maxHeartbeats 1000000 in
theorem impl_GcrFaults (s : ByteArray) (w : World) (hs : s.size ≤ 1048576) (hT : Tab w) :
    Calls Tryd.prog 30 #[.string s] w fun e w' => ∃ v, e = .returned v ∧ w'.ownsRow w.heap.size 2 1 v (faults s).length (I64 (faults s)) ∧ Below w.heap.size w w' := by
  obtain ⟨i0, hti, hz0, hz1, hz2⟩ := info_parts Tryd.infoI64
  have HC := Hid.in_ (impl_isGroups s w hs)
  have HT := Hid.in_ hT
  clear hT
  cases hg : isGrps s
  · rw [hg] at HC
    have HF := Hid.in_ (show faults s = [] by unfold faults; rw [hg]; rfl)
    clear hg
    go_enter Tryd.func30, Tryd.ntmps30
    go_wp2_with (go_at_call 54; refine HC.out.mono ?_; rintro e w1 ⟨rfl, hb1⟩)
    go_ret
    rw [HF.out]
    exact ⟨_, rfl, World.ownsRow_nil _ _ _ _, hb1⟩
  · rw [hg] at HC
    obtain ⟨N, hN, hN2, h8⟩ := grps_size hg
    have HF := Hid.in_ (show faults s = faultsTo s N by unfold faults; rw [hg, hN2]; rfl)
    clear hg
    go_enter Tryd.func30, Tryd.ntmps30
    go_wp2_with (go_at_call 54; refine HC.out.mono ?_; rintro e w1 ⟨rfl, hb1⟩)
    have HB1 := Hid.in_ hb1
    clear hb1
    go_loopg [3, 4] N (fun m v i wr => ∃ k : Nat, k + m = N ∧ i = .int .i64 (5 * (k : Int)) ∧ Hid (wr.ownsRow w.heap.size 2 1 v (faultsTo s k).length (I64 (faultsTo s k))) ∧ Hid (Below w.heap.size w wr))
    case atStart => exact ⟨0, by omega, rfl, World.ownsRow_nil _ _ _ _, HB1.out⟩
    case round =>
      obtain ⟨k, hkm, rfl, HI, HB⟩ := hrel
      have HK := Hid.in_ hkm
      clear hkm
      by_cases hlt : k < N
      · have HL := Hid.in_ (faultsTo_len s k)
        go_wp2_with fail
        rw [show s.extract (5 * k) (5 * k + 5) = grpAt s k from rfl]
        refine (impl_GcrValue _ _ (Tab.step HB.out HT.out)).mono ?_
        rintro e w2 ⟨rfl, rfl⟩
        by_cases hneg : gcrValue (grpAt s k) < 0
        · have HN := Hid.in_ (faultsTo_bad hneg)
          generalize gcrValue (grpAt s k) = g at *
          have hd5 : (5 * (k : Int)) / 5 = k := by omega
          go_wp2_with (at_builtin; refine wpList_append_own _ rfl _ _ 35 rfl w.heap.size 2 i0 (.int .i64 0) 1 8 Tryd.underlying35 hti hz0 hz1 hz2 rfl (by decide) _ _ _ rfl (HI.out.alloc _) ⟨wr.heap.size, 0, none⟩ 1 1 [.int .i64 k] rfl rfl (cell_one_new _ _ _) (fun x hx => by simp at hx; subst hx; rfl) (by have := HL.out; unfold maxLen; omega) (by have := HL.out; omega) (balloc HB.out _).size ?_; intro v4 w4 ho4 hg4 _)
          have HB4 := Hid.in_ (bgrown (balloc HB.out _) (HI.out.alloc _) (Nat.le_refl _) hg4)
          have hk := HK.out
          go_roundg (gk - 1)
          case measure => omega
          case rel => exact ⟨k + 1, by omega, by go_num, by rw [HN.out, List.length_append, I64_append]; exact ho4, HB4.out⟩
        · have HN := Hid.in_ (faultsTo_good hneg)
          generalize gcrValue (grpAt s k) = g at *
          go_wp2
          have hk := HK.out
          go_roundg (gk - 1)
          case measure => omega
          case rel => exact ⟨k + 1, by omega, by go_num, by rw [HN.out]; exact HI.out, HB.out⟩
      · have hk := HK.out
        obtain rfl : k = N := by omega
        go_wp2
        go_ret
        rw [HF.out]
        exact ⟨_, rfl, HI.out, HB.out⟩
end Go.Proofs.YtklaakhdpfgffaaDoor
