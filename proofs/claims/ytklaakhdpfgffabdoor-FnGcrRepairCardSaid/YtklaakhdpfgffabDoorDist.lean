/- 'GcrDistance' of the program and of the reference: at how many places two groups differ. -/
import Derived.Test.YtklaakhdpfgffabDoorCells
namespace Go.Proofs.YtklaakhdpfgffabDoor
open Go.ChangeShapes Go.WideShapes Go.ChangeAt Go.RowKit
set_option linter.unusedSimpArgs false
set_option linter.unusedVariables false

def byteAt (s : ByteArray) (k : Nat) : UInt8 := s.data.toList.getD k 0
theorem byteAt_eq {s : ByteArray} {k : Nat} (h : k < s.size) : byteAt s k = s[k] := by
  have h' : k < s.data.toList.length := by simpa using h
  unfold byteAt
  rw [List.getD_eq_getElem?_getD, List.getElem?_eq_getElem h']
  simp
  rfl
def distTo (a b : ByteArray) : Nat → Nat
  | 0 => 0
  | k + 1 => distTo a b k + if byteAt a k = byteAt b k then 0 else 1
theorem distTo_le (a b : ByteArray) : ∀ k, distTo a b k ≤ k
  | 0 => Nat.le_refl _
  | k + 1 => by
    have := distTo_le a b k
    unfold distTo
    split <;> omega
def isGrp (s : ByteArray) : Bool := decide (s.size = 5) && allBits s
def gcrDist (a b : ByteArray) : Int := if isGrp a = true ∧ isGrp b = true then (distTo a b 5 : Nat) else -1
theorem distTo_next {a b : ByteArray} {k : Nat} (ha : k < a.size) (hb : k < b.size) {c d : UInt8} (hc : a[k] = c) (hd : b[k] = d) :
    (((c.toNat : Int) != (d.toNat : Int)) = false ∧ Hid (distTo a b (k + 1) = distTo a b k)) ∨ (((c.toNat : Int) != (d.toNat : Int)) = true ∧ Hid (distTo a b (k + 1) = distTo a b k + 1)) := by
  unfold Hid
  show _ ∧ distTo a b k + (if byteAt a k = byteAt b k then 0 else 1) = _ ∨ _ ∧ distTo a b k + (if byteAt a k = byteAt b k then 0 else 1) = _
  rw [byteAt_eq ha, byteAt_eq hb, hc, hd]
  by_cases h : c = d
  · left
    subst h
    exact ⟨by simp, by simp⟩
  · right
    refine ⟨bne_iff_ne.2 fun e => h (UInt8.toNat_inj.1 (by omega)), by rw [if_neg h]⟩
set_option maxHeartbeats 1000000 in
theorem impl_distance (a b : ByteArray) (w : World) (ha : a.size ≤ 9223372036854775807) (hb : a.size ≤ b.size) :
    Calls Tryd.prog 40 #[.string a, .string b] w fun e w' => e = .returned (.int .i64 (distTo a b a.size : Nat)) ∧ Below w.heap.size w w' := by
  go_enter Tryd.func40, Tryd.ntmps40
  go_wp2_with fail
  go_loopg [5, 9] a.size (fun m s i wr => ∃ k : Nat, k + m = a.size ∧ i = .int .i64 k ∧ s = .int .i64 (distTo a b k : Nat) ∧ Hid (Below w.heap.size w wr))
  case atStart => exact ⟨0, by omega, rfl, rfl, Below.refl _ _⟩
  case round =>
    obtain ⟨k, hkm, rfl, rfl, HB⟩ := hrel
    have HK := Hid.in_ hkm
    have hle := distTo_le a b k
    clear hkm
    by_cases hlt : k < a.size
    · have hlt2 : k < b.size := by omega
      obtain ⟨c, hc⟩ : ∃ c : UInt8, a[k] = c := ⟨_, rfl⟩
      obtain ⟨d, hd⟩ : ∃ d : UInt8, b[k] = d := ⟨_, rfl⟩
      obtain ⟨hq, HN⟩ | ⟨hq, HN⟩ := distTo_next hlt hlt2 hc hd
      all_goals
        generalize distTo a b k = X at *
        go_wp2_with fail
        go_quiet (fail)
        go_wp2
        have hk := HK.out
        go_roundg (gk - 1)
        case measure => omega
        case rel => exact ⟨k + 1, by omega, by go_num, by rw [HN.out]; try rfl, below_drewN HB.out _⟩
    · have hk := HK.out
      obtain rfl : k = a.size := by omega
      go_wp2
      go_ret
      exact ⟨rfl, HB.out⟩
theorem grp_cases (s : ByteArray) : (s.size ≠ 5 ∧ Hid (isGrp s = false)) ∨ (s.size = 5 ∧ allBits s = false ∧ Hid (isGrp s = false)) ∨ (s.size = 5 ∧ allBits s = true ∧ Hid (isGrp s = true)) := by
  unfold Hid isGrp
  by_cases h : s.size = 5 <;> cases allBits s <;> simp [h]
theorem impl_isGroup (s : ByteArray) (w : World) (hs : s.size ≤ 9223372036854775807) :
    Calls Tryd.prog 39 #[.string s] w fun e w' => e = .returned (.bool (isGrp s)) ∧ Below w.heap.size w w' := by
  have HC := Hid.in_ (impl_isBits s w hs)
  obtain ⟨h, HV⟩ | ⟨h, h2, HV⟩ | ⟨h, h2, HV⟩ := grp_cases s
  · go_enter Tryd.func39, Tryd.ntmps39
    go_wp2_with (go_at_call 63; refine HC.out.mono ?_; rintro e w' ⟨rfl, hB⟩)
    go_ret
    exact ⟨ret_bool HV.out.symm, Below.refl _ _⟩
  all_goals
    rw [h2] at HC
    go_enter Tryd.func39, Tryd.ntmps39
    go_wp2_with (go_at_call 63; refine HC.out.mono ?_; rintro e w' ⟨rfl, hB⟩)
    go_ret
    exact ⟨ret_bool HV.out.symm, hB⟩
theorem grp_size {s : ByteArray} (h : isGrp s = true) : s.size = 5 := by
  unfold isGrp at h
  simp only [Bool.and_eq_true, decide_eq_true_eq] at h
  exact h.1
theorem dist_no {a b : ByteArray} (h : isGrp a = false ∨ isGrp b = false) : gcrDist a b = -1 := by
  unfold gcrDist
  rw [if_neg]
  rintro ⟨h1, h2⟩
  rcases h with h | h <;> simp_all
theorem dist_yes {a b : ByteArray} (h : isGrp a = true) (k : isGrp b = true) : gcrDist a b = (distTo a b 5 : Nat) := by
  unfold gcrDist
  rw [if_pos ⟨h, k⟩]
set_option maxHeartbeats 1000000 in
theorem impl_GcrDistance (a b : ByteArray) (w : World) (ha : a.size ≤ 1048576) (hb : b.size ≤ 1048576) :
    Calls Tryd.prog 18 #[.string a, .string b] w fun e w' => e = .returned (.int .i64 (gcrDist a b)) ∧ Below w.heap.size w w' := by
  have HC := Hid.in_ (show ∀ (s : ByteArray) (w : World), s.size ≤ 1048576 → Calls Tryd.prog 39 #[.string s] w fun e w' => e = .returned (.bool (isGrp s)) ∧ Below w.heap.size w w' from fun s w h => impl_isGroup s w (by omega))
  cases hA : isGrp a
  · have HA := Hid.in_ hA
    have HV := Hid.in_ (dist_no (a := a) (b := b) (.inl hA))
    clear hA
    go_enter Tryd.func18, Tryd.ntmps18
    go_wp2_with fail
    refine (HC.out a _ ha).mono ?_
    rintro e w1 ⟨rfl, hb1⟩
    rw [HA.out]
    go_wp2
    go_ret
    exact ⟨ret_int HV.out.symm, hb1⟩
  cases hB : isGrp b
  · have HA := Hid.in_ hA
    have HBB := Hid.in_ hB
    have HV := Hid.in_ (dist_no (a := a) (b := b) (.inr hB))
    clear hA hB
    go_enter Tryd.func18, Tryd.ntmps18
    go_wp2_with fail
    refine (HC.out a _ ha).mono ?_
    rintro e w1 ⟨rfl, hb1⟩
    rw [HA.out]
    go_wp2_with fail
    refine (HC.out b _ hb).mono ?_
    rintro e w2 ⟨rfl, hb2⟩
    rw [HBB.out]
    have HB2 := Hid.in_ (bstep hb1 hb2)
    go_wp2
    go_ret
    exact ⟨ret_int HV.out.symm, HB2.out⟩
  · have HA := Hid.in_ hA
    have HBB := Hid.in_ hB
    have HV := Hid.in_ (dist_yes hA hB)
    have h5 := grp_size hA
    have h6 := grp_size hB
    clear hA hB
    have HD := Hid.in_ (show ∀ w : World, Calls Tryd.prog 40 #[.string a, .string b] w fun e w' => e = .returned (.int .i64 (distTo a b 5 : Nat)) ∧ Below w.heap.size w w' from fun w => by
      have := impl_distance a b w (by omega) (by omega)
      rwa [h5] at this)
    go_enter Tryd.func18, Tryd.ntmps18
    go_wp2_with fail
    refine (HC.out a _ ha).mono ?_
    rintro e w1 ⟨rfl, hb1⟩
    rw [HA.out]
    go_wp2_with fail
    refine (HC.out b _ hb).mono ?_
    rintro e w2 ⟨rfl, hb2⟩
    rw [HBB.out]
    have HB2 := Hid.in_ (bstep hb1 hb2)
    go_wp2_with fail
    refine (HD.out _).mono ?_
    rintro e w3 ⟨rfl, hb3⟩
    have HB3 := Hid.in_ (bstep HB2.out hb3)
    go_wp2
    go_ret
    exact ⟨ret_int HV.out.symm, HB3.out⟩
theorem dist_cases (a b : ByteArray) :
    (cellStr a = false ∧ Hid (gcrDist a b = -1)) ∨ (cellStr a = true ∧ cellStr b = false ∧ Hid (gcrDist a b = -1)) ∨
    (cellStr a = true ∧ cellStr b = true ∧ ¬ (a.size : Int) = 5 ∧ Hid (gcrDist a b = -1)) ∨ (cellStr a = true ∧ cellStr b = true ∧ (a.size : Int) = 5 ∧ ¬ (b.size : Int) = 5 ∧ Hid (gcrDist a b = -1)) ∨
    (cellStr a = true ∧ cellStr b = true ∧ (a.size : Int) = 5 ∧ (b.size : Int) = 5 ∧ Hid (gcrDist a b = (distTo a b 5 : Nat))) := by
  have hg : ∀ s : ByteArray, isGrp s = (cellStr s && decide (s.size = 5)) := fun s => by
    unfold isGrp cellStr
    by_cases h : s.size = 5
    · rw [decide_eq_true h, decide_eq_true (by omega : s.size ≤ 8000), Bool.true_and, Bool.and_true, Bool.and_true]
    · rw [decide_eq_false h, Bool.false_and, Bool.and_false]
  cases h1 : cellStr a
  · exact .inl ⟨rfl, dist_no (.inl (by rw [hg, h1, Bool.false_and]))⟩
  cases h2 : cellStr b
  · exact .inr (.inl ⟨rfl, rfl, dist_no (.inr (by rw [hg, h2, Bool.false_and]))⟩)
  by_cases h3 : a.size = 5
  · by_cases h4 : b.size = 5
    · exact .inr (.inr (.inr (.inr ⟨rfl, rfl, by omega, by omega, dist_yes (by rw [hg, h1, decide_eq_true h3]; rfl) (by rw [hg, h2, decide_eq_true h4]; rfl)⟩)))
    · exact .inr (.inr (.inr (.inl ⟨rfl, rfl, by omega, by omega, dist_no (.inr (by rw [hg, h2, decide_eq_false h4]; rfl))⟩)))
  · exact .inr (.inr (.inl ⟨rfl, rfl, by omega, dist_no (.inl (by rw [hg, h1, decide_eq_false h3]; rfl))⟩))
end Go.Proofs.YtklaakhdpfgffabDoor
