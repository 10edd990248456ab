/- 'ValidRevolutions' of the program and of the reference: strings of cells, all of one length. -/
import Derived.Test.YtlelgpknkgjaeaaGreatDoorValid
import Derived.Test.YtlelgpknkgjaeaaGreatDoorStrs
import Derived.Test.YtlelgpknkgjaeaaGreatDoorCol
namespace Go.Proofs.YtlelgpknkgjaeaaGreatDoor
open Go.ChangeShapes Go.WideShapes Go.ChangeAt Go.RowKit
set_option linter.unusedSimpArgs false
set_option linter.unusedVariables false
set_option maxRecDepth 4000

def revOk (l : List ByteArray) (s : ByteArray) : Bool := validCells s && decide (s.size = revLen l)
def revsOk (l : List ByteArray) : Bool := inB l.length 1 5 && l.all (revOk l)
theorem revs_no {l : List ByteArray} {k : Nat} {s : ByteArray} (h : l[k]? = some s) (hb : revOk l s = false) : revsOk l = false := by
  unfold revsOk
  have : l.all (revOk l) = false := by
    rw [List.all_eq_false]
    exact ⟨s, List.mem_of_getElem? h, by rw [hb]; decide⟩
  rw [this, Bool.and_false]
theorem revs_yes {l : List ByteArray} (h1 : inB l.length 1 5 = true) (h : ∀ (j : Nat) (s : ByteArray), l[j]? = some s → revOk l s = true) : revsOk l = true := by
  unfold revsOk
  rw [h1, Bool.true_and, List.all_eq_true]
  intro s hs
  obtain ⟨i, hi, rfl⟩ := List.mem_iff_getElem.1 hs
  exact h i _ (List.getElem?_eq_getElem hi)
theorem revs_at {l : List ByteArray} (h : revsOk l = true) : 1 ≤ l.length ∧ l.length ≤ 5 ∧ 1 ≤ revLen l ∧ revLen l ≤ 8000 ∧ ∀ s ∈ l, s.size = revLen l ∧ allBits s = true := by
  unfold revsOk at h
  rw [Bool.and_eq_true, List.all_eq_true] at h
  obtain ⟨a1, a2⟩ := inB_t h.1
  have hall : ∀ s ∈ l, s.size = revLen l ∧ validCells s = true := fun s hs => by
    have := h.2 s hs
    unfold revOk at this
    rw [Bool.and_eq_true, decide_eq_true_eq] at this
    exact ⟨this.2, this.1⟩
  obtain ⟨s0, hs0⟩ := get_lt l 0 (by omega)
  have h0 := hall s0 (List.mem_of_getElem? hs0)
  have hv := valid_size h0.2
  exact ⟨by omega, by omega, by omega, by omega, fun s hs => ⟨(hall s hs).1, (valid_size (hall s hs).2).2.2⟩⟩
theorem rev_cases (l : List ByteArray) (s : ByteArray) : (validCells s = false ∧ Hid (revOk l s = false)) ∨ (validCells s = true ∧ (s.size : Int) ≠ (revLen l : Int) ∧ Hid (revOk l s = false)) ∨ (validCells s = true ∧ s.size = revLen l ∧ Hid (revOk l s = true)) := by
  unfold Hid revOk
  cases validCells s
  · exact .inl ⟨rfl, rfl⟩
  · by_cases h : s.size = revLen l
    · exact .inr (.inr ⟨rfl, h, by rw [decide_eq_true h]; rfl⟩)
    · exact .inr (.inl ⟨rfl, by omega, by rw [decide_eq_false h]; rfl⟩)
theorem rev_next {l : List ByteArray} {k : Nat} {s : ByteArray} (H : ∀ (j : Nat) (x : ByteArray), j < k → l[j]? = some x → revOk l x = true) (hs : l[k]? = some s) (hb : revOk l s = true) : ∀ (j : Nat) (x : ByteArray), j < k + 1 → l[j]? = some x → revOk l x = true := fun j x hj hx => by
  rcases Nat.lt_or_ge j k with h | h
  · exact H j x h hx
  · obtain rfl : j = k := by omega
    rw [hs] at hx
    injection hx with hx
    subst hx
    exact hb
theorem impl_sizeStr (A : Option Addr) (n c : Nat) (w : World) (hn : n ≤ 9223372036854775807) :
    Calls Tryz.prog 79 #[.slice A n c] w fun e w' => e = .returned (.int .i64 n) ∧ w = w' := by
  go_enter Tryz.func79, Tryz.ntmps79
  go_wp2
  go_ret
  exact ⟨rfl, rfl⟩
set_option maxHeartbeats 2000000 in
theorem impl_ValidRevolutions {v : Value} {n b : Nat} {l : List ByteArray} (w : World) (h : w.ownsRow b 9 1 v n (Strs l)) (hk : ∀ s ∈ l, s.size ≤ 9223372036854775807) :
    Calls Tryz.prog 46 #[v] w fun e w' => e = .returned (.bool (revsOk l)) ∧ Below w.heap.size w w' := by
  have hlx : l.length = n := by have := h.1; rw [Strs_len] at this; omega
  obtain ⟨A, c, rfl, _, hn, hA⟩ := own_shape h
  have HL := Hid.in_ hlx
  have H1 := Hid.in_ hA
  have HZ := Hid.in_ hk
  clear hA h hlx hk
  cases ht : inB (n : Int) 1 5
  · have HV : Hid (revsOk l = false) := by unfold Hid revsOk; rw [HL.out, ht]; rfl
    go_enter Tryz.func46, Tryz.ntmps46
    go_wp2_with (first | (go_at_call 56; refine (bool_is (impl_within _ _ _ _) (by assumption)).mono ?_; rintro e w' ⟨rfl, rfl⟩) | (go_at_call 79; refine (impl_sizeStr _ _ _ _ hn).mono ?_; rintro e w' ⟨rfl, rfl⟩))
    go_ret
    exact ⟨ret_bool HV.out.symm, Below.refl _ _⟩
  · obtain ⟨t1, t2⟩ := inB_t ht
    obtain ⟨s0, hs0, hz0⟩ := head_get (l := l) (by rw [HL.out]; omega)
    have HS0 := Hid.in_ hs0
    have hz1 := HZ.out s0 (List.mem_of_getElem? hs0)
    have HI := Hid.in_ (show inB (l.length : Int) 1 5 = true by rw [HL.out]; exact ht)
    clear hs0
    go_enter Tryz.func46, Tryz.ntmps46
    go_wp2_with (first | (go_at_call 56; refine (bool_is (impl_within _ _ _ _) (by assumption)).mono ?_; rintro e w' ⟨rfl, rfl⟩) | (go_at_call 79; refine (impl_sizeStr _ _ _ _ hn).mono ?_; rintro e w' ⟨rfl, rfl⟩))
    go_loopg [11] n (fun m i wr => ∃ k : Nat, k + m = n ∧ i = .int .i64 k ∧ Hid (∀ (j : Nat) (x : ByteArray), j < k → l[j]? = some x → revOk l x = true) ∧ Hid (Below w.heap.size w wr))
    case atStart => exact ⟨0, by omega, rfl, fun j x hj => by omega, Below.refl _ _⟩
    case round =>
      obtain ⟨k, hkm, rfl, HR, HB⟩ := hrel
      have HK := Hid.in_ hkm
      clear hkm
      obtain ⟨g, rfl, _, hg, hx, _⟩ := H1.out (by omega)
      by_cases hlt : k < n
      · obtain ⟨s, hs⟩ := get_lt l k (by rw [HL.out]; exact hlt)
        have c0 := hx.step HB.out k _ (Strs_get hs)
        have HX := Hid.in_ hx
        have hsz := HZ.out s (List.mem_of_getElem? hs)
        have HS := Hid.in_ hs
        have HC := Hid.in_ (fun w => impl_ValidCells s w hsz)
        clear hx hs
        obtain ⟨h1, HO⟩ | ⟨h1, h2, HO⟩ | ⟨h1, h2, HO⟩ := rev_cases l s
        all_goals
          rw [h1] at HC
          go_wp2_with fail
          refine (HC.out _).mono ?_
          rintro e w2 ⟨rfl, hb2⟩
          have HB2 := Hid.in_ (HB.out.trans (hb2.mono HB.out.size))
          have d0 := (HX.out.step HB2.out) 0 _ (Strs_get HS0.out)
          clear hb2
          go_wp2
        all_goals
          first
          | (go_ret; exact ⟨ret_bool (revs_no HS.out HO.out).symm, HB2.out⟩)
          | (have hk := HK.out
             go_roundg (gk - 1)
             case measure => omega
             case rel => exact ⟨_, by omega, by go_num, rev_next HR.out HS.out HO.out, HB2.out⟩)
      · have hk := HK.out
        obtain rfl : k = n := by omega
        go_wp2
        go_ret
        exact ⟨ret_bool (revs_yes HI.out fun j s hj => HR.out j s (by rw [← HL.out]; exact (List.getElem?_eq_some_iff.1 hj).1) hj).symm, HB.out⟩
set_option maxHeartbeats 2000000 in
theorem spec_l10Ok {v : Value} {n b : Nat} {l : List ByteArray} (w : World) (h : w.ownsRow b 9 1 v n (Strs l)) (hk : ∀ s ∈ l, s.size ≤ 9223372036854775807) :
    Calls Tryz.prog 44 #[v] w fun e w' => e = .returned (.bool (revsOk l)) ∧ Below w.heap.size w w' := by
  have hlx : l.length = n := by have := h.1; rw [Strs_len] at this; omega
  obtain ⟨A, c, rfl, _, hn, hA⟩ := own_shape h
  have HL := Hid.in_ hlx
  have H1 := Hid.in_ hA
  have HZ := Hid.in_ hk
  clear hA h hlx hk
  cases ht : inB (n : Int) 1 5
  · have HV : Hid (revsOk l = false) := by unfold Hid revsOk; rw [HL.out, ht]; rfl
    go_enter Tryz.func44, Tryz.ntmps44
    go_wp2_with (go_at_call 60; refine (bool_is (spec_l00In _ _ _ _) (by assumption)).mono ?_; rintro e w' ⟨rfl, rfl⟩)
    go_ret
    exact ⟨ret_bool HV.out.symm, Below.refl _ _⟩
  · obtain ⟨t1, t2⟩ := inB_t ht
    obtain ⟨s0, hs0, hz0⟩ := head_get (l := l) (by rw [HL.out]; omega)
    have HS0 := Hid.in_ hs0
    have hz1 := HZ.out s0 (List.mem_of_getElem? hs0)
    have HI := Hid.in_ (show inB (l.length : Int) 1 5 = true by rw [HL.out]; exact ht)
    clear hs0
    go_enter Tryz.func44, Tryz.ntmps44
    go_wp2_with (go_at_call 60; refine (bool_is (spec_l00In _ _ _ _) (by assumption)).mono ?_; rintro e w' ⟨rfl, rfl⟩)
    go_loopg [3] n (fun m i wr => ∃ k : Nat, k + m = n ∧ i = .int .i64 k ∧ Hid (∀ (j : Nat) (x : ByteArray), j < k → l[j]? = some x → revOk l x = true) ∧ Hid (Below w.heap.size w wr))
    case atStart => exact ⟨0, by omega, rfl, fun j x hj => by omega, Below.refl _ _⟩
    case round =>
      obtain ⟨k, hkm, rfl, HR, HB⟩ := hrel
      have HK := Hid.in_ hkm
      clear hkm
      obtain ⟨g, rfl, _, hg, hx, _⟩ := H1.out (by omega)
      by_cases hlt : k < n
      · obtain ⟨s, hs⟩ := get_lt l k (by rw [HL.out]; exact hlt)
        have c0 := hx.step HB.out k _ (Strs_get hs)
        have d0 := (hx.step HB.out) 0 _ (Strs_get HS0.out)
        have hsz := HZ.out s (List.mem_of_getElem? hs)
        have HS := Hid.in_ hs
        have HC := Hid.in_ (fun w => spec_ValidCells s w hsz)
        clear hx hs
        obtain ⟨h1, HO⟩ | ⟨h1, h2, HO⟩ | ⟨h1, h2, HO⟩ := rev_cases l s
        all_goals
          rw [h1] at HC
          go_wp2_with fail
          go_quiet ((go_at_call 33; first | exact quiet_left (HC.out _) | exact quiet_add_left (HC.out _)))
          go_wp2
        all_goals
          first
          | (go_ret; exact ⟨ret_bool (revs_no HS.out HO.out).symm, below_drewN HB.out _⟩)
          | (have hk := HK.out
             go_roundg (gk - 1)
             case measure => omega
             case rel => exact ⟨_, by omega, by go_num, rev_next HR.out HS.out HO.out, below_drewN HB.out _⟩)
      · have hk := HK.out
        obtain rfl : k = n := by omega
        go_wp2
        go_ret
        exact ⟨ret_bool (revs_yes HI.out fun j s hj => HR.out j s (by rw [← HL.out]; exact (List.getElem?_eq_some_iff.1 hj).1) hj).symm, HB.out⟩
end Go.Proofs.YtlelgpknkgjaeaaGreatDoor
