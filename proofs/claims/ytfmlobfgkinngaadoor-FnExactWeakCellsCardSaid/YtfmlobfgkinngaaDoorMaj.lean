/- 'MajorityCells' and 'WeakCells' of the program and of the reference: the cells of several revolutions at one place. -/
import Derived.Test.YtfmlobfgkinngaaDoorRevs
import Derived.Test.YtfmlobfgkinngaaDoorDist
import Derived.Test.YtfmlobfgkinngaaDoorStr
import Derived.Test.YtfmlobfgkinngaaDoorPlaces
namespace Go.Proofs.YtfmlobfgkinngaaDoor
open Go.ChangeShapes Go.WideShapes Go.ChangeAt Go.RowKit
set_option linter.unusedSimpArgs false
set_option linter.unusedVariables false
set_option maxRecDepth 4000

theorem Tryd.infoU8m : (Tryd.prog.info? 5).map (fun i => (i.zero, i.size, i.bytes)) = some (some (.int .u8 0), 1, 1) := by kernel_rfl
theorem Tryd.infoI64m : (Tryd.prog.info? 2).map (fun i => (i.zero, i.size, i.bytes)) = some (some (.int .i64 0), 1, 8) := by kernel_rfl
/-- The byte at place 'k' of the string 'j'. -/
def colAt (l : List ByteArray) (k j : Nat) : UInt8 := byteAt (l.getD j ⟨#[]⟩) k
theorem colAt_eq {l : List ByteArray} {j k : Nat} {s : ByteArray} (h : l[j]? = some s) : colAt l k j = byteAt s k := by
  unfold colAt
  rw [List.getD_eq_getElem?_getD, h]
  rfl
def onesTo (l : List ByteArray) (k : Nat) : Nat → Nat
  | 0 => 0
  | i + 1 => onesTo l k i + if colAt l k i = 49 then 1 else 0
theorem ones_le (l : List ByteArray) (k : Nat) : ∀ i, onesTo l k i ≤ i
  | 0 => Nat.le_refl _
  | i + 1 => by
    have := ones_le l k i
    unfold onesTo
    split <;> omega
theorem ones_none {l : List ByteArray} {k : Nat} : ∀ {i : Nat}, (∀ j, j < i → colAt l k j ≠ 49) → onesTo l k i = 0
  | 0, _ => rfl
  | i + 1, h => by
    unfold onesTo
    rw [ones_none fun j hj => h j (by omega), if_neg (h i (by omega))]
theorem ones_full {l : List ByteArray} {k : Nat} : ∀ {i : Nat}, (∀ j, j < i → colAt l k j = 49) → onesTo l k i = i
  | 0, _ => rfl
  | i + 1, h => by
    unfold onesTo
    rw [ones_full fun j hj => h j (by omega), if_pos (h i (by omega))]
theorem ones_pos {l : List ByteArray} {k j : Nat} (hb : colAt l k j = 49) : ∀ {i : Nat}, j < i → 0 < onesTo l k i
  | 0, h => by omega
  | i + 1, h => by
    unfold onesTo
    rcases Nat.lt_or_ge j i with h1 | h1
    · have := ones_pos hb h1
      omega
    · obtain rfl : j = i := by omega
      rw [if_pos hb]
      omega
theorem ones_lt {l : List ByteArray} {k j : Nat} (hb : colAt l k j ≠ 49) : ∀ {i : Nat}, j < i → onesTo l k i < i
  | 0, h => by omega
  | i + 1, h => by
    unfold onesTo
    rcases Nat.lt_or_ge j i with h1 | h1
    · have := ones_lt hb h1
      split <;> omega
    · obtain rfl : j = i := by omega
      rw [if_neg hb]
      have := ones_le l k j
      omega
def weakAt (l : List ByteArray) (k : Nat) : Bool := decide (0 < onesTo l k l.length ∧ onesTo l k l.length < l.length)
theorem col_bit {l : List ByteArray} (h : revsOk l = true) {j k : Nat} (hj : j < l.length) (hk : k < revLen l) : colAt l k j = 48 ∨ colAt l k j = 49 := by
  obtain ⟨s, hs⟩ := get_lt l j hj
  obtain ⟨h1, h2⟩ := (revs_at h).2.2.2.2 s (List.mem_of_getElem? hs)
  rw [colAt_eq hs, byteAt_eq (by omega)]
  unfold allBits at h2
  rw [List.all_eq_true] at h2
  have := h2 (s[k]'(by omega)) (by rw [show s[k]'(by omega) = s.data.toList[k]'(by simp; omega) by simp; rfl]; exact List.getElem_mem _)
  unfold isBit at this
  simpa using this
theorem weak_yes {l : List ByteArray} (h : revsOk l = true) {j k : Nat} (hj : j < l.length) (hk : k < revLen l) (hb : colAt l k j ≠ colAt l k 0) : weakAt l k = true := by
  unfold weakAt
  have h0 : 0 < l.length := by omega
  rcases col_bit h hj hk with h1 | h1 <;> rcases col_bit h h0 hk with h2 | h2
  · exact absurd (h1.trans h2.symm) hb
  · exact decide_eq_true ⟨ones_pos h2 h0, ones_lt (by rw [h1]; decide) hj⟩
  · exact decide_eq_true ⟨ones_pos h1 hj, ones_lt (by rw [h2]; decide) h0⟩
  · exact absurd (h1.trans h2.symm) hb
theorem weak_no {l : List ByteArray} {k : Nat} (hb : ∀ j, j < l.length → colAt l k j = colAt l k 0) : weakAt l k = false := by
  unfold weakAt
  by_cases h : colAt l k 0 = 49
  · rw [ones_full fun j hj => (hb j hj).trans h]
    exact decide_eq_false (by omega)
  · rw [ones_none fun j hj e => h ((hb j hj).symm.trans e)]
    exact decide_eq_false (by omega)
def weakV (l : List ByteArray) : List Int := if revsOk l = true then placesTo (weakAt l) (revLen l) else []
theorem weakV_len (l : List ByteArray) : (weakV l).length ≤ 8000 := by
  unfold weakV
  split
  · rename_i h
    have := placesTo_len (weakAt l) (revLen l)
    have := (revs_at h).2.2.2.1
    omega
  · exact Nat.zero_le _
def revCode (l : List ByteArray) : Int := if revsOk l = true then 0 else 1
def majB (l : List ByteArray) (k : Nat) : UInt8 := if l.length < 2 * onesTo l k l.length then 49 else 48
def majTo (l : List ByteArray) (n : Nat) : List UInt8 := (List.range n).map (majB l)
theorem majTo_len (l : List ByteArray) (n : Nat) : (majTo l n).length = n := by simp [majTo]
theorem majTo_next (l : List ByteArray) (n : Nat) : majTo l (n + 1) = majTo l n ++ [majB l n] := by
  unfold majTo
  rw [List.range_succ, List.map_append]
  rfl
theorem majTo_get (l : List ByteArray) {n k : Nat} (h : k < n) : (majTo l n)[k]? = some (majB l k) := by
  unfold majTo
  rw [List.getElem?_map, List.getElem?_range h]
  rfl
def majV (l : List ByteArray) : ByteArray := if revsOk l = true then ⟨(majTo l (revLen l)).toArray⟩ else ⟨#[]⟩
theorem byteCells_set (m : List UInt8) (k : Nat) (c : UInt8) : (Lib.byteCells m).set k (.int .u8 (c.toNat : Int)) = Lib.byteCells (m.set k c) := by unfold Lib.byteCells; rw [List.map_set]
theorem ones_next1 {l : List ByteArray} {k i : Nat} (h : colAt l k i = 49) : onesTo l k (i + 1) = onesTo l k i + 1 := by
  show onesTo l k i + (if colAt l k i = 49 then 1 else 0) = _
  rw [if_pos h]
theorem ones_next0 {l : List ByteArray} {k i : Nat} (h : colAt l k i ≠ 49) : onesTo l k (i + 1) = onesTo l k i := by
  show onesTo l k i + (if colAt l k i = 49 then 1 else 0) = _
  rw [if_neg h, Nat.add_zero]
theorem byte_cases' (c d : UInt8) : (c = d) ∨ (((c.toNat : Int) != (d.toNat : Int)) = true ∧ c ≠ d) := by
  by_cases h : c = d
  · exact .inl h
  · exact .inr ⟨bne_iff_ne.2 fun e => h (UInt8.toNat_inj.1 (by omega)), h⟩
theorem colAt_val {l : List ByteArray} {i k : Nat} {s : ByteArray} (hs : l[i]? = some s) (hk : k < s.size) {c : UInt8} (hc : s[k] = c) : colAt l k i = c := by
  rw [colAt_eq hs, byteAt_eq hk, hc]
set_option maxHeartbeats 1000000 in
theorem spec_l10Ones {v : Value} {n b : Nat} {l : List ByteArray} (k : Nat) (w : World) (h : w.ownsRow b 9 1 v n (Strs l)) (hl : l.length = n) (hk : ∀ s ∈ l, k < s.size ∧ s.size ≤ 1048576) (hn : n ≤ 1048576) :
    Calls Tryd.prog 95 #[v, .int .i64 k] w fun e w' => e = .returned (.int .i64 (onesTo l k n : Nat)) ∧ w = w' := by
  obtain ⟨A, c, rfl, _, _, hA⟩ := own_shape h
  have HL := Hid.in_ hl
  have H1 := Hid.in_ hA
  have HZ := Hid.in_ hk
  clear hA h hl hk
  go_enter Tryd.func95, Tryd.ntmps95
  go_wp2
  go_loopg [5, 6] n (fun m o i wr => ∃ j : Nat, j + m = n ∧ i = .int .i64 j ∧ o = .int .i64 (onesTo l k j : Nat) ∧ w = wr)
  case atStart => exact ⟨0, by omega, rfl, rfl, rfl⟩
  case round =>
    obtain ⟨j, hkm, rfl, rfl, rfl⟩ := hrel
    have HK := Hid.in_ hkm
    clear hkm
    have hle := ones_le l k j
    by_cases hlt : j < n
    · obtain ⟨g, rfl, _, hg, hx, _⟩ := H1.out (by omega)
      obtain ⟨s, hs⟩ := get_lt l j (by rw [HL.out]; exact hlt)
      have c0 := hx j _ (Strs_get hs)
      obtain ⟨hks, hsz⟩ := HZ.out s (List.mem_of_getElem? hs)
      obtain ⟨c, hc⟩ : ∃ c : UInt8, s[k] = c := ⟨_, rfl⟩
      have HCV := Hid.in_ (colAt_val hs hks hc)
      clear hx hs
      by_cases hq : c = 49
      · have HN := Hid.in_ (ones_next1 (l := l) (k := k) (i := j) (by rw [HCV.out, hq]))
        subst hq
        generalize onesTo l k j = X at *
        go_wp2
        have hk := HK.out
        go_roundg (gk - 1)
        case measure => omega
        case rel => exact ⟨j + 1, by omega, by go_num, by rw [HN.out]; go_num, rfl⟩
      · have HN := Hid.in_ (ones_next0 (l := l) (k := k) (i := j) (by rw [HCV.out]; exact hq))
        have hq2 : ((c.toNat : Int) == 49) = false := beq_eq_false_iff_ne.2 fun e => hq (UInt8.toNat_inj.1 (by simpa using (by omega : c.toNat = 49)))
        generalize onesTo l k j = X at *
        go_wp2
        have hk := HK.out
        go_roundg (gk - 1)
        case measure => omega
        case rel => exact ⟨j + 1, by omega, by go_num, by rw [HN.out], rfl⟩
    · have hk := HK.out
      obtain rfl : j = n := by omega
      go_wp2
      go_ret
      exact ⟨rfl, rfl⟩
theorem ret2_si {a b : ByteArray} {x y : Int} (h : a = b) (k : x = y) : Ending.returned (.tuple #[.string a, .int .i64 x]) = .returned (.tuple #[.string b, .int .i64 y]) := by rw [h, k]
theorem revs_len {l : List ByteArray} (h : revsOk l = true) {k : Nat} (hk : k < revLen l) : ∀ s ∈ l, k < s.size ∧ s.size ≤ 1048576 := fun s hs => by
  have := revs_at h
  have h2 := (this.2.2.2.2 s hs).1
  omega
theorem majV_yes {l : List ByteArray} (h : revsOk l = true) : majV l = ⟨(majTo l (revLen l)).toArray⟩ ∧ revCode l = 0 := ⟨if_pos h, if_pos h⟩
theorem majV_no {l : List ByteArray} (h : revsOk l = false) : majV l = ⟨#[]⟩ ∧ revCode l = 1 := ⟨if_neg (by rw [h]; decide), if_neg (by rw [h]; decide)⟩
theorem weakV_yes {l : List ByteArray} (h : revsOk l = true) : weakV l = placesTo (weakAt l) (revLen l) ∧ revCode l = 0 := ⟨if_pos h, if_pos h⟩
theorem weakV_no {l : List ByteArray} (h : revsOk l = false) : weakV l = [] ∧ revCode l = 1 := ⟨if_neg (by rw [h]; decide), if_neg (by rw [h]; decide)⟩
theorem maj_cell (l : List ByteArray) (k : Nat) {c : UInt8} (h : majB l k = c) : Lib.byteCells (majTo l k) ++ [.int .u8 (c.toNat : Int)] = Lib.byteCells (majTo l (k + 1)) := by
  rw [majTo_next, h]
  unfold Lib.byteCells
  rw [List.map_append]
  rfl
theorem majB_yes {l : List ByteArray} {n k : Nat} (hl : l.length = n) (h : n < 2 * onesTo l k n) : majB l k = 49 := by
  unfold majB
  rw [hl, if_pos h]
theorem majB_no {l : List ByteArray} {n k : Nat} (hl : l.length = n) (h : ¬ n < 2 * onesTo l k n) : majB l k = 48 := by
  unfold majB
  rw [hl, if_neg h]
set_option maxHeartbeats 2000000 in
theorem spec_MajorityCells {v : Value} {n b : Nat} {l : List ByteArray} (w : World) (h : w.ownsRow b 9 1 v n (Strs l)) (hk : ∀ s ∈ l, s.size ≤ 9223372036854775807) (hn : n ≤ 1048576) :
    Calls Tryd.prog 50 #[v] w fun e w' => e = .returned (.tuple #[.string (majV l), .int .i64 (revCode l)]) ∧ Below w.heap.size w w' := by
  obtain ⟨i0, hti, hz0, hz1, hz2⟩ := info_parts Tryd.infoU8m
  have hlx : l.length = n := by have := h.1; rw [Strs_len] at this; omega
  have HC := Hid.in_ (spec_l10Ok w h hk)
  have HOW := Hid.in_ h
  obtain ⟨A, c, rfl, _, _, hA⟩ := own_shape h
  have HL := Hid.in_ hlx
  have H1 := Hid.in_ hA
  clear hA h hlx hk
  cases hr : revsOk l
  · have HV := Hid.in_ (majV_no hr)
    rw [hr] at HC
    go_enter Tryd.func50, Tryd.ntmps50
    go_wp2_with (go_at_call 93; refine HC.out.mono ?_; rintro e w1 ⟨rfl, hb1⟩)
    go_ret2
    exact ⟨ret2_si HV.out.1.symm HV.out.2.symm, hb1⟩
  · have HV := Hid.in_ (majV_yes hr)
    have HR := Hid.in_ hr
    obtain ⟨r1, r2, r3, r4, r5⟩ := revs_at hr
    rw [HL.out] at r1 r2
    have HZ := Hid.in_ r5
    rw [hr] at HC
    clear hr r5
    obtain ⟨g, rfl, _, hg, hx, _⟩ := H1.out (by omega)
    obtain ⟨s0, hs0, hz0'⟩ := head_get (l := l) (by rw [HL.out]; omega)
    have HX := Hid.in_ (hx 0 _ (Strs_get hs0))
    have hsz0 := (HZ.out s0 (List.mem_of_getElem? hs0)).1
    clear hx hs0 hz0'
    obtain ⟨N, hN⟩ : ∃ N, revLen l = N := ⟨_, rfl⟩
    rw [hN] at hsz0 r3 r4 HV
    have HN := Hid.in_ hN
    clear hN
    go_enter Tryd.func50, Tryd.ntmps50
    go_wp2_with (go_at_call 93; refine HC.out.mono ?_; rintro e w1 ⟨rfl, hb1⟩)
    have HB1 := Hid.in_ hb1
    have HO1 := Hid.in_ (World.ownsRow_lit (base := w.heap.size) (size := 1) (e := 5) w1 #[] 0 hb1.size (by decide) (by decide))
    clear hb1
    go_loopg [4, 5] N (fun m v i wr => ∃ k : Nat, k + m = N ∧ i = .int .i64 k ∧ Hid (wr.ownsRow w.heap.size 5 1 v k (Lib.byteCells (majTo l k))) ∧ Hid (Below w.heap.size w wr))
    case atStart => exact ⟨0, by omega, rfl, HO1.out, balloc HB1.out _⟩
    case round =>
      obtain ⟨k, hkm, rfl, HI, HB⟩ := hrel
      have HK := Hid.in_ hkm
      clear hkm
      have c0 := cstep HB.out HX.out
      by_cases hlt : k < N
      · have HO := Hid.in_ (ostep HB.out HOW.out)
        have hle := ones_le l k n
        have HM := Hid.in_ (And.intro (majB_yes (l := l) (k := k) HL.out) (majB_no (l := l) (k := k) HL.out))
        go_wp2_with fail
        refine (spec_l10Ones k _ HO.out HL.out (revs_len HR.out (by rw [HN.out]; exact hlt)) (by omega)).mono ?_
        rintro e w2 ⟨rfl, rfl⟩
        generalize onesTo l k n = X at *
        by_cases hq : n < 2 * X
        · have HW := Hid.in_ (maj_cell l k (HM.out.1 hq))
          go_wp2_with (at_builtin; refine wpList_append_own _ rfl _ _ 34 rfl w.heap.size 5 i0 (.int .u8 0) 1 1 Tryd.underlying34 hti hz0 hz1 hz2 rfl (by decide) _ _ _ rfl (HI.out.alloc _) ⟨wr.heap.size, 0, none⟩ 1 1 [.int .u8 49] rfl rfl (cell_one_new _ _ _) (fun x hx => by simp at hx; subst hx; rfl) (by unfold maxLen; omega) (by omega) (balloc HB.out _).size ?_; intro v4 w4 ho4 hg4 _)
          have HB4 := Hid.in_ (bgrown (balloc HB.out _) (HI.out.alloc _) (Nat.le_refl _) hg4)
          have HO4 := Hid.in_ (show w4.ownsRow w.heap.size 5 1 v4 (k + 1) (Lib.byteCells (majTo l (k + 1))) by rw [← HW.out]; exact ho4)
          clear ho4 hg4
          have hk := HK.out
          go_roundg (gk - 1)
          case measure => omega
          case rel => exact ⟨k + 1, by omega, by go_num, HO4, HB4⟩
        · have HW := Hid.in_ (maj_cell l k (HM.out.2 hq))
          go_wp2_with (at_builtin; refine wpList_append_own _ rfl _ _ 34 rfl w.heap.size 5 i0 (.int .u8 0) 1 1 Tryd.underlying34 hti hz0 hz1 hz2 rfl (by decide) _ _ _ rfl (HI.out.alloc _) ⟨wr.heap.size, 0, none⟩ 1 1 [.int .u8 48] rfl rfl (cell_one_new _ _ _) (fun x hx => by simp at hx; subst hx; rfl) (by unfold maxLen; omega) (by omega) (balloc HB.out _).size ?_; intro v4 w4 ho4 hg4 _)
          have HB4 := Hid.in_ (bgrown (balloc HB.out _) (HI.out.alloc _) (Nat.le_refl _) hg4)
          have HO4 := Hid.in_ (show w4.ownsRow w.heap.size 5 1 v4 (k + 1) (Lib.byteCells (majTo l (k + 1))) by rw [← HW.out]; exact ho4)
          clear ho4 hg4
          have hk := HK.out
          go_roundg (gk - 1)
          case measure => omega
          case rel => exact ⟨k + 1, by omega, by go_num, HO4, HB4⟩
      · have hk := HK.out
        obtain rfl : k = N := by omega
        have hc := conv_own Tryd.underlying34 Tryd.underlying5 Tryd.underlying9 HI.out
        go_wp2
        go_ret2
        exact ⟨ret2_si HV.out.1.symm HV.out.2.symm, HB.out⟩
theorem weak_at_iff {l : List ByteArray} {n k X : Nat} (hl : l.length = n) (hX : onesTo l k n = X) : ((0 < X ∧ X < n) → weakAt l k = true) ∧ (¬ (0 < X ∧ X < n) → weakAt l k = false) := by
  unfold weakAt
  rw [hl, hX]
  exact ⟨fun h => decide_eq_true h, fun h => decide_eq_false h⟩
set_option maxHeartbeats 2000000 in
theorem spec_WeakCells {v : Value} {n b : Nat} {l : List ByteArray} (w : World) (h : w.ownsRow b 9 1 v n (Strs l)) (hk : ∀ s ∈ l, s.size ≤ 9223372036854775807) (hn : n ≤ 1048576) :
    Calls Tryd.prog 52 #[v] w fun e w' => ∃ v', e = .returned (.tuple #[v', .int .i64 (revCode l)]) ∧ w'.ownsRow w.heap.size 2 1 v' (weakV l).length (I64 (weakV l)) ∧ Below w.heap.size w w' := by
  obtain ⟨i0, hti, hz0, hz1, hz2⟩ := info_parts Tryd.infoI64m
  have hlx : l.length = n := by have := h.1; rw [Strs_len] at this; omega
  have HC := Hid.in_ (spec_l10Ok w h hk)
  have HOW := Hid.in_ h
  obtain ⟨A, c, rfl, _, _, hA⟩ := own_shape h
  have HL := Hid.in_ hlx
  have H1 := Hid.in_ hA
  clear hA h hlx hk
  cases hr : revsOk l
  · have HV := Hid.in_ (weakV_no hr)
    rw [hr] at HC
    go_enter Tryd.func52, Tryd.ntmps52
    go_wp2_with (go_at_call 93; refine HC.out.mono ?_; rintro e w1 ⟨rfl, hb1⟩)
    go_ret2
    rw [HV.out.1, HV.out.2]
    exact ⟨_, rfl, World.ownsRow_nil _ _ _ _, hb1⟩
  · have HV := Hid.in_ (weakV_yes hr)
    have HR := Hid.in_ hr
    obtain ⟨r1, r2, r3, r4, r5⟩ := revs_at hr
    rw [HL.out] at r1 r2
    have HZ := Hid.in_ r5
    rw [hr] at HC
    clear hr r5
    obtain ⟨g, rfl, _, hg, hx, _⟩ := H1.out (by omega)
    obtain ⟨s0, hs0, hz0'⟩ := head_get (l := l) (by rw [HL.out]; omega)
    have HX := Hid.in_ (hx 0 _ (Strs_get hs0))
    have hsz0 := (HZ.out s0 (List.mem_of_getElem? hs0)).1
    clear hx hs0 hz0'
    obtain ⟨N, hN⟩ : ∃ N, revLen l = N := ⟨_, rfl⟩
    rw [hN] at hsz0 r3 r4 HV
    have HN := Hid.in_ hN
    clear hN
    go_enter Tryd.func52, Tryd.ntmps52
    go_wp2_with (go_at_call 93; refine HC.out.mono ?_; rintro e w1 ⟨rfl, hb1⟩)
    have HB1 := Hid.in_ hb1
    have HO1 := Hid.in_ (World.ownsRow_lit (base := w.heap.size) (size := 1) (e := 2) w1 #[] 0 hb1.size (by decide) (by decide))
    clear hb1
    go_loopg [4, 5] N (fun m v i wr => ∃ k : Nat, k + m = N ∧ i = .int .i64 k ∧ Hid (wr.ownsRow w.heap.size 2 1 v (placesTo (weakAt l) k).length (I64 (placesTo (weakAt l) k))) ∧ Hid (Below w.heap.size w wr))
    case atStart => exact ⟨0, by omega, rfl, HO1.out, balloc HB1.out _⟩
    case round =>
      obtain ⟨k, hkm, rfl, HI, HB⟩ := hrel
      have HK := Hid.in_ hkm
      clear hkm
      have c0 := cstep HB.out HX.out
      by_cases hlt : k < N
      · have HO := Hid.in_ (ostep HB.out HOW.out)
        have HLN := Hid.in_ (placesTo_len (weakAt l) k)
        have hle := ones_le l k n
        go_wp2_with fail
        refine (spec_l10Ones k _ HO.out HL.out (revs_len HR.out (by rw [HN.out]; exact hlt)) (by omega)).mono ?_
        rintro e w2 ⟨rfl, rfl⟩
        obtain ⟨X, hX⟩ : ∃ X, onesTo l k n = X := ⟨_, rfl⟩
        have HM := Hid.in_ (weak_at_iff HL.out hX)
        rw [hX] at hle
        rw [hX]
        clear hX
        by_cases hq : 0 < X ∧ X < n
        · have HW := Hid.in_ (placesTo_yes (HM.out.1 hq))
          obtain ⟨q1, q2⟩ := hq
          go_wp2_with (at_builtin; refine wpList_append_own _ rfl _ _ 22 rfl w.heap.size 2 i0 (.int .i64 0) 1 8 Tryd.underlying22 hti hz0 hz1 hz2 rfl (by decide) _ _ _ rfl (HI.out.alloc _) ⟨wr.heap.size, 0, none⟩ 1 1 [.int .i64 k] rfl rfl (cell_one_new _ _ _) (fun x hx => by simp at hx; subst hx; rfl) (by have := HLN.out; unfold maxLen; omega) (by have := HLN.out; omega) (balloc HB.out _).size ?_; intro v4 w4 ho4 hg4 _)
          have HB4 := Hid.in_ (bgrown (balloc HB.out _) (HI.out.alloc _) (Nat.le_refl _) hg4)
          have hk := HK.out
          go_roundg (gk - 1)
          case measure => omega
          case rel => exact ⟨k + 1, by omega, by go_num, by rw [HW.out, List.length_append, I64_app]; exact ho4, HB4.out⟩
        · have HW := Hid.in_ (placesTo_no (HM.out.2 hq))
          have hq2 : X = 0 ∨ (0 < X ∧ n ≤ X) := by omega
          obtain rfl | ⟨q1, q2⟩ := hq2
          all_goals
            go_wp2
            have hk := HK.out
            go_roundg (gk - 1)
            case measure => omega
            case rel => exact ⟨k + 1, by omega, by go_num, by rw [HW.out]; exact HI.out, HB.out⟩
      · have hk := HK.out
        obtain rfl : k = N := by omega
        go_wp2
        go_ret2
        rw [HV.out.1, HV.out.2]
        exact ⟨_, rfl, HI.out, HB.out⟩
set_option maxHeartbeats 4000000 in
theorem impl_differing {v : Value} {n b : Nat} {l : List ByteArray} (w : World) (h : w.ownsRow b 9 1 v n (Strs l)) (hr : revsOk l = true) :
    Calls Tryd.prog 96 #[v] w fun e w' => ∃ v', e = .returned v' ∧ w'.ownsRow w.heap.size 2 1 v' (placesTo (weakAt l) (revLen l)).length (I64 (placesTo (weakAt l) (revLen l))) ∧ Below w.heap.size w w' := by
  obtain ⟨i0, hti, hz0, hz1, hz2⟩ := info_parts Tryd.infoI64m
  have hlx : l.length = n := by have := h.1; rw [Strs_len] at this; omega
  obtain ⟨A, c, rfl, _, _, hA⟩ := own_shape h
  have HL := Hid.in_ hlx
  have H1 := Hid.in_ hA
  have HR := Hid.in_ hr
  obtain ⟨r1, r2, r3, r4, r5⟩ := revs_at hr
  rw [HL.out] at r1 r2
  have HZ := Hid.in_ r5
  clear hA h hlx hr r5
  obtain ⟨g, rfl, _, hg, hx, _⟩ := H1.out (by omega)
  obtain ⟨s0, hs0, hz0'⟩ := head_get (l := l) (by rw [HL.out]; omega)
  have HX := Hid.in_ hx
  have HS0 := Hid.in_ hs0
  have hsz0 := (HZ.out s0 (List.mem_of_getElem? hs0)).1
  have c0 := hx 0 _ (Strs_get hs0)
  clear hx hs0 hz0'
  obtain ⟨N, hN⟩ : ∃ N, revLen l = N := ⟨_, rfl⟩
  rw [hN] at hsz0 r3 r4 HZ ⊢
  have HN := Hid.in_ hN
  clear hN
  go_enter Tryd.func96, Tryd.ntmps96
  go_wp2
  clear c0
  go_loopg [3, 11] N (fun m v i wr => ∃ k : Nat, k + m = N ∧ i = .int .i64 k ∧ Hid (wr.ownsRow w.heap.size 2 1 v (placesTo (weakAt l) k).length (I64 (placesTo (weakAt l) k))) ∧ Hid (Below w.heap.size w wr))
  case atStart => exact ⟨0, by omega, rfl, World.ownsRow_nil _ _ _ _, Below.refl _ _⟩
  case round =>
    obtain ⟨k, hkm, rfl, HI, HB⟩ := hrel
    have HK := Hid.in_ hkm
    clear hkm
    by_cases hlt : k < N
    · have HLN := Hid.in_ (placesTo_len (weakAt l) k)
      go_wp2
      obtain ⟨gO, rfl⟩ : ∃ g, g = gk := ⟨_, rfl⟩
      obtain ⟨wo, rfl⟩ : ∃ wo : World, wo = wr := ⟨_, rfl⟩
      obtain ⟨vo, hvo⟩ : ∃ vo : Value, vo = u3 := ⟨_, rfl⟩
      rw [← hvo] at HI
      go_loopg [3, 16] n (fun m v i wi => ∃ j : Nat, j + m = n ∧ i = .int .i64 j ∧ v = vo ∧ Hid (∀ t, t < j → colAt l k t = colAt l k 0) ∧ ∃ q, wi = wo.drewN q)
      case atStart => exact ⟨0, by omega, rfl, hvo.symm, fun t ht => by omega, 0, rfl⟩
      case round =>
        obtain ⟨j, hjm, rfl, rfl, HE, q, rfl⟩ := hrel
        have HJ := Hid.in_ hjm
        clear hjm
        have HIq := Hid.in_ (own_drewN HI.out q)
        have HBq := Hid.in_ (below_drewN HB.out q)
        by_cases hlj : j < n
        · obtain ⟨s, hs⟩ := get_lt l j (by rw [HL.out]; exact hlj)
          have c0 := (HX.out.step HB.out) 0 _ (Strs_get HS0.out)
          have c1 := (HX.out.step HB.out) j _ (Strs_get hs)
          have hsz := (HZ.out s (List.mem_of_getElem? hs)).1
          have hks : k < s.size := by omega
          have hk0 : k < s0.size := by omega
          obtain ⟨c, hc⟩ : ∃ c : UInt8, s[k] = c := ⟨_, rfl⟩
          obtain ⟨d, hd⟩ : ∃ d : UInt8, s0[k] = d := ⟨_, rfl⟩
          have HC1 := Hid.in_ (colAt_val hs hks hc)
          have HC0 := Hid.in_ (colAt_val HS0.out hk0 hd)
          clear hs
          obtain rfl | ⟨h1, h2⟩ := byte_cases' c d
          · have HE2 := Hid.in_ (show ∀ t, t < j + 1 → colAt l k t = colAt l k 0 from fun t ht => by
              rcases Nat.lt_or_ge t j with h | h
              · exact HE.out t h
              · obtain rfl : t = j := by omega
                rw [HC1.out, HC0.out])
            go_wp2_with fail
            go_quiet (fail)
            go_wp2
            have hj := HJ.out
            go_roundg (gk - 1)
            case measure => omega
            case rel => exact ⟨j + 1, by omega, by go_num, rfl, HE2, _, rfl⟩
          · have HW := Hid.in_ (placesTo_yes (weak_yes HR.out (by rw [HL.out]; exact hlj) (by rw [HN.out]; exact hlt) (by rw [HC1.out, HC0.out]; exact h2)))
            go_wp2_with fail
            go_quiet (fail)
            have HI2 := Hid.in_ (own_drewN HI.out (q + nq))
            have HB2 := Hid.in_ (below_drewN HB.out (q + nq))
            go_wp2_with (at_builtin; refine wpList_append_own _ rfl _ _ 22 rfl w.heap.size 2 i0 (.int .i64 0) 1 8 Tryd.underlying22 hti hz0 hz1 hz2 rfl (by decide) _ _ _ rfl (HI2.out.alloc _) ⟨wo.heap.size, 0, none⟩ 1 1 [.int .i64 k] rfl rfl (cell_one_new (wo.drewN (q + nq)) _ _) (fun x hx => by simp at hx; subst hx; rfl) (by have := HLN.out; unfold maxLen; omega) (by have := HLN.out; omega) (balloc HB2.out _).size ?_; intro v4 w4 ho4 hg4 _)
            have HB4 := Hid.in_ (bgrown (balloc HB2.out _) (HI2.out.alloc _) (Nat.le_refl _) hg4)
            have hk := HK.out
            go_roundg (gO - 1)
            case measure => omega
            case rel => exact ⟨k + 1, by omega, by go_num, by rw [HW.out, List.length_append, I64_app]; exact ho4, HB4.out⟩
        · have hj := HJ.out
          obtain rfl : j = n := by omega
          have HW := Hid.in_ (placesTo_no (weak_no (l := l) (k := k) fun t ht => HE.out t (by rw [← HL.out]; exact ht)))
          go_wp2
          have hk := HK.out
          go_roundg (gO - 1)
          case measure => omega
          case rel => exact ⟨k + 1, by omega, by go_num, by rw [HW.out]; exact HIq.out, HBq.out⟩
    · have hk := HK.out
      obtain rfl : k = N := by omega
      go_wp2
      go_ret
      exact ⟨_, rfl, HI.out, HB.out⟩
set_option maxHeartbeats 1000000 in
theorem impl_WeakCells {v : Value} {n b : Nat} {l : List ByteArray} (w : World) (h : w.ownsRow b 9 1 v n (Strs l)) (hk : ∀ s ∈ l, s.size ≤ 9223372036854775807) :
    Calls Tryd.prog 53 #[v] w fun e w' => ∃ v', e = .returned (.tuple #[v', .int .i64 (revCode l)]) ∧ w'.ownsRow w.heap.size 2 1 v' (weakV l).length (I64 (weakV l)) ∧ Below w.heap.size w w' := by
  have HC := Hid.in_ (impl_ValidRevolutions w h hk)
  cases hr : revsOk l
  · have HV := Hid.in_ (weakV_no hr)
    rw [hr] at HC
    go_enter Tryd.func53, Tryd.ntmps53
    go_wp2_with (go_at_call 48; refine HC.out.mono ?_; rintro e w1 ⟨rfl, hb1⟩)
    go_ret2
    rw [HV.out.1, HV.out.2]
    exact ⟨_, rfl, World.ownsRow_nil _ _ _ _, hb1⟩
  · have HV := Hid.in_ (weakV_yes hr)
    have HR := Hid.in_ hr
    rw [hr] at HC
    have HOW := Hid.in_ h
    clear h hr
    go_enter Tryd.func53, Tryd.ntmps53
    go_wp2_with fail
    refine HC.out.mono ?_
    rintro e w1 ⟨rfl, hb1⟩
    go_wp2_with fail
    refine (impl_differing _ (ostep hb1 HOW.out) HR.out).mono ?_
    rintro e w2 ⟨v2, rfl, ho2, hb2⟩
    have HO2 := Hid.in_ (own_base ho2 hb1.size)
    have HB2 := Hid.in_ (bstep hb1 hb2)
    clear ho2 hb2
    go_wp2
    go_ret2
    rw [HV.out.1, HV.out.2]
    exact ⟨_, rfl, HO2.out, HB2.out⟩
end Go.Proofs.YtfmlobfgkinngaaDoor
