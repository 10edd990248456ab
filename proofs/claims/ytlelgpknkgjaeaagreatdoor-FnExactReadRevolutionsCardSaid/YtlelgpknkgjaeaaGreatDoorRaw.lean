/- 'dataCells', 'rawBytes' of the program, 'l09Raw' of the reference. -/
import Derived.Test.YtlelgpknkgjaeaaGreatDoorDat
import Derived.Test.YtlelgpknkgjaeaaGreatDoorDecode
import Derived.Test.YtlelgpknkgjaeaaGreatDoorMark
import Derived.Test.YtlelgpknkgjaeaaGreatDoorValid
namespace Go.Proofs.YtlelgpknkgjaeaaGreatDoor
open Go.ChangeShapes Go.WideShapes Go.ChangeAt Go.RowKit
set_option linter.unusedSimpArgs false
set_option linter.unusedVariables false
set_option maxRecDepth 4000

/-- The value of the group 'j', 0 where it has none. -/
def gvP (s : ByteArray) (j : Nat) : Nat := (max (gV s j) 0).toNat
theorem gvP_lt (s : ByteArray) (j : Nat) : gvP s j < 16 := by
  have := gcrValue_in (grpAt s j)
  unfold gvP gV
  omega
def rawTo (s : ByteArray) (k : Nat) : List UInt8 := (List.range k).map fun m => UInt8.ofNat (16 * gvP s (2 * m) + gvP s (2 * m + 1))
theorem rawTo_next {s : ByteArray} {k p q : Nat} (hp : gvP s (2 * k) = p) (hq : gvP s (2 * k + 1) = q) : Lib.byteCells (rawTo s k) ++ [.int .u8 (16 * (p : Int) + (q : Int))] = Lib.byteCells (rawTo s (k + 1)) := by
  unfold rawTo
  rw [List.range_succ, List.map_append]
  unfold Lib.byteCells
  rw [List.map_append]
  congr 1
  show _ = [Value.int .u8 ((UInt8.ofNat (16 * gvP s (2 * k) + gvP s (2 * k + 1))).toNat : Int)]
  have h1 := gvP_lt s (2 * k)
  have h2 := gvP_lt s (2 * k + 1)
  rw [UInt8.toNat_ofNat', hp, hq]
  rw [hp] at h1
  rw [hq] at h2
  congr 2
  omega
def okTo (s : ByteArray) (k : Nat) : Bool := (List.range k).all fun j => decide (0 ≤ gV s j)
theorem okTo_next {s : ByteArray} {k : Nat} {a : Int} {x : Bool} (ha : gV s k = a) (hx : okTo s k = x) : okTo s (k + 1) = (x && decide (0 ≤ a)) := by
  rw [← hx, ← ha]
  unfold okTo
  rw [List.range_succ, List.all_append]
  simp
def nibL (v : Nat) : List UInt8 := (List.range 4).map fun t => UInt8.ofNat (48 + v / 2 ^ (3 - t) % 2)
def gcrBits (s : ByteArray) : Nat → List UInt8
  | 0 => []
  | k + 1 => gcrBits s k ++ nibL (gvP s k)
theorem gcrBits_len (s : ByteArray) : ∀ k, (gcrBits s k).length = 4 * k
  | 0 => rfl
  | k + 1 => by
    show (gcrBits s k ++ nibL (gvP s k)).length = _
    rw [List.length_append, gcrBits_len s k]
    rfl
theorem nibL_at {v t : Nat} (h : t < 4) : (nibL v)[t]? = some (UInt8.ofNat (48 + v / 2 ^ (3 - t) % 2)) := by
  unfold nibL
  rw [List.getElem?_map, List.getElem?_range h]
  rfl
theorem gcrBits_at (s : ByteArray) {j t : Nat} (ht : t < 4) : ∀ k, j < k → (gcrBits s k)[4 * j + t]? = some (UInt8.ofNat (48 + gvP s j / 2 ^ (3 - t) % 2))
  | k + 1, hj => by
    show (gcrBits s k ++ nibL (gvP s k))[4 * j + t]? = _
    rcases Nat.lt_or_ge j k with h | h
    · rw [List.getElem?_append_left (by rw [gcrBits_len]; omega)]
      exact gcrBits_at s ht k h
    · obtain rfl : j = k := by omega
      rw [List.getElem?_append_right (by rw [gcrBits_len]; omega), gcrBits_len, show 4 * j + t - 4 * j = t by omega]
      exact nibL_at ht
theorem bitU_of {x : Nat} (h : x ≤ 1) : bitU (UInt8.ofNat (48 + x)) = x := by
  obtain rfl | rfl : x = 0 ∨ x = 1 := by omega
  · rfl
  · rfl
theorem isBit_of {x : Nat} (h : x ≤ 1) : isBit (UInt8.ofNat (48 + x)) = true := by
  obtain rfl | rfl : x = 0 ∨ x = 1 := by omega
  · rfl
  · rfl
theorem gcrBits_bits (s : ByteArray) : ∀ k, (gcrBits s k).all isBit = true
  | 0 => rfl
  | k + 1 => by
    show (gcrBits s k ++ nibL (gvP s k)).all isBit = true
    rw [List.all_append, gcrBits_bits s k, Bool.true_and, List.all_eq_true]
    intro c hc
    unfold nibL at hc
    rw [List.mem_map] at hc
    obtain ⟨t, _, rfl⟩ := hc
    exact isBit_of (by omega)
theorem gcr_bit {s : ByteArray} {k j t : Nat} (hj : j < k) (ht : t < 4) : bitU (byteAt ⟨(gcrBits s k).toArray⟩ (4 * j + t)) = gvP s j / 2 ^ (3 - t) % 2 := by
  rw [byteAt_mk, List.getD_eq_getElem?_getD, gcrBits_at s ht k hj]
  exact bitU_of (by omega)
theorem gcr_acc {s : ByteArray} {N m : Nat} (h : m < N) : accB ⟨(gcrBits s (2 * N)).toArray⟩ m 8 = 16 * gvP s (2 * m) + gvP s (2 * m + 1) := by
  have a0 := gcr_bit (s := s) (k := 2 * N) (j := 2 * m) (t := 0) (by omega) (by omega)
  have a1 := gcr_bit (s := s) (k := 2 * N) (j := 2 * m) (t := 1) (by omega) (by omega)
  have a2 := gcr_bit (s := s) (k := 2 * N) (j := 2 * m) (t := 2) (by omega) (by omega)
  have a3 := gcr_bit (s := s) (k := 2 * N) (j := 2 * m) (t := 3) (by omega) (by omega)
  have b0 := gcr_bit (s := s) (k := 2 * N) (j := 2 * m + 1) (t := 0) (by omega) (by omega)
  have b1 := gcr_bit (s := s) (k := 2 * N) (j := 2 * m + 1) (t := 1) (by omega) (by omega)
  have b2 := gcr_bit (s := s) (k := 2 * N) (j := 2 * m + 1) (t := 2) (by omega) (by omega)
  have b3 := gcr_bit (s := s) (k := 2 * N) (j := 2 * m + 1) (t := 3) (by omega) (by omega)
  rw [show 4 * (2 * m) + 0 = 8 * m + 0 by omega] at a0
  rw [show 4 * (2 * m) + 1 = 8 * m + 1 by omega] at a1
  rw [show 4 * (2 * m) + 2 = 8 * m + 2 by omega] at a2
  rw [show 4 * (2 * m) + 3 = 8 * m + 3 by omega] at a3
  rw [show 4 * (2 * m + 1) + 0 = 8 * m + 4 by omega] at b0
  rw [show 4 * (2 * m + 1) + 1 = 8 * m + 5 by omega] at b1
  rw [show 4 * (2 * m + 1) + 2 = 8 * m + 6 by omega] at b2
  rw [show 4 * (2 * m + 1) + 3 = 8 * m + 7 by omega] at b3
  have h1 := gvP_lt s (2 * m)
  have h2 := gvP_lt s (2 * m + 1)
  generalize gvP s (2 * m) = x at *
  generalize gvP s (2 * m + 1) = y at *
  simp only [accB]
  rw [a0, a1, a2, a3, b0, b1, b2, b3]
  simp only [Nat.reduceSub, Nat.reducePow]
  omega
theorem gcr_bytes (s : ByteArray) (N : Nat) : bytesS ⟨(gcrBits s (2 * N)).toArray⟩ = ⟨(rawTo s N).toArray⟩ := by
  unfold bytesS
  rw [size_mk, gcrBits_len, show 4 * (2 * N) / 8 = N by omega]
  congr 2
  unfold bytesTo rawTo
  apply List.map_congr_left
  intro m hm
  rw [gcr_acc (List.mem_range.1 hm)]
def rawV (f : Int) (s : ByteArray) : ByteArray := if f = 3 then ⟨(rawTo s (s.size / 10)).toArray⟩ else bytesS (dataS s)
def rawB (f : Int) (s : ByteArray) : Bool := if f = 3 then okTo s (2 * (s.size / 10)) else true
theorem ret2_raw {a b : ByteArray} {x y : Bool} (h : a = b) (k : x = y) : Ending.returned (.tuple #[.string a, .bool x]) = .returned (.tuple #[.string b, .bool y]) := by rw [h, k]
theorem raw3 {f : Int} {s : ByteArray} {N : Nat} (h3 : f = 3) (hN : s.size / 10 = N) : rawV f s = ⟨(rawTo s N).toArray⟩ ∧ rawB f s = okTo s (2 * N) := by
  unfold rawV rawB
  rw [if_pos h3, if_pos h3, hN]
  exact ⟨rfl, rfl⟩
theorem raw12 {f : Int} {s : ByteArray} (h3 : f ≠ 3) : rawV f s = bytesS (dataS s) ∧ rawB f s = true := by
  unfold rawV rawB
  rw [if_neg h3, if_neg h3]
  exact ⟨rfl, rfl⟩
theorem gvP_neg {s : ByteArray} {j : Nat} {a : Int} (h : gV s j = a) (ha : a < 0) : gvP s j = 0 := by unfold gvP; rw [h]; omega
theorem gvP_pos {s : ByteArray} {j : Nat} {a : Int} (h : gV s j = a) (ha : ¬ a < 0) : (gvP s j : Int) = a := by unfold gvP; rw [h]; omega
set_option maxHeartbeats 8000000 in
theorem impl_rawBytes (f : Int) (s : ByteArray) (w : World) (hT : Tab w) (hc : cellStr s = true) (hm : f ≠ 3 → s.size % 16 = 0) (hg : f = 3 → s.size % 10 = 0) :
    Calls Tryz.prog 109 #[.int .i64 f, .string s] w fun e w' => e = .returned (.tuple #[.string (rawV f s), .bool (rawB f s)]) ∧ Below w.heap.size w w' := by
  obtain ⟨i0, hti, hz0, hz1, hz2⟩ := info_parts Tryz.infoU8b
  obtain ⟨hbits, h8⟩ := cellStr_parts hc
  by_cases h3 : f = 3
  · obtain ⟨N, hN⟩ : ∃ N, s.size = 10 * N := ⟨s.size / 10, by have := hg h3; omega⟩
    have HN := Hid.in_ hN
    have HR := Hid.in_ (raw3 (f := f) (s := s) (N := N) h3 (by omega))
    have HT := Hid.in_ hT
    have hdv : (s.size : Int) / 10 = (N : Int) := by omega
    subst h3
    clear hbits hc hm hg hN hT
    go_enter Tryz.func109, Tryz.ntmps109
    go_wp2_with (at_make; refine wpList_make_own _ rfl _ _ 43 rfl w.heap.size 5 i0 (.int .u8 0) 1 Tryz.underlying43 hti hz0 hz1 .i64 .i64 _ N rfl rfl (by first | rfl | (push_cast; rfl)) (by rw [hz2]; omega) (by unfold maxLen; omega) (Nat.le_refl _) ?_; intro w2 hown hgrow)
    have HO2 := Hid.in_ hown
    have HB2 := Hid.in_ (show Below w.heap.size w w2 from (Below.refl _ _).grown hgrow (Nat.le_refl _) (fun k hk => by cases hk))
    clear hown hgrow
    go_loopg [8, 9, 10] N (fun m v x i wr => ∃ k : Nat, k + m = N ∧ i = .int .i64 (10 * (k : Int)) ∧ x = .bool (okTo s (2 * k)) ∧ Hid (wr.ownsRow w.heap.size 5 1 v k (Lib.byteCells (rawTo s k))) ∧ Hid (Below w.heap.size w wr))
    case atStart => exact ⟨0, by omega, rfl, rfl, HO2.out, HB2.out⟩
    case round =>
      obtain ⟨k, hkm, rfl, rfl, HI, HB⟩ := hrel
      have HK := Hid.in_ hkm
      clear hkm
      by_cases hlt : k < N
      · have HTW := Hid.in_ (Tab.step HB.out HT.out)
        have hlt2 : 10 * (k : Int) < (s.size : Int) := by have := HN.out; omega
        have hsz : 10 * k + 10 ≤ s.size := by have := HN.out; omega
        have hsz2 : 10 * k + 5 ≤ s.size := by omega
        obtain ⟨x, hx⟩ : ∃ x, okTo s (2 * k) = x := ⟨_, rfl⟩
        rw [hx]
        go_wp2_with fail
        go_quiet ((go_at_call 149; first | exact quiet_left (impl_GcrValue _ _ HTW.out) | exact quiet_left (impl_GcrValue _ _ (HTW.out : Tab (World.drewN _ _)))))
        have HB4 := Hid.in_ (below_drewN HB.out nq)
        have HO4 := Hid.in_ (own_drewN HI.out nq)
        generalize wr.drewN nq = w4 at *
        have q1 := gcrValue_in (s.extract (10 * k) (10 * k + 5))
        have q2 := gcrValue_in (s.extract (10 * k + 5) (10 * k + 10))
        have hA : gV s (2 * k) = gcrValue (s.extract (10 * k) (10 * k + 5)) := by unfold gV grpAt; rw [show 5 * (2 * k) = 10 * k by omega]
        have hB : gV s (2 * k + 1) = gcrValue (s.extract (10 * k + 5) (10 * k + 10)) := by unfold gV grpAt; rw [show 5 * (2 * k + 1) = 10 * k + 5 by omega]
        generalize gcrValue (s.extract (10 * k) (10 * k + 5)) = a at *
        generalize gcrValue (s.extract (10 * k + 5) (10 * k + 10)) = b at *
        have hok := okTo_next hB (okTo_next hA hx)
        have hP : ∃ p, gvP s (2 * k) = p ∧ (p : Int) = max a 0 := ⟨_, rfl, by unfold gvP; rw [hA]; omega⟩
        have hQ : ∃ p, gvP s (2 * k + 1) = p ∧ (p : Int) = max b 0 := ⟨_, rfl, by unfold gvP; rw [hB]; omega⟩
        obtain ⟨p, hp, hpv⟩ := hP
        obtain ⟨q, hq, hqv⟩ := hQ
        have HW := Hid.in_ (rawTo_next hp hq)
        have hpl : p < 16 := by rw [← hp]; exact gvP_lt _ _
        have hql : q < 16 := by rw [← hq]; exact gvP_lt _ _
        clear hA hB hp hq hx HI HB
        rw [show 2 * k + 1 + 1 = 2 * (k + 1) by omega] at hok
        have HOK := Hid.in_ hok
        have HPV := Hid.in_ hpv
        have HQV := Hid.in_ hqv
        clear hok hpv hqv
        cases x
        all_goals
          rcases Int.lt_or_le a 0 with ha | ha
          all_goals
            rcases Int.lt_or_le b 0 with hb | hb
            all_goals
              obtain ⟨y, hy⟩ : ∃ y, okTo s (2 * (k + 1)) = y := ⟨_, rfl⟩
              have hyv := hy.symm.trans HOK.out
              have hp0 : max a 0 = (p : Int) := HPV.out.symm
              have hq0 : max b 0 = (q : Int) := HQV.out.symm
              go_wp2_with (at_builtin; refine wpList_append_own _ rfl _ _ 43 rfl w.heap.size 5 i0 (.int .u8 0) 1 1 Tryz.underlying43 hti hz0 hz1 hz2 rfl (by decide) _ _ _ rfl (HO4.out.alloc _) ⟨w4.heap.size, 0, none⟩ 1 1 [.int .u8 (16 * (p : Int) + (q : Int))] rfl rfl (cell_one_new _ _ _) (fun x hx => by simp at hx; subst hx; rfl) (by unfold maxLen; omega) (by omega) (balloc HB4.out _).size ?_; intro v6 w6 ho6 hg6 _)
              have HB6 := Hid.in_ (bgrown (balloc HB4.out _) (HO4.out.alloc _) (Nat.le_refl _) hg6)
              rw [HW.out] at ho6
              have HO6 := Hid.in_ ho6
              clear ho6 hg6 hyv hy
              have hk := HK.out
              have ho := HOK.out
              first
                | rw [decide_eq_true (by omega : 0 ≤ a), decide_eq_true (by omega : 0 ≤ b)] at ho
                | rw [decide_eq_true (by omega : 0 ≤ a), decide_eq_false (by omega : ¬ 0 ≤ b)] at ho
                | rw [decide_eq_false (by omega : ¬ 0 ≤ a), decide_eq_true (by omega : 0 ≤ b)] at ho
                | rw [decide_eq_false (by omega : ¬ 0 ≤ a), decide_eq_false (by omega : ¬ 0 ≤ b)] at ho
              go_roundg (gk - 1)
              case measure => omega
              case rel => exact ⟨k + 1, by omega, by go_num, by first | (rw [ho]; rfl) | (rw [ho, decide_eq_true (by omega : 0 ≤ b)]; rfl) | (rw [ho, decide_eq_false (by omega : ¬ 0 ≤ b)]; rfl), HO6, HB6⟩
      · have hk := HK.out
        obtain rfl : k = N := by omega
        have hge : ¬ (10 * (k : Int) < (s.size : Int)) := by have := HN.out; omega
        have hcv := conv_own Tryz.underlying43 Tryz.underlying5 Tryz.underlying9 HI.out
        go_wp2
        go_ret2
        exact ⟨ret2_raw HR.out.1.symm HR.out.2.symm, HB.out⟩
  · have HR := Hid.in_ (raw12 (f := f) (s := s) h3)
    have HD := Hid.in_ (impl_dataCells s w hc (hm h3))
    clear hbits hc hm hg hT
    go_enter Tryz.func109, Tryz.ntmps109
    go_wp2_with (go_at_call 148; refine HD.out.mono ?_; rintro e w1 ⟨rfl, hb1⟩)
    go_ret2
    exact ⟨ret2_raw HR.out.1.symm HR.out.2.symm, hb1⟩
theorem low_i64 (n : Nat) (h : n < 16) : bits BinOp.and .i64 (n : Int) 1 = ((n % 2 : Nat) : Int) := by
  have h' : ∀ n : Fin 16, bits BinOp.and .i64 ((n.val : Nat) : Int) 1 = ((n.val % 2 : Nat) : Int) := by decide +kernel
  exact h' ⟨n, h⟩
def nibTo (p j : Nat) : List UInt8 := (List.range j).map fun t => UInt8.ofNat (48 + p / 2 ^ (3 - t) % 2)
theorem nibTo_next (p j : Nat) : nibTo p (j + 1) = nibTo p j ++ [UInt8.ofNat (48 + p / 2 ^ (3 - j) % 2)] := by
  unfold nibTo
  rw [List.range_succ, List.map_append]
  rfl
theorem nibTo_all (p : Nat) : nibTo p 4 = nibL p := rfl
theorem byteCells_snoc (a b : List UInt8) : Lib.byteCells a ++ Lib.byteCells b = Lib.byteCells (a ++ b) := by
  unfold Lib.byteCells
  rw [List.map_append]
theorem nib_cell {p t q : Nat} (h : q = p / 2 ^ (3 - t) % 2) : [Value.int .u8 (48 + (q : Int))] = Lib.byteCells [UInt8.ofNat (48 + p / 2 ^ (3 - t) % 2)] := by
  rw [← h]
  show _ = [Value.int .u8 ((UInt8.ofNat (48 + q)).toNat : Int)]
  rw [UInt8.toNat_ofNat']
  congr 2
  omega
set_option maxHeartbeats 16000000 in
theorem spec_l09Raw (f : Int) (s : ByteArray) (w : World) (hc : cellStr s = true) (hm : f ≠ 3 → s.size % 16 = 0) (hg : f = 3 → s.size % 10 = 0) :
    Calls Tryz.prog 142 #[.int .i64 f, .string s] w fun e w' => e = .returned (.tuple #[.string (rawV f s), .bool (rawB f s)]) ∧ Below w.heap.size w w' := by
  obtain ⟨i0, hti, hz0, hz1, hz2⟩ := info_parts Tryz.infoU8b
  obtain ⟨hbits, h8⟩ := cellStr_parts hc
  by_cases h3 : f = 3
  · obtain ⟨N, hN⟩ : ∃ N, s.size = 10 * N := ⟨s.size / 10, by have := hg h3; omega⟩
    have HN := Hid.in_ (show s.size = 5 * (2 * N) by omega)
    have HR := Hid.in_ (raw3 (f := f) (s := s) (N := N) h3 (by omega))
    have HBY := Hid.in_ (fun w => spec_BytesOf ⟨(gcrBits s (2 * N)).toArray⟩ w N (by rw [size_mk, gcrBits_len]; omega) (by rw [size_mk, gcrBits_len]; omega) (by rw [allBits_mk]; exact gcrBits_bits s _))
    rw [gcr_bytes] at HBY
    subst h3
    clear hbits hc hm hg hN
    obtain ⟨M, hM⟩ : ∃ M, M = 2 * N := ⟨_, rfl⟩
    rw [← hM] at HN HBY HR
    have HM := Hid.in_ hM
    clear hM
    go_enter Tryz.func142, Tryz.ntmps142
    go_wp2_with fail
    go_loopg [6, 7, 8] M (fun m v x i wr => ∃ k : Nat, k + m = M ∧ i = .int .i64 (5 * (k : Int)) ∧ x = .bool (okTo s k) ∧ Hid (wr.ownsRow w.heap.size 5 1 v (4 * k) (Lib.byteCells (gcrBits s k))) ∧ Hid (Below w.heap.size w wr))
    case atStart => exact ⟨0, by omega, rfl, rfl, World.ownsRow_lit w #[] 0 (Nat.le_refl _) (by decide) (by decide), balloc (Below.refl _ _) _⟩
    case round =>
      obtain ⟨k, hkm, rfl, rfl, HI, HB⟩ := hrel
      have HK := Hid.in_ hkm
      clear hkm
      by_cases hlt : k < M
      · have hsz : 5 * k + 5 ≤ s.size := by have := HN.out; omega
        have hsz2 : 5 * (k : Int) + 5 ≤ (s.size : Int) := by omega
        obtain ⟨x, hx⟩ : ∃ x, okTo s k = x := ⟨_, rfl⟩
        rw [hx]
        go_wp2_with fail
        refine (spec_GcrValue _ _).mono ?_
        rintro e w2 ⟨rfl, hb2⟩
        have HI2 := Hid.in_ (own_below HI.out hb2 (Nat.le_refl _))
        have HB2 := Hid.in_ (HB.out.trans (hb2.mono HB.out.size))
        clear hb2 HI HB
        have q1 := gcrValue_in (s.extract (5 * k) (5 * k + 5))
        have hA : gV s k = gcrValue (s.extract (5 * k) (5 * k + 5)) := rfl
        generalize gcrValue (s.extract (5 * k) (5 * k + 5)) = a at *
        have HOK := Hid.in_ (okTo_next hA hx)
        obtain ⟨p, hp⟩ : ∃ p, gvP s k = p := ⟨_, rfl⟩
        have hpl : p < 16 := by rw [← hp]; exact gvP_lt _ _
        have HPE := Hid.in_ (show gcrBits s (k + 1) = gcrBits s k ++ nibL p by rw [← hp]; rfl)
        by_cases ha : a < 0
        · have hp0 : p = 0 := by rw [← hp]; exact gvP_neg hA ha
          have HP0 := Hid.in_ hp0
          rw [decide_eq_false (by omega : ¬ 0 ≤ a), Bool.and_false] at HOK
          clear hp0 hA hp hx
          go_wp2_with fail
          obtain ⟨gO, rfl⟩ : ∃ g, g = gk := ⟨_, rfl⟩
          go_loopg [6, 10] 4 (fun m v i w3 => ∃ j : Nat, j + m = 4 ∧ i = .int .i64 (3 - (j : Int)) ∧ Hid (w3.ownsRow w.heap.size 5 1 v (4 * k + j) (Lib.byteCells (gcrBits s k ++ nibTo p j))) ∧ Hid (Below w.heap.size w w3))
          case atStart => exact ⟨0, by omega, by go_num, by rw [show nibTo p 0 = [] from rfl, List.append_nil]; exact HI2.out, HB2.out⟩
          case round =>
            obtain ⟨j, hjm, rfl, HJI, HJB⟩ := hrel
            have HJ := Hid.in_ hjm
            clear hjm
            by_cases hj : j < 4
            · obtain rfl | rfl | rfl | rfl : j = 0 ∨ j = 1 ∨ j = 2 ∨ j = 3 := by omega
              · have e1 : bits BinOp.and .i64 0 1 = 0 := by decide
                have HQ := Hid.in_ (show [Value.int .u8 48] = Lib.byteCells [UInt8.ofNat (48 + p / 2 ^ (3 - 0) % 2)] by rw [HP0.out]; rfl)
                go_wp2_with (at_builtin; refine wpList_append_own _ rfl _ _ 43 rfl w.heap.size 5 i0 (.int .u8 0) 1 1 Tryz.underlying43 hti hz0 hz1 hz2 rfl (by decide) _ _ _ rfl (HJI.out.alloc _) ⟨wr.heap.size, 0, none⟩ 1 1 [.int .u8 (48)] rfl rfl (cell_one_new _ _ _) (fun x hx => by simp at hx; subst hx; rfl) (by unfold maxLen; omega) (by omega) (balloc HJB.out _).size ?_; intro v4 w4 ho4 hg4 _)
                have HB4 := Hid.in_ (bgrown (balloc HJB.out _) (HJI.out.alloc _) (Nat.le_refl _) hg4)
                rw [HQ.out, byteCells_snoc, List.append_assoc, ← nibTo_next] at ho4
                have HO4 := Hid.in_ ho4
                clear ho4 hg4
                have hj2 := HJ.out
                go_roundg (gk - 1)
                case measure => omega
                case rel => exact ⟨1, by omega, by go_num, HO4.out, HB4.out⟩
              · have e1 : bits BinOp.and .i64 0 1 = 0 := by decide
                have HQ := Hid.in_ (show [Value.int .u8 48] = Lib.byteCells [UInt8.ofNat (48 + p / 2 ^ (3 - 1) % 2)] by rw [HP0.out]; rfl)
                go_wp2_with (at_builtin; refine wpList_append_own _ rfl _ _ 43 rfl w.heap.size 5 i0 (.int .u8 0) 1 1 Tryz.underlying43 hti hz0 hz1 hz2 rfl (by decide) _ _ _ rfl (HJI.out.alloc _) ⟨wr.heap.size, 0, none⟩ 1 1 [.int .u8 (48)] rfl rfl (cell_one_new _ _ _) (fun x hx => by simp at hx; subst hx; rfl) (by unfold maxLen; omega) (by omega) (balloc HJB.out _).size ?_; intro v4 w4 ho4 hg4 _)
                have HB4 := Hid.in_ (bgrown (balloc HJB.out _) (HJI.out.alloc _) (Nat.le_refl _) hg4)
                rw [HQ.out, byteCells_snoc, List.append_assoc, ← nibTo_next] at ho4
                have HO4 := Hid.in_ ho4
                clear ho4 hg4
                have hj2 := HJ.out
                go_roundg (gk - 1)
                case measure => omega
                case rel => exact ⟨2, by omega, by go_num, HO4.out, HB4.out⟩
              · have e1 : bits BinOp.and .i64 0 1 = 0 := by decide
                have HQ := Hid.in_ (show [Value.int .u8 48] = Lib.byteCells [UInt8.ofNat (48 + p / 2 ^ (3 - 2) % 2)] by rw [HP0.out]; rfl)
                go_wp2_with (at_builtin; refine wpList_append_own _ rfl _ _ 43 rfl w.heap.size 5 i0 (.int .u8 0) 1 1 Tryz.underlying43 hti hz0 hz1 hz2 rfl (by decide) _ _ _ rfl (HJI.out.alloc _) ⟨wr.heap.size, 0, none⟩ 1 1 [.int .u8 (48)] rfl rfl (cell_one_new _ _ _) (fun x hx => by simp at hx; subst hx; rfl) (by unfold maxLen; omega) (by omega) (balloc HJB.out _).size ?_; intro v4 w4 ho4 hg4 _)
                have HB4 := Hid.in_ (bgrown (balloc HJB.out _) (HJI.out.alloc _) (Nat.le_refl _) hg4)
                rw [HQ.out, byteCells_snoc, List.append_assoc, ← nibTo_next] at ho4
                have HO4 := Hid.in_ ho4
                clear ho4 hg4
                have hj2 := HJ.out
                go_roundg (gk - 1)
                case measure => omega
                case rel => exact ⟨3, by omega, by go_num, HO4.out, HB4.out⟩
              · have e1 : bits BinOp.and .i64 0 1 = 0 := by decide
                have HQ := Hid.in_ (show [Value.int .u8 48] = Lib.byteCells [UInt8.ofNat (48 + p / 2 ^ (3 - 3) % 2)] by rw [HP0.out]; rfl)
                go_wp2_with (at_builtin; refine wpList_append_own _ rfl _ _ 43 rfl w.heap.size 5 i0 (.int .u8 0) 1 1 Tryz.underlying43 hti hz0 hz1 hz2 rfl (by decide) _ _ _ rfl (HJI.out.alloc _) ⟨wr.heap.size, 0, none⟩ 1 1 [.int .u8 (48)] rfl rfl (cell_one_new _ _ _) (fun x hx => by simp at hx; subst hx; rfl) (by unfold maxLen; omega) (by omega) (balloc HJB.out _).size ?_; intro v4 w4 ho4 hg4 _)
                have HB4 := Hid.in_ (bgrown (balloc HJB.out _) (HJI.out.alloc _) (Nat.le_refl _) hg4)
                rw [HQ.out, byteCells_snoc, List.append_assoc, ← nibTo_next] at ho4
                have HO4 := Hid.in_ ho4
                clear ho4 hg4
                have hj2 := HJ.out
                go_roundg (gk - 1)
                case measure => omega
                case rel => exact ⟨4, by omega, by go_num, HO4.out, HB4.out⟩
            · have hj2 := HJ.out
              obtain rfl : j = 4 := by omega
              have HF : Hid (wr.ownsRow w.heap.size 5 1 u6 (4 * (k + 1)) (Lib.byteCells (gcrBits s (k + 1)))) := by
                have := HJI.out
                rw [nibTo_all, ← HPE.out] at this
                exact this
              go_wp2
              have hk := HK.out
              go_roundg (gO - 1)
              case measure => omega
              case rel => exact ⟨k + 1, by omega, by go_num, by rw [HOK.out], HF.out, HJB.out⟩
        · have hpa : (p : Int) = a := by rw [← hp]; exact gvP_pos hA ha
          rw [decide_eq_true (by omega : 0 ≤ a), Bool.and_true] at HOK
          subst hpa
          clear hA hp hx
          go_wp2_with fail
          obtain ⟨gO, rfl⟩ : ∃ g, g = gk := ⟨_, rfl⟩
          go_loopg [6, 10] 4 (fun m v i w3 => ∃ j : Nat, j + m = 4 ∧ i = .int .i64 (3 - (j : Int)) ∧ Hid (w3.ownsRow w.heap.size 5 1 v (4 * k + j) (Lib.byteCells (gcrBits s k ++ nibTo p j))) ∧ Hid (Below w.heap.size w w3))
          case atStart => exact ⟨0, by omega, by go_num, by rw [show nibTo p 0 = [] from rfl, List.append_nil]; exact HI2.out, HB2.out⟩
          case round =>
            obtain ⟨j, hjm, rfl, HJI, HJB⟩ := hrel
            have HJ := Hid.in_ hjm
            clear hjm
            by_cases hj : j < 4
            · obtain rfl | rfl | rfl | rfl : j = 0 ∨ j = 1 ∨ j = 2 ∨ j = 3 := by omega
              · obtain ⟨q, hq⟩ : ∃ q : Nat, q = p / 2 ^ (3 - 0) % 2 := ⟨_, rfl⟩
                have hq1 : q ≤ 1 := by omega
                have e1 : bits BinOp.and .i64 ((p : Int) / 8) 1 = (q : Int) := by have := low_i64 (p / 8) (by omega); push_cast at this; rw [this, hq]; push_cast; rfl
                have HQ := Hid.in_ (nib_cell (p := p) (t := 0) hq)
                clear hq
                go_wp2_with (at_builtin; refine wpList_append_own _ rfl _ _ 43 rfl w.heap.size 5 i0 (.int .u8 0) 1 1 Tryz.underlying43 hti hz0 hz1 hz2 rfl (by decide) _ _ _ rfl (HJI.out.alloc _) ⟨wr.heap.size, 0, none⟩ 1 1 [.int .u8 (48 + (q : Int))] rfl rfl (cell_one_new _ _ _) (fun x hx => by simp at hx; subst hx; rfl) (by unfold maxLen; omega) (by omega) (balloc HJB.out _).size ?_; intro v4 w4 ho4 hg4 _)
                have HB4 := Hid.in_ (bgrown (balloc HJB.out _) (HJI.out.alloc _) (Nat.le_refl _) hg4)
                rw [HQ.out, byteCells_snoc, List.append_assoc, ← nibTo_next] at ho4
                have HO4 := Hid.in_ ho4
                clear ho4 hg4
                have hj2 := HJ.out
                go_roundg (gk - 1)
                case measure => omega
                case rel => exact ⟨1, by omega, by go_num, HO4.out, HB4.out⟩
              · obtain ⟨q, hq⟩ : ∃ q : Nat, q = p / 2 ^ (3 - 1) % 2 := ⟨_, rfl⟩
                have hq1 : q ≤ 1 := by omega
                have e1 : bits BinOp.and .i64 ((p : Int) / 4) 1 = (q : Int) := by have := low_i64 (p / 4) (by omega); push_cast at this; rw [this, hq]; push_cast; rfl
                have HQ := Hid.in_ (nib_cell (p := p) (t := 1) hq)
                clear hq
                go_wp2_with (at_builtin; refine wpList_append_own _ rfl _ _ 43 rfl w.heap.size 5 i0 (.int .u8 0) 1 1 Tryz.underlying43 hti hz0 hz1 hz2 rfl (by decide) _ _ _ rfl (HJI.out.alloc _) ⟨wr.heap.size, 0, none⟩ 1 1 [.int .u8 (48 + (q : Int))] rfl rfl (cell_one_new _ _ _) (fun x hx => by simp at hx; subst hx; rfl) (by unfold maxLen; omega) (by omega) (balloc HJB.out _).size ?_; intro v4 w4 ho4 hg4 _)
                have HB4 := Hid.in_ (bgrown (balloc HJB.out _) (HJI.out.alloc _) (Nat.le_refl _) hg4)
                rw [HQ.out, byteCells_snoc, List.append_assoc, ← nibTo_next] at ho4
                have HO4 := Hid.in_ ho4
                clear ho4 hg4
                have hj2 := HJ.out
                go_roundg (gk - 1)
                case measure => omega
                case rel => exact ⟨2, by omega, by go_num, HO4.out, HB4.out⟩
              · obtain ⟨q, hq⟩ : ∃ q : Nat, q = p / 2 ^ (3 - 2) % 2 := ⟨_, rfl⟩
                have hq1 : q ≤ 1 := by omega
                have e1 : bits BinOp.and .i64 ((p : Int) / 2) 1 = (q : Int) := by have := low_i64 (p / 2) (by omega); push_cast at this; rw [this, hq]; push_cast; rfl
                have HQ := Hid.in_ (nib_cell (p := p) (t := 2) hq)
                clear hq
                go_wp2_with (at_builtin; refine wpList_append_own _ rfl _ _ 43 rfl w.heap.size 5 i0 (.int .u8 0) 1 1 Tryz.underlying43 hti hz0 hz1 hz2 rfl (by decide) _ _ _ rfl (HJI.out.alloc _) ⟨wr.heap.size, 0, none⟩ 1 1 [.int .u8 (48 + (q : Int))] rfl rfl (cell_one_new _ _ _) (fun x hx => by simp at hx; subst hx; rfl) (by unfold maxLen; omega) (by omega) (balloc HJB.out _).size ?_; intro v4 w4 ho4 hg4 _)
                have HB4 := Hid.in_ (bgrown (balloc HJB.out _) (HJI.out.alloc _) (Nat.le_refl _) hg4)
                rw [HQ.out, byteCells_snoc, List.append_assoc, ← nibTo_next] at ho4
                have HO4 := Hid.in_ ho4
                clear ho4 hg4
                have hj2 := HJ.out
                go_roundg (gk - 1)
                case measure => omega
                case rel => exact ⟨3, by omega, by go_num, HO4.out, HB4.out⟩
              · obtain ⟨q, hq⟩ : ∃ q : Nat, q = p / 2 ^ (3 - 3) % 2 := ⟨_, rfl⟩
                have hq1 : q ≤ 1 := by omega
                have e1 : bits BinOp.and .i64 (p : Int) 1 = (q : Int) := by have := low_i64 p (by omega); rw [this, hq]; simp
                have HQ := Hid.in_ (nib_cell (p := p) (t := 3) hq)
                clear hq
                go_wp2_with (at_builtin; refine wpList_append_own _ rfl _ _ 43 rfl w.heap.size 5 i0 (.int .u8 0) 1 1 Tryz.underlying43 hti hz0 hz1 hz2 rfl (by decide) _ _ _ rfl (HJI.out.alloc _) ⟨wr.heap.size, 0, none⟩ 1 1 [.int .u8 (48 + (q : Int))] rfl rfl (cell_one_new _ _ _) (fun x hx => by simp at hx; subst hx; rfl) (by unfold maxLen; omega) (by omega) (balloc HJB.out _).size ?_; intro v4 w4 ho4 hg4 _)
                have HB4 := Hid.in_ (bgrown (balloc HJB.out _) (HJI.out.alloc _) (Nat.le_refl _) hg4)
                rw [HQ.out, byteCells_snoc, List.append_assoc, ← nibTo_next] at ho4
                have HO4 := Hid.in_ ho4
                clear ho4 hg4
                have hj2 := HJ.out
                go_roundg (gk - 1)
                case measure => omega
                case rel => exact ⟨4, by omega, by go_num, HO4.out, HB4.out⟩
            · have hj2 := HJ.out
              obtain rfl : j = 4 := by omega
              have HF : Hid (wr.ownsRow w.heap.size 5 1 u6 (4 * (k + 1)) (Lib.byteCells (gcrBits s (k + 1)))) := by
                have := HJI.out
                rw [nibTo_all, ← HPE.out] at this
                exact this
              go_wp2
              have hk := HK.out
              go_roundg (gO - 1)
              case measure => omega
              case rel => exact ⟨k + 1, by omega, by go_num, by rw [HOK.out], HF.out, HJB.out⟩
      · have hk := HK.out
        obtain rfl : k = M := by omega
        have hge : ¬ (5 * (k : Int) + 5 ≤ (s.size : Int)) := by have := HN.out; omega
        have hks : 5 * k ≤ 8000 := by have := HN.out; omega
        have hcv := conv_own Tryz.underlying43 Tryz.underlying5 Tryz.underlying9 HI.out
        go_wp2_with fail
        refine (HBY.out _).mono ?_
        rintro e w9 ⟨rfl, hb9⟩
        go_wp2
        go_ret2
        exact ⟨ret2_raw HR.out.1.symm HR.out.2.symm, HB.out.trans (hb9.mono HB.out.size)⟩
  · have HR := Hid.in_ (raw12 (f := f) (s := s) h3)
    obtain ⟨N, hN⟩ : ∃ N, s.size = 2 * N := ⟨s.size / 2, by have := hm h3; omega⟩
    have HN := Hid.in_ hN
    have HD := Hid.in_ (show (⟨(dataTo s N).toArray⟩ : ByteArray) = dataS s by unfold dataS; rw [show s.size / 2 = N by omega])
    have HBY := Hid.in_ (fun w => spec_BytesOf (dataS s) w (N / 8) (by have := hm h3; rw [dataS_size]; omega) (by rw [dataS_size]; omega) (dataS_bits hbits))
    generalize dataS s = D at *
    clear hbits hc hm hg hN
    go_enter Tryz.func142, Tryz.ntmps142
    go_wp2_with fail
    try rw [show (f == 3) = false from beq_eq_false_iff_ne.2 h3]
    go_loopg [6, 11] N (fun m v i wr => ∃ k : Nat, k + m = N ∧ i = .int .i64 (1 + 2 * (k : Int)) ∧ Hid (wr.ownsRow w.heap.size 5 1 v k (Lib.byteCells (dataTo s k))) ∧ Hid (Below w.heap.size w wr))
    case atStart => exact ⟨0, by omega, rfl, World.ownsRow_lit w #[] 0 (Nat.le_refl _) (by decide) (by decide), balloc (Below.refl _ _) _⟩
    case round =>
      obtain ⟨k, hkm, rfl, HI, HB⟩ := hrel
      have HK := Hid.in_ hkm
      clear hkm
      by_cases hlt : k < N
      · obtain ⟨q, hq⟩ : ∃ q, q = 2 * k + 1 := ⟨_, rfl⟩
        have hqs : q < s.size := by have := HN.out; omega
        have hqi : 1 + 2 * (k : Int) = (q : Int) := by omega
        obtain ⟨c, hc⟩ : ∃ c : UInt8, s[q] = c := ⟨_, rfl⟩
        have HW := Hid.in_ (dataTo_next (s := s) (k := k) (c := c) (hq ▸ hqs) (by simp only [← hq]; exact hc))
        clear hq
        go_wp2_with (at_builtin; refine wpList_append_own _ rfl _ _ 43 rfl w.heap.size 5 i0 (.int .u8 0) 1 1 Tryz.underlying43 hti hz0 hz1 hz2 rfl (by decide) _ _ _ rfl (HI.out.alloc _) ⟨wr.heap.size, 0, none⟩ 1 1 [.int .u8 (c.toNat : Int)] rfl rfl (cell_one_new _ _ _) (fun x hx => by simp at hx; subst hx; rfl) (by unfold maxLen; omega) (by omega) (balloc HB.out _).size ?_; intro v6 w6 ho6 hg6 _)
        have HB6 := Hid.in_ (bgrown (balloc HB.out _) (HI.out.alloc _) (Nat.le_refl _) hg6)
        rw [HW.out] at ho6
        have HO6 := Hid.in_ ho6
        clear ho6 hg6
        have hk := HK.out
        go_roundg (gk - 1)
        case measure => omega
        case rel => exact ⟨k + 1, by omega, by go_num, HO6, HB6⟩
      · have hk := HK.out
        obtain rfl : k = N := by omega
        have hge : ¬ (1 + 2 * (k : Int) < (s.size : Int)) := by have := HN.out; omega
        have hcv := conv_own Tryz.underlying43 Tryz.underlying5 Tryz.underlying9 HI.out
        rw [HD.out] at hcv
        go_wp2_with fail
        refine (HBY.out _).mono ?_
        rintro e w9 ⟨rfl, hb9⟩
        go_wp2
        go_ret2
        exact ⟨ret2_raw HR.out.1.symm HR.out.2.symm, HB.out.trans (hb9.mono HB.out.size)⟩
end Go.Proofs.YtlelgpknkgjaeaaGreatDoor
