/- The group code of bytes: 'gcrCells', 'EncodeGcr' of the program and of the reference. -/
import Derived.Test.YtlelgpknkgjaeaaGreatDoorBuilder
import Derived.Test.YtlelgpknkgjaeaaGreatDoorGcr
import Derived.Test.YtlelgpknkgjaeaaGreatDoorStr
import Derived.Test.YtlelgpknkgjaeaaGreatDoorShelfC
import Derived.StillTailTactics
import Derived.Laws.Concat
namespace Go.Proofs.YtlelgpknkgjaeaaGreatDoor
open Go.ChangeShapes Go.WideShapes Go.ChangeAt Go.RowKit
set_option maxRecDepth 20000
set_option linter.unusedSimpArgs false
set_option linter.unusedVariables false

def gcrL (k : Nat) : List UInt8 := gcrTab.getD k []
def gcrB (l : List UInt8) : List UInt8 := l.flatMap fun c => gcrL (c.toNat / 16) ++ gcrL (c.toNat % 16)
theorem gcrL_len {k : Nat} (h : k < 16) : (gcrL k).length = 5 := by
  obtain rfl | rfl | rfl | rfl | rfl | rfl | rfl | rfl | rfl | rfl | rfl | rfl | rfl | rfl | rfl | rfl : k = 0 ∨ k = 1 ∨ k = 2 ∨ k = 3 ∨ k = 4 ∨ k = 5 ∨ k = 6 ∨ k = 7 ∨ k = 8 ∨ k = 9 ∨ k = 10 ∨ k = 11 ∨ k = 12 ∨ k = 13 ∨ k = 14 ∨ k = 15 := by omega
  all_goals rfl
theorem gcrS_sizeE {k : Nat} (h : k < 16) : (gcrS k).size = 5 := gcrL_len h
theorem gcrB_len (l : List UInt8) : (gcrB l).length = 10 * l.length := by
  induction l with
  | nil => rfl
  | cons c l ih =>
    have h1 := gcrL_len (k := c.toNat / 16) (by have := c.toNat_lt; omega)
    have h2 := gcrL_len (k := c.toNat % 16) (by omega)
    have : gcrB (c :: l) = (gcrL (c.toNat / 16) ++ gcrL (c.toNat % 16)) ++ gcrB l := rfl
    rw [this]
    simp only [List.length_append, List.length_cons, ih, h1, h2]
    omega
def encode (s : ByteArray) : ByteArray := ⟨(gcrB s.data.toList).toArray⟩
theorem and15 (c : UInt8) : bits BinOp.and .u8 (c.toNat : Int) 15 = ((c.toNat % 16 : Nat) : Int) := by
  have h : ∀ n : Fin 256, bits BinOp.and .u8 ((n.val : Nat) : Int) 15 = ((n.val % 16 : Nat) : Int) := by decide +kernel
  exact h ⟨c.toNat, c.toNat_lt⟩
theorem gcr_step {s : ByteArray} {k : Nat} (h : k < s.size) {c : UInt8} (hc : s[k] = c) :
    Lib.byteCells (gcrB (s.data.toList.take k)) ++ Lib.strCells (gcrS (c.toNat / 16) ++ gcrS (c.toNat % 16)) = Lib.byteCells (gcrB (s.data.toList.take (k + 1))) := by
  subst hc
  have hk : k < s.data.toList.length := by simpa using h
  rw [List.take_succ_eq_append_getElem hk]
  unfold gcrB Lib.byteCells Lib.strCells
  rw [List.flatMap_append, List.map_append]
  congr 1
  simp [gcrS, gcrL]
  rfl
theorem encode_size (s : ByteArray) : (encode s).size = 10 * s.size := by
  show ((gcrB s.data.toList).toArray).size = _
  rw [List.size_toArray, gcrB_len]
  simp
theorem take_len (s : ByteArray) (k : Nat) : (Lib.byteCells (gcrB (s.data.toList.take k))).length ≤ 10 * s.size := by
  rw [Lib.byteCells_length, gcrB_len, List.length_take]
  simp
  omega

theorem impl_gcrCells (s : ByteArray) (w : World) (hs : s.size ≤ 1048576) (hT : Tab w) :
    Calls Tryz.prog 93 #[.string s] w fun e w' => e = .returned (.string (encode s)) ∧ Below w.heap.size w w' := by
  have HT := Hid.in_ hT
  clear hT
  go_enter Tryz.func93, Tryz.ntmps93
  go_wp2_with fail
  go_loopg [7] s.size (fun m i wr => ∃ k : Nat, k + m = s.size ∧ i = .int .i64 k ∧ Hid (Lib.IsBuilder 147 5 w.heap.size w.heap.size (Lib.byteCells (gcrB (s.data.toList.take k))) wr) ∧ Hid (Below w.heap.size w wr))
  case atStart => exact ⟨0, by omega, rfl, Lib.fresh_isBuilder 147 5 w, balloc (Below.refl _ _) _⟩
  case round =>
    obtain ⟨k, hkm, rfl, HI, HB⟩ := hrel
    by_cases hlt : k < s.size
    · obtain ⟨c, hc⟩ : ∃ c : UInt8, s[k] = c := ⟨_, rfl⟩
      have HS0 := gcr_step hlt hc
      obtain ⟨hi, hhi⟩ : ∃ hi : Nat, hi = c.toNat / 16 := ⟨_, rfl⟩
      obtain ⟨lo, hlo⟩ : ∃ lo : Nat, lo = c.toNat % 16 := ⟨_, rfl⟩
      have hc1 : ((c.toNat : Int) / 16) = (hi : Int) := by omega
      have hc2 : bits BinOp.and .u8 (c.toNat : Int) 15 = (lo : Int) := by rw [and15, hlo]
      have hhi2 : hi < 16 := by have := c.toNat_lt; omega
      have hlo2 : lo < 16 := by omega
      have hhi3 : ((hi : Nat) : Int) < 16 := by omega
      have hlo3 : ((lo : Nat) : Int) < 16 := by omega
      rw [← hhi, ← hlo] at HS0
      have s1 := gcrS_sizeE hhi2
      have s2 := gcrS_sizeE hlo2
      have hadd := run_string_add_sum (P := Tryz.prog) wr.drew (gcrS hi) (gcrS lo) (by omega)
      have hno : ¬ ((gcrS hi).size + (gcrS lo).size > 9223372036854775807) := by omega
      have HZ0 := show (gcrS hi ++ gcrS lo).size = 10 by rw [ByteArray.size_append, s1, s2]
      obtain ⟨y, hy⟩ : ∃ y, gcrS hi ++ gcrS lo = y := ⟨_, rfl⟩
      rw [hy] at HS0 HZ0 hadd
      have HS := Hid.in_ HS0
      have HZ := Hid.in_ HZ0
      clear hhi hlo HS0 HZ0
      have cc := ((HT.out.step HB.out)).cell hhi2
      have cd := ((HT.out.step HB.out)).cell hlo2
      go_wp2_with fail
      go_still_tail 13, (by kernel_rfl)
      go_wp2_with fail
      have hq := HZ.out
      have HI' : Lib.IsBuilder 147 5 w.heap.size w.heap.size (Lib.byteCells (gcrB (s.data.toList.take k))) wr.drew := HI.out
      have HB' : Below w.heap.size w wr.drew := HB.out.drew
      refine (writeString _ _ _ y _ HI' (by have := take_len s k; omega) HB'.size).mono ?_
      rintro e w1 ⟨rfl, h1, hb1⟩
      rw [HS.out] at h1
      go_wp2
      go_roundg (gk - 1)
      case measure => omega
      case rel => exact ⟨k + 1, by omega, by go_num, .inr h1, HB'.trans hb1⟩
    · obtain rfl : k = s.size := by omega
      go_wp2_with fail
      have HI' := HI.out
      rw [List.take_of_length_le (by simp)] at HI'
      refine (Tryz.Builder_String_any _ _ _ _ HI' HB.out.size).mono ?_
      rintro e w1 ⟨rfl, hb1⟩
      have hb := Hid.in_ (HB.out.trans hb1)
      go_wp2
      go_ret
      exact ⟨rfl, hb.out⟩

def encB (s : ByteArray) : Bool := decide (10 * (s.size : Int) > 8000)
def encV (s : ByteArray) : ByteArray := if encB s = true then ⟨#[]⟩ else encode s
theorem ret2_sb {a b : ByteArray} {x y : Bool} (h : a = b) (k : x = y) : Ending.returned (.tuple #[.string a, .bool x]) = .returned (.tuple #[.string b, .bool y]) := by rw [h, k]
theorem Tryz.encInfoByte : (Tryz.prog.info? 5).map (fun i => (i.zero, i.size, i.bytes)) = some (some (.int .u8 0), 1, 1) := by kernel_rfl
theorem rem16 (c : UInt8) : (c.toNat : Int).tmod 16 = ((c.toNat % 16 : Nat) : Int) := rfl
theorem gcr_step2 {s : ByteArray} {k : Nat} (h : k < s.size) {c : UInt8} (hc : s[k] = c) :
    Lib.byteCells (gcrB (s.data.toList.take k)) ++ (Lib.strCells (gcrS (c.toNat / 16)) ++ Lib.strCells (gcrS (c.toNat % 16))) = Lib.byteCells (gcrB (s.data.toList.take (k + 1))) := by
  rw [← gcr_step h hc]
  congr 1
  unfold Lib.strCells
  rw [← List.map_append]
  congr 1
theorem gcrCode_nat {k : Nat} (h : k < 16) : gcrCode k = gcrS k := by
  have : inB (k : Int) 0 15 = true := by unfold inB; simp; omega
  exact gcrCode_yes this
set_option maxHeartbeats 1000000 in
theorem spec_EncodeGcr (s : ByteArray) (w : World) (hs : s.size ≤ 1048576) :
    Calls Tryz.prog 99 #[.string s] w fun e w' => e = .returned (.tuple #[.string (encV s), .bool (!encB s)]) ∧ Below w.heap.size w w' := by
  obtain ⟨i0, hti, hz0, hz1, hz2⟩ := info_parts Tryz.encInfoByte
  by_cases h : 8000 < 10 * (s.size : Int)
  · have hb : encB s = true := decide_eq_true h
    have HV := Hid.in_ (show encV s = ⟨#[]⟩ from if_pos hb)
    have hb := Hid.in_ hb
    go_enter Tryz.func99, Tryz.ntmps99
    go_wp2_with fail
    go_ret2
    exact ⟨ret2_sb HV.out.symm (by rw [hb.out]; rfl), Below.refl _ _⟩
  · have hb : encB s = false := decide_eq_false h
    have HV := Hid.in_ (show encV s = encode s from if_neg (by rw [hb]; decide))
    have hb := Hid.in_ hb
    go_enter Tryz.func99, Tryz.ntmps99
    go_wp2_with fail
    go_loopg [4, 5] s.size (fun m v i wr => ∃ k : Nat, k + m = s.size ∧ i = .int .i64 k ∧ Hid (∃ n, n ≤ 10 * k ∧ wr.ownsRow w.heap.size 5 1 v n (Lib.byteCells (gcrB (s.data.toList.take k)))) ∧ Hid (Below w.heap.size w wr))
    case atStart => exact ⟨0, by omega, rfl, ⟨0, by omega, World.ownsRow_lit w #[] 0 (Nat.le_refl _) (by decide) (by decide)⟩, balloc (Below.refl _ _) _⟩
    case round =>
      obtain ⟨k, hkm, rfl, HI, HB⟩ := hrel
      by_cases hlt : k < s.size
      · obtain ⟨c, hc⟩ : ∃ c : UInt8, s[k] = c := ⟨_, rfl⟩
        have HS0 := gcr_step2 hlt hc
        obtain ⟨hi, hhi⟩ : ∃ hi : Nat, hi = c.toNat / 16 := ⟨_, rfl⟩
        obtain ⟨lo, hlo⟩ : ∃ lo : Nat, lo = c.toNat % 16 := ⟨_, rfl⟩
        have hc1 : ((c.toNat : Int) / 16) = (hi : Int) := by omega
        have hc2 : ((c.toNat : Int) % 16) = (lo : Int) := by omega
        have hhi2 : hi < 16 := by have := c.toNat_lt; omega
        have hlo2 : lo < 16 := by omega
        rw [← hhi, ← hlo] at HS0
        have HS := Hid.in_ HS0
        clear hhi hlo HS0
        have g1 := Hid.in_ (gcrCode_nat hhi2)
        have g2 := Hid.in_ (gcrCode_nat hlo2)
        have s1 := Hid.in_ (gcrS_sizeE hhi2)
        have s2 := Hid.in_ (gcrS_sizeE hlo2)
        have HQ := Hid.in_ hkm
        have HS2 := Hid.in_ hs
        clear hkm
        go_wp2_with fail
        refine (spec_GcrCode _ _).mono ?_
        rintro e w1 ⟨rfl, hb1⟩
        rw [g1.out]
        have HB1 := HB.out.trans (hb1.mono HB.out.size)
        obtain ⟨n, hn, ho⟩ := HI.out
        have ho1 := own_below ho hb1 (Nat.le_refl _)
        go_wp2_with (at_builtin; refine Lib.wpList_append_own_string _ rfl _ _ 43 9 rfl w.heap.size 5 i0 Tryz.underlying43 Tryz.underlying9 hti hz0 hz1 hz2 _ _ _ rfl ho1 (gcrS hi) rfl ?c3 ?c4 ?c5 ?_)
        case c3 => have := s1.out; have := HQ.out; have := HS2.out; unfold maxLen; omega
        case c4 => have := s1.out; have := HQ.out; have := HS2.out; omega
        case c5 => exact HB1.size
        intro v2 w2 ho2 hgr2 _
        have HB2 := HB1.grown hgr2 HB1.size (fun k hk => (ho1.lt k hk).1)
        go_wp2_with fail
        refine (spec_GcrCode _ _).mono ?_
        rintro e w3 ⟨rfl, hb3⟩
        rw [g2.out]
        have HB3 := HB2.trans (hb3.mono HB2.size)
        have ho3 := own_below ho2 hb3 (Nat.le_refl _)
        go_wp2_with (at_builtin; refine Lib.wpList_append_own_string _ rfl _ _ 43 9 rfl w.heap.size 5 i0 Tryz.underlying43 Tryz.underlying9 hti hz0 hz1 hz2 _ _ _ rfl ho3 (gcrS lo) rfl ?d3 ?d4 ?d5 ?_)
        case d3 => have := s1.out; have := s2.out; have := HQ.out; have := HS2.out; unfold maxLen; omega
        case d4 => have := s1.out; have := s2.out; have := HQ.out; have := HS2.out; omega
        case d5 => exact HB3.size
        intro v4 w4 ho4 hgr4 _
        have HB4 := Hid.in_ (HB3.grown hgr4 HB3.size (fun k hk => (ho3.lt k hk).1))
        rw [HS.out] at ho4
        have HO4 := Hid.in_ (show ∃ n, n ≤ 10 * (k + 1) ∧ w4.ownsRow w.heap.size 5 1 v4 n (Lib.byteCells (gcrB (s.data.toList.take (k + 1)))) from ⟨_, by have := s1.out; have := s2.out; omega, ho4⟩)
        clear ho ho1 ho2 ho3 ho4 hgr2 hgr4 hb1 hb3 HB1 HB2 HB3
        go_wp2
        have hkm := HQ.out
        go_roundg (gk - 1)
        case measure => omega
        case rel => exact ⟨k + 1, by omega, by go_num, HO4, HB4⟩
      · obtain rfl : k = s.size := by omega
        obtain ⟨n, hn, ho⟩ := HI.out
        rw [List.take_of_length_le (by simp)] at ho
        have hc := conv_own Tryz.underlying43 Tryz.underlying5 Tryz.underlying9 ho
        clear ho
        go_wp2
        go_ret2
        exact ⟨ret2_sb HV.out.symm (by rw [hb.out]; rfl), HB.out⟩
end Go.Proofs.YtlelgpknkgjaeaaGreatDoor
