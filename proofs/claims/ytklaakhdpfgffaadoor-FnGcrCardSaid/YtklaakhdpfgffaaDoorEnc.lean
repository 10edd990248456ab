/- The group code of bytes: 'gcrCells', 'EncodeGcr' of the program and of the reference. -/
import Derived.Test.YtklaakhdpfgffaaDoorBuilder
import Derived.Test.YtklaakhdpfgffaaDoorGcr
import Derived.Test.YtklaakhdpfgffaaDoorStr
import Derived.Test.YtklaakhdpfgffaaDoorShelfC
import Derived.StillTailTactics
import Derived.Laws.Concat
namespace Go.Proofs.YtklaakhdpfgffaaDoor
open Go.ChangeShapes Go.WideShapes Go.ChangeAt Go.RowKit
set_option maxRecDepth 20000
set_option linter.unusedSimpArgs false
set_option linter.unusedVariables false

def gcrL (k : Nat) : List UInt8 := gcrTab.getD k []
def gcrB (l : List UInt8) : List UInt8 := l.flatMap fun c => gcrL (c.toNat / 16) ++ gcrL (c.toNat % 16)
theorem gcrL_len {k : Nat} (h : k < 16) : (gcrL k).length = 5 := by
  obtain rfl | rfl | rfl | rfl | rfl | rfl | rfl | rfl | rfl | rfl | rfl | rfl | rfl | rfl | rfl | rfl : k = 0 ∨ k = 1 ∨ k = 2 ∨ k = 3 ∨ k = 4 ∨ k = 5 ∨ k = 6 ∨ k = 7 ∨ k = 8 ∨ k = 9 ∨ k = 10 ∨ k = 11 ∨ k = 12 ∨ k = 13 ∨ k = 14 ∨ k = 15 := by omega
  all_goals rfl
theorem gcrS_sizeE {k : Nat} (h : k < 16) : (gcrS k).size = 5 := gcrL_len h
theorem gcrB_len (l : List UInt8) : (gcrB l).length = 10 * l.length := by
  induction l with
  | nil => rfl
  | cons c l ih =>
    have h1 := gcrL_len (k := c.toNat / 16) (by have := c.toNat_lt; omega)
    have h2 := gcrL_len (k := c.toNat % 16) (by omega)
    have : gcrB (c :: l) = (gcrL (c.toNat / 16) ++ gcrL (c.toNat % 16)) ++ gcrB l := rfl
    rw [this]
    simp only [List.length_append, List.length_cons, ih, h1, h2]
    omega
def encode (s : ByteArray) : ByteArray := ⟨(gcrB s.data.toList).toArray⟩
theorem and15 (c : UInt8) : bits BinOp.and .u8 (c.toNat : Int) 15 = ((c.toNat % 16 : Nat) : Int) := by
  have h : ∀ n : Fin 256, bits BinOp.and .u8 ((n.val : Nat) : Int) 15 = ((n.val % 16 : Nat) : Int) := by decide +kernel
  exact h ⟨c.toNat, c.toNat_lt⟩
theorem gcr_step {s : ByteArray} {k : Nat} (h : k < s.size) {c : UInt8} (hc : s[k] = c) :
    Lib.byteCells (gcrB (s.data.toList.take k)) ++ Lib.strCells (gcrS (c.toNat / 16) ++ gcrS (c.toNat % 16)) = Lib.byteCells (gcrB (s.data.toList.take (k + 1))) := by
  subst hc
  have hk : k < s.data.toList.length := by simpa using h
  rw [List.take_succ_eq_append_getElem hk]
  unfold gcrB Lib.byteCells Lib.strCells
  rw [List.flatMap_append, List.map_append]
  congr 1
  simp [gcrS, gcrL]
  rfl
theorem encode_size (s : ByteArray) : (encode s).size = 10 * s.size := by
  show ((gcrB s.data.toList).toArray).size = _
  rw [List.size_toArray, gcrB_len]
  simp
theorem take_len (s : ByteArray) (k : Nat) : (Lib.byteCells (gcrB (s.data.toList.take k))).length ≤ 10 * s.size := by
  rw [Lib.byteCells_length, gcrB_len, List.length_take]
  simp
  omega

theorem impl_gcrCells (s : ByteArray) (w : World) (hs : s.size ≤ 1048576) (hT : Tab w) :
    Calls Tryd.prog 52 #[.string s] w fun e w' => e = .returned (.string (encode s)) ∧ Below w.heap.size w w' := by
  have HT := Hid.in_ hT
  clear hT
  go_enter Tryd.func52, Tryd.ntmps52
  go_wp2_with fail
  go_loopg [7] s.size (fun m i wr => ∃ k : Nat, k + m = s.size ∧ i = .int .i64 k ∧ Hid (Lib.IsBuilder 92 5 w.heap.size w.heap.size (Lib.byteCells (gcrB (s.data.toList.take k))) wr) ∧ Hid (Below w.heap.size w wr))
  case atStart => exact ⟨0, by omega, rfl, Lib.fresh_isBuilder 92 5 w, balloc (Below.refl _ _) _⟩
  case round =>
    obtain ⟨k, hkm, rfl, HI, HB⟩ := hrel
    by_cases hlt : k < s.size
    · obtain ⟨c, hc⟩ : ∃ c : UInt8, s[k] = c := ⟨_, rfl⟩
      have HS0 := gcr_step hlt hc
      obtain ⟨hi, hhi⟩ : ∃ hi : Nat, hi = c.toNat / 16 := ⟨_, rfl⟩
      obtain ⟨lo, hlo⟩ : ∃ lo : Nat, lo = c.toNat % 16 := ⟨_, rfl⟩
      have hc1 : ((c.toNat : Int) / 16) = (hi : Int) := by omega
      have hc2 : bits BinOp.and .u8 (c.toNat : Int) 15 = (lo : Int) := by rw [and15, hlo]
      have hhi2 : hi < 16 := by have := c.toNat_lt; omega
      have hlo2 : lo < 16 := by omega
      have hhi3 : ((hi : Nat) : Int) < 16 := by omega
      have hlo3 : ((lo : Nat) : Int) < 16 := by omega
      rw [← hhi, ← hlo] at HS0
      have s1 := gcrS_sizeE hhi2
      have s2 := gcrS_sizeE hlo2
      have hadd := run_string_add_sum (P := Tryd.prog) wr.drew (gcrS hi) (gcrS lo) (by omega)
      have hno : ¬ ((gcrS hi).size + (gcrS lo).size > 9223372036854775807) := by omega
      have HZ0 := show (gcrS hi ++ gcrS lo).size = 10 by rw [ByteArray.size_append, s1, s2]
      obtain ⟨y, hy⟩ : ∃ y, gcrS hi ++ gcrS lo = y := ⟨_, rfl⟩
      rw [hy] at HS0 HZ0 hadd
      have HS := Hid.in_ HS0
      have HZ := Hid.in_ HZ0
      clear hhi hlo HS0 HZ0
      have cc := ((HT.out.step HB.out)).cell hhi2
      have cd := ((HT.out.step HB.out)).cell hlo2
      go_wp2_with fail
      go_still_tail 13, (by kernel_rfl)
      go_wp2_with fail
      have hq := HZ.out
      have HI' : Lib.IsBuilder 92 5 w.heap.size w.heap.size (Lib.byteCells (gcrB (s.data.toList.take k))) wr.drew := HI.out
      have HB' : Below w.heap.size w wr.drew := HB.out.drew
      refine (writeString _ _ _ y _ HI' (by have := take_len s k; omega) HB'.size).mono ?_
      rintro e w1 ⟨rfl, h1, hb1⟩
      rw [HS.out] at h1
      go_wp2
      go_roundg (gk - 1)
      case measure => omega
      case rel => exact ⟨k + 1, by omega, by go_num, .inr h1, HB'.trans hb1⟩
    · obtain rfl : k = s.size := by omega
      go_wp2_with fail
      have HI' := HI.out
      rw [List.take_of_length_le (by simp)] at HI'
      refine (Tryd.Builder_String_any _ _ _ _ HI' HB.out.size).mono ?_
      rintro e w1 ⟨rfl, hb1⟩
      have hb := Hid.in_ (HB.out.trans hb1)
      go_wp2
      go_ret
      exact ⟨rfl, hb.out⟩

def encB (s : ByteArray) : Bool := decide (10 * (s.size : Int) > 8000)
def encV (s : ByteArray) : ByteArray := if encB s = true then ⟨#[]⟩ else encode s
theorem ret2_sb {a b : ByteArray} {x y : Bool} (h : a = b) (k : x = y) : Ending.returned (.tuple #[.string a, .bool x]) = .returned (.tuple #[.string b, .bool y]) := by rw [h, k]
theorem impl_EncodeGcr (s : ByteArray) (w : World) (hs : s.size ≤ 1048576) (hT : Tab w) :
    Calls Tryd.prog 28 #[.string s] w fun e w' => e = .returned (.tuple #[.string (encV s), .bool (!encB s)]) ∧ Below w.heap.size w w' := by
  by_cases h : 8000 < 10 * (s.size : Int)
  · have hb : encB s = true := decide_eq_true h
    have HV := Hid.in_ (show encV s = ⟨#[]⟩ from if_pos hb)
    have hb := Hid.in_ hb
    go_enter Tryd.func28, Tryd.ntmps28
    go_wp2_with fail
    go_ret2
    exact ⟨ret2_sb HV.out.symm (by rw [hb.out]; rfl), Below.refl _ _⟩
  · have hb : encB s = false := decide_eq_false h
    have HV := Hid.in_ (show encV s = encode s from if_neg (by rw [hb]; decide))
    have hb := Hid.in_ hb
    go_enter Tryd.func28, Tryd.ntmps28
    go_wp2_with fail
    refine (impl_gcrCells _ _ hs hT).mono ?_
    rintro e w1 ⟨rfl, hb1⟩
    go_wp2
    go_ret2
    exact ⟨ret2_sb HV.out.symm (by rw [hb.out]; rfl), hb1⟩
end Go.Proofs.YtklaakhdpfgffaaDoor
