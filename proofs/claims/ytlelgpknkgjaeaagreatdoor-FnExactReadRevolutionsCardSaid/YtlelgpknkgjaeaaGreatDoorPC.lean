/- Several texts in one: FmM, MarkO, Enc, MarkC, MarkD, Sync, Find, FdP, SortM, FdV, PutM, MksS, MksI, MksG, FmS, FmI, RdS, Revs, RrP. -/
import Derived.Test.YtlelgpknkgjaeaaGreatDoorMfm
import Derived.Test.YtlelgpknkgjaeaaGreatDoorDist
import Derived.BigRegion
import Derived.Deep.RegionLaw
import Derived.Test.YtlelgpknkgjaeaaGreatDoorMark
import Derived.Lib.ConvBytes
import Derived.Test.YtlelgpknkgjaeaaGreatDoorBuilder
import Derived.Test.YtlelgpknkgjaeaaGreatDoorGcr
import Derived.Test.YtlelgpknkgjaeaaGreatDoorStr
import Derived.Test.YtlelgpknkgjaeaaGreatDoorShelfC
import Derived.StillTailTactics
import Derived.Laws.Concat
import Derived.Test.YtlelgpknkgjaeaaGreatDoorL05
import Derived.Test.YtlelgpknkgjaeaaGreatDoorShelfR
import Derived.Test.YtlelgpknkgjaeaaGreatDoorSlice
import Derived.Test.YtlelgpknkgjaeaaGreatDoorRecF
import Derived.Shelf.Strings.Prefix
import Derived.Test.YtlelgpknkgjaeaaGreatDoorPA
import Derived.Test.YtlelgpknkgjaeaaGreatDoorMarks
import Derived.Test.YtlelgpknkgjaeaaGreatDoorRsS
import Derived.Test.YtlelgpknkgjaeaaGreatDoorValid
/- 'fmCells' of the program at whatever eight clocks. -/
namespace Go.Proofs.YtlelgpknkgjaeaaGreatDoor
open Go.ChangeShapes Go.WideShapes Go.ChangeAt Go.RowKit
set_option linter.unusedSimpArgs false
set_option linter.unusedVariables false
set_option maxRecDepth 4000

/-- The cells of the first 'k' bits of 'L', each behind its clock. -/
def fmTo (C : ByteArray) (L : List Bool) : Nat → List UInt8
  | 0 => []
  | k + 1 => fmTo C L k ++ [byteAt C (k % 8), chr (L.getD k false)]
theorem fmTo_len (C : ByteArray) (L : List Bool) : ∀ k, (fmTo C L k).length = 2 * k
  | 0 => rfl
  | k + 1 => by
    show (fmTo C L k ++ [byteAt C (k % 8), chr (L.getD k false)]).length = _
    rw [List.length_append, fmTo_len C L k]
    rfl
theorem fm_cell {C : ByteArray} {L : List Bool} {k : Nat} {c d : UInt8} (hc : byteAt C (k % 8) = c) (hd : chr (L.getD k false) = d) :
    Lib.byteCells (fmTo C L (k + 1)) = Lib.byteCells (fmTo C L k) ++ [.int .u8 (c.toNat : Int), .int .u8 (d.toNat : Int)] := by
  show Lib.byteCells (fmTo C L k ++ [byteAt C (k % 8), chr (L.getD k false)]) = _
  rw [hc, hd]
  unfold Lib.byteCells
  rw [List.map_append]
  rfl
def fmS (C s : ByteArray) : ByteArray := ⟨(fmTo C (bitsN s s.size) (bitsS s).size).toArray⟩
set_option maxHeartbeats 8000000 in
theorem impl_fmCells_at (C s : ByteArray) (w : World) (h8 : C.size = 8) (hs : s.size ≤ 1048576) :
    Calls Tryz.prog 90 #[.string s, .string C] w fun e w' => e = .returned (.string (fmS C s)) ∧ Below w.heap.size w w' := by
  obtain ⟨i0, hti, hz0, hz1, hz2⟩ := info_parts Tryz.infoByte8
  have HBI := Hid.in_ (impl_bitsOf s w hs)
  have hbs : (bitsS s).size ≤ 8388608 := by rw [bitsS_size]; omega
  have HGET := Hid.in_ (show ∀ k (h : k < (bitsS s).size), ∃ b, (bitsN s s.size)[k]? = some b ∧ (bitsS s)[k] = chr b from fun k h => bitsS_get h)
  have HR : Hid (fmS C s = ⟨(fmTo C (bitsN s s.size) (bitsS s).size).toArray⟩) := rfl
  generalize bitsS s = B at *
  generalize bitsN s s.size = L at *
  go_enter Tryz.func90, Tryz.ntmps90
  go_wp2_with fail
  refine HBI.out.mono ?_
  rintro e w0 ⟨rfl, hb0⟩
  have HB0 := Hid.in_ hb0
  clear hb0
  go_wp2_with (at_make; refine wpList_make_own _ rfl _ _ 43 rfl w.heap.size 5 i0 (.int .u8 0) 1 Tryz.underlying43 hti hz0 hz1 .i64 .i64 _ (2 * B.size) rfl rfl (by push_cast; rfl) (by rw [hz2]; omega) (by unfold maxLen; omega) HB0.out.size ?_; intro w1 hown hgrow)
  have HO1 := Hid.in_ hown
  have HB1 := Hid.in_ (show Below w.heap.size w w1 from HB0.out.grown hgrow HB0.out.size (fun k hk => by cases hk))
  clear hown hgrow
  go_loopg [6, 16] B.size (fun m v i wr => ∃ k : Nat, k + m = B.size ∧ i = .int .i64 k ∧ Hid (wr.ownsRow w.heap.size 5 1 v (2 * k) (Lib.byteCells (fmTo C L k))) ∧ Hid (Below w.heap.size w wr))
  case atStart => exact ⟨0, by omega, rfl, HO1.out, HB1.out⟩
  case round =>
    obtain ⟨k, hkm, rfl, HI, HB⟩ := hrel
    have HK := Hid.in_ hkm
    clear hkm
    by_cases hlt : k < B.size
    · obtain ⟨b, hb, hc⟩ := HGET.out k hlt
      obtain ⟨r, hr⟩ : ∃ r, r = k % 8 := ⟨_, rfl⟩
      have hr8 : r < C.size := by omega
      have hm : ((k : Int).tmod 8) = (r : Int) := by rw [hr]; rfl
      have hm3 : ((r : Nat) : Int) < 8 := by omega
      obtain ⟨c, hcr⟩ : ∃ c : UInt8, C[r] = c := ⟨_, rfl⟩
      obtain ⟨d, hcd⟩ : ∃ d : UInt8, chr b = d := ⟨_, rfl⟩
      rw [hcd] at hc
      have HW := Hid.in_ (fm_cell (C := C) (L := L) (k := k) (c := c) (d := d) (by rw [← hr, byteAt_eq hr8, hcr]) (by rw [List.getD_eq_getElem?_getD, hb]; exact hcd))
      clear hb hr hcd
      go_wp2_with fail
      go_region_law (refine step_append_lies _ rfl (.tmp 19) (.tmp 27) 43 rfl w.heap.size 5 i0 (.int .u8 0) 1 1 Tryz.underlying43 hti hz0 hz1 hz2 rfl (by decide) _ _ _ (by simp [Act.eval, Act.put]) (own_drewN (HI.out.alloc _) 1) ⟨wr.heap.size, 0, none⟩ 2 2 [.int .u8 (c.toNat : Int), .int .u8 (d.toNat : Int)] (by simp [Act.eval, Act.put]) rfl (cell_two wr _ _ _) (fun x hx => by simp at hx; rcases hx with rfl | rfl <;> rfl) (by omega) (by unfold maxLen; omega) (by omega) (balloc HB.out _).size _ rfl ?_; intro gg cp4 w4 ho4 hg4 hat4 hlt4)
      all_goals
        have HB4 := Hid.in_ (bgrown (balloc HB.out _).drew (own_drewN (HI.out.alloc _) 1) (Nat.le_refl _) hg4)
        rw [← HW.out] at ho4
        have HO4 := Hid.in_ ho4
        clear ho4 hg4 hat4 hlt4
        go_wp2
        have hk := HK.out
        go_roundg (gk - 1)
        case measure => omega
        case rel => exact ⟨k + 1, by omega, by go_num, HO4.out, HB4.out⟩
    · have hk := HK.out
      obtain rfl : k = B.size := by omega
      have hcv := conv_own Tryz.underlying43 Tryz.underlying5 Tryz.underlying9 HI.out
      go_wp2
      go_ret
      exact ⟨ret_strX HR.out.symm, HB.out⟩
end Go.Proofs.YtlelgpknkgjaeaaGreatDoor

/- 'FmMark' of the program: the cells of a mark in FM (cut out of XMarkC). -/
namespace Go.Proofs.YtlelgpknkgjaeaaGreatDoor
open Go.ChangeShapes Go.WideShapes Go.ChangeAt Go.RowKit
set_option linter.unusedSimpArgs false
set_option linter.unusedVariables false
set_option maxRecDepth 20000

def oneB (b : Nat) : ByteArray := ⟨[UInt8.ofNat b].toArray⟩
theorem oneB_size (b : Nat) : (oneB b).size = 1 := rfl
theorem one_cell {b : Nat} (h : b ≤ 255) : (#[Value.int .u8 (b : Int)] : Array Value).toList = Lib.byteCells [UInt8.ofNat b] := by
  show [Value.int .u8 (b : Int)] = [Value.int .u8 ((UInt8.ofNat b).toNat : Int)]
  rw [UInt8.toNat_ofNat']
  congr 2
  omega
theorem conv_byte {b : Nat} (w : World) (h : b ≤ 255) :
    (convert 43 9 (.slice (some ⟨w.heap.size, 0, none⟩) 1 1)).run Tryz.prog (w.alloc (.cells #[.int .u8 (b : Int)] 5)) = .ok (.string (oneB b)) (w.alloc (.cells #[.int .u8 (b : Int)] 5)) := by
  have := World.ownsRow_lit (base := w.heap.size) (size := 1) (e := 5) w #[.int .u8 (b : Int)] 1 (Nat.le_refl _) (by decide) rfl
  rw [one_cell h] at this
  exact conv_own Tryz.underlying43 Tryz.underlying5 Tryz.underlying9 this
def markClk : ByteArray := ⟨#[49, 49, 48, 48, 48, 49, 49, 49]⟩
def fmMarkS (b : Nat) : ByteArray := fmS markClk (oneB b)
end Go.Proofs.YtlelgpknkgjaeaaGreatDoor

/- The group code of bytes: 'gcrCells', 'EncodeGcr' of the program and of the reference. -/
namespace Go.Proofs.YtlelgpknkgjaeaaGreatDoor
open Go.ChangeShapes Go.WideShapes Go.ChangeAt Go.RowKit
set_option maxRecDepth 20000
set_option linter.unusedSimpArgs false
set_option linter.unusedVariables false

def gcrL (k : Nat) : List UInt8 := gcrTab.getD k []
def gcrB (l : List UInt8) : List UInt8 := l.flatMap fun c => gcrL (c.toNat / 16) ++ gcrL (c.toNat % 16)
theorem gcrL_len {k : Nat} (h : k < 16) : (gcrL k).length = 5 := by
  obtain rfl | rfl | rfl | rfl | rfl | rfl | rfl | rfl | rfl | rfl | rfl | rfl | rfl | rfl | rfl | rfl : k = 0 ∨ k = 1 ∨ k = 2 ∨ k = 3 ∨ k = 4 ∨ k = 5 ∨ k = 6 ∨ k = 7 ∨ k = 8 ∨ k = 9 ∨ k = 10 ∨ k = 11 ∨ k = 12 ∨ k = 13 ∨ k = 14 ∨ k = 15 := by omega
  all_goals rfl
theorem gcrS_sizeE {k : Nat} (h : k < 16) : (gcrS k).size = 5 := gcrL_len h
theorem gcrB_len (l : List UInt8) : (gcrB l).length = 10 * l.length := by
  induction l with
  | nil => rfl
  | cons c l ih =>
    have h1 := gcrL_len (k := c.toNat / 16) (by have := c.toNat_lt; omega)
    have h2 := gcrL_len (k := c.toNat % 16) (by omega)
    have : gcrB (c :: l) = (gcrL (c.toNat / 16) ++ gcrL (c.toNat % 16)) ++ gcrB l := rfl
    rw [this]
    simp only [List.length_append, List.length_cons, ih, h1, h2]
    omega
def encode (s : ByteArray) : ByteArray := ⟨(gcrB s.data.toList).toArray⟩
theorem and15 (c : UInt8) : bits BinOp.and .u8 (c.toNat : Int) 15 = ((c.toNat % 16 : Nat) : Int) := by
  have h : ∀ n : Fin 256, bits BinOp.and .u8 ((n.val : Nat) : Int) 15 = ((n.val % 16 : Nat) : Int) := by decide +kernel
  exact h ⟨c.toNat, c.toNat_lt⟩
theorem gcr_step {s : ByteArray} {k : Nat} (h : k < s.size) {c : UInt8} (hc : s[k] = c) :
    Lib.byteCells (gcrB (s.data.toList.take k)) ++ Lib.strCells (gcrS (c.toNat / 16) ++ gcrS (c.toNat % 16)) = Lib.byteCells (gcrB (s.data.toList.take (k + 1))) := by
  subst hc
  have hk : k < s.data.toList.length := by simpa using h
  rw [List.take_succ_eq_append_getElem hk]
  unfold gcrB Lib.byteCells Lib.strCells
  rw [List.flatMap_append, List.map_append]
  congr 1
  simp [gcrS, gcrL]
  rfl
theorem encode_size (s : ByteArray) : (encode s).size = 10 * s.size := by
  show ((gcrB s.data.toList).toArray).size = _
  rw [List.size_toArray, gcrB_len]
  simp
theorem take_len (s : ByteArray) (k : Nat) : (Lib.byteCells (gcrB (s.data.toList.take k))).length ≤ 10 * s.size := by
  rw [Lib.byteCells_length, gcrB_len, List.length_take]
  simp
  omega

theorem impl_gcrCells (s : ByteArray) (w : World) (hs : s.size ≤ 1048576) (hT : Tab w) :
    Calls Tryz.prog 93 #[.string s] w fun e w' => e = .returned (.string (encode s)) ∧ Below w.heap.size w w' := by
  have HT := Hid.in_ hT
  clear hT
  go_enter Tryz.func93, Tryz.ntmps93
  go_wp2_with fail
  go_loopg [7] s.size (fun m i wr => ∃ k : Nat, k + m = s.size ∧ i = .int .i64 k ∧ Hid (Lib.IsBuilder 147 5 w.heap.size w.heap.size (Lib.byteCells (gcrB (s.data.toList.take k))) wr) ∧ Hid (Below w.heap.size w wr))
  case atStart => exact ⟨0, by omega, rfl, Lib.fresh_isBuilder 147 5 w, balloc (Below.refl _ _) _⟩
  case round =>
    obtain ⟨k, hkm, rfl, HI, HB⟩ := hrel
    by_cases hlt : k < s.size
    · obtain ⟨c, hc⟩ : ∃ c : UInt8, s[k] = c := ⟨_, rfl⟩
      have HS0 := gcr_step hlt hc
      obtain ⟨hi, hhi⟩ : ∃ hi : Nat, hi = c.toNat / 16 := ⟨_, rfl⟩
      obtain ⟨lo, hlo⟩ : ∃ lo : Nat, lo = c.toNat % 16 := ⟨_, rfl⟩
      have hc1 : ((c.toNat : Int) / 16) = (hi : Int) := by omega
      have hc2 : bits BinOp.and .u8 (c.toNat : Int) 15 = (lo : Int) := by rw [and15, hlo]
      have hhi2 : hi < 16 := by have := c.toNat_lt; omega
      have hlo2 : lo < 16 := by omega
      have hhi3 : ((hi : Nat) : Int) < 16 := by omega
      have hlo3 : ((lo : Nat) : Int) < 16 := by omega
      rw [← hhi, ← hlo] at HS0
      have s1 := gcrS_sizeE hhi2
      have s2 := gcrS_sizeE hlo2
      have hadd := run_string_add_sum (P := Tryz.prog) wr.drew (gcrS hi) (gcrS lo) (by omega)
      have hno : ¬ ((gcrS hi).size + (gcrS lo).size > 9223372036854775807) := by omega
      have HZ0 := show (gcrS hi ++ gcrS lo).size = 10 by rw [ByteArray.size_append, s1, s2]
      obtain ⟨y, hy⟩ : ∃ y, gcrS hi ++ gcrS lo = y := ⟨_, rfl⟩
      rw [hy] at HS0 HZ0 hadd
      have HS := Hid.in_ HS0
      have HZ := Hid.in_ HZ0
      clear hhi hlo HS0 HZ0
      have cc := ((HT.out.step HB.out)).cell hhi2
      have cd := ((HT.out.step HB.out)).cell hlo2
      go_wp2_with fail
      go_still_tail 13, (by kernel_rfl)
      go_wp2_with fail
      have hq := HZ.out
      have HI' : Lib.IsBuilder 147 5 w.heap.size w.heap.size (Lib.byteCells (gcrB (s.data.toList.take k))) wr.drew := HI.out
      have HB' : Below w.heap.size w wr.drew := HB.out.drew
      refine (writeString _ _ _ y _ HI' (by have := take_len s k; omega) HB'.size).mono ?_
      rintro e w1 ⟨rfl, h1, hb1⟩
      rw [HS.out] at h1
      go_wp2
      go_roundg (gk - 1)
      case measure => omega
      case rel => exact ⟨k + 1, by omega, by go_num, .inr h1, HB'.trans hb1⟩
    · obtain rfl : k = s.size := by omega
      go_wp2_with fail
      have HI' := HI.out
      rw [List.take_of_length_le (by simp)] at HI'
      refine (Tryz.Builder_String_any _ _ _ _ HI' HB.out.size).mono ?_
      rintro e w1 ⟨rfl, hb1⟩
      have hb := Hid.in_ (HB.out.trans hb1)
      go_wp2
      go_ret
      exact ⟨rfl, hb.out⟩

def encB (s : ByteArray) : Bool := decide (10 * (s.size : Int) > 8000)
def encV (s : ByteArray) : ByteArray := if encB s = true then ⟨#[]⟩ else encode s
theorem ret2_sb {a b : ByteArray} {x y : Bool} (h : a = b) (k : x = y) : Ending.returned (.tuple #[.string a, .bool x]) = .returned (.tuple #[.string b, .bool y]) := by rw [h, k]
theorem Tryz.encInfoByte : (Tryz.prog.info? 5).map (fun i => (i.zero, i.size, i.bytes)) = some (some (.int .u8 0), 1, 1) := by kernel_rfl
theorem rem16 (c : UInt8) : (c.toNat : Int).tmod 16 = ((c.toNat % 16 : Nat) : Int) := rfl
theorem gcr_step2 {s : ByteArray} {k : Nat} (h : k < s.size) {c : UInt8} (hc : s[k] = c) :
    Lib.byteCells (gcrB (s.data.toList.take k)) ++ (Lib.strCells (gcrS (c.toNat / 16)) ++ Lib.strCells (gcrS (c.toNat % 16))) = Lib.byteCells (gcrB (s.data.toList.take (k + 1))) := by
  rw [← gcr_step h hc]
  congr 1
  unfold Lib.strCells
  rw [← List.map_append]
  congr 1
theorem gcrCode_nat {k : Nat} (h : k < 16) : gcrCode k = gcrS k := by
  have : inB (k : Int) 0 15 = true := by unfold inB; simp; omega
  exact gcrCode_yes this
set_option maxHeartbeats 1000000 in
theorem spec_EncodeGcr (s : ByteArray) (w : World) (hs : s.size ≤ 1048576) :
    Calls Tryz.prog 99 #[.string s] w fun e w' => e = .returned (.tuple #[.string (encV s), .bool (!encB s)]) ∧ Below w.heap.size w w' := by
  obtain ⟨i0, hti, hz0, hz1, hz2⟩ := info_parts Tryz.encInfoByte
  by_cases h : 8000 < 10 * (s.size : Int)
  · have hb : encB s = true := decide_eq_true h
    have HV := Hid.in_ (show encV s = ⟨#[]⟩ from if_pos hb)
    have hb := Hid.in_ hb
    go_enter Tryz.func99, Tryz.ntmps99
    go_wp2_with fail
    go_ret2
    exact ⟨ret2_sb HV.out.symm (by rw [hb.out]; rfl), Below.refl _ _⟩
  · have hb : encB s = false := decide_eq_false h
    have HV := Hid.in_ (show encV s = encode s from if_neg (by rw [hb]; decide))
    have hb := Hid.in_ hb
    go_enter Tryz.func99, Tryz.ntmps99
    go_wp2_with fail
    go_loopg [4, 5] s.size (fun m v i wr => ∃ k : Nat, k + m = s.size ∧ i = .int .i64 k ∧ Hid (∃ n, n ≤ 10 * k ∧ wr.ownsRow w.heap.size 5 1 v n (Lib.byteCells (gcrB (s.data.toList.take k)))) ∧ Hid (Below w.heap.size w wr))
    case atStart => exact ⟨0, by omega, rfl, ⟨0, by omega, World.ownsRow_lit w #[] 0 (Nat.le_refl _) (by decide) (by decide)⟩, balloc (Below.refl _ _) _⟩
    case round =>
      obtain ⟨k, hkm, rfl, HI, HB⟩ := hrel
      by_cases hlt : k < s.size
      · obtain ⟨c, hc⟩ : ∃ c : UInt8, s[k] = c := ⟨_, rfl⟩
        have HS0 := gcr_step2 hlt hc
        obtain ⟨hi, hhi⟩ : ∃ hi : Nat, hi = c.toNat / 16 := ⟨_, rfl⟩
        obtain ⟨lo, hlo⟩ : ∃ lo : Nat, lo = c.toNat % 16 := ⟨_, rfl⟩
        have hc1 : ((c.toNat : Int) / 16) = (hi : Int) := by omega
        have hc2 : ((c.toNat : Int) % 16) = (lo : Int) := by omega
        have hhi2 : hi < 16 := by have := c.toNat_lt; omega
        have hlo2 : lo < 16 := by omega
        rw [← hhi, ← hlo] at HS0
        have HS := Hid.in_ HS0
        clear hhi hlo HS0
        have g1 := Hid.in_ (gcrCode_nat hhi2)
        have g2 := Hid.in_ (gcrCode_nat hlo2)
        have s1 := Hid.in_ (gcrS_sizeE hhi2)
        have s2 := Hid.in_ (gcrS_sizeE hlo2)
        have HQ := Hid.in_ hkm
        have HS2 := Hid.in_ hs
        clear hkm
        go_wp2_with fail
        refine (spec_GcrCode _ _).mono ?_
        rintro e w1 ⟨rfl, hb1⟩
        rw [g1.out]
        have HB1 := HB.out.trans (hb1.mono HB.out.size)
        obtain ⟨n, hn, ho⟩ := HI.out
        have ho1 := own_below ho hb1 (Nat.le_refl _)
        go_wp2_with (at_builtin; refine Lib.wpList_append_own_string _ rfl _ _ 43 9 rfl w.heap.size 5 i0 Tryz.underlying43 Tryz.underlying9 hti hz0 hz1 hz2 _ _ _ rfl ho1 (gcrS hi) rfl ?c3 ?c4 ?c5 ?_)
        case c3 => have := s1.out; have := HQ.out; have := HS2.out; unfold maxLen; omega
        case c4 => have := s1.out; have := HQ.out; have := HS2.out; omega
        case c5 => exact HB1.size
        intro v2 w2 ho2 hgr2 _
        have HB2 := HB1.grown hgr2 HB1.size (fun k hk => (ho1.lt k hk).1)
        go_wp2_with fail
        refine (spec_GcrCode _ _).mono ?_
        rintro e w3 ⟨rfl, hb3⟩
        rw [g2.out]
        have HB3 := HB2.trans (hb3.mono HB2.size)
        have ho3 := own_below ho2 hb3 (Nat.le_refl _)
        go_wp2_with (at_builtin; refine Lib.wpList_append_own_string _ rfl _ _ 43 9 rfl w.heap.size 5 i0 Tryz.underlying43 Tryz.underlying9 hti hz0 hz1 hz2 _ _ _ rfl ho3 (gcrS lo) rfl ?d3 ?d4 ?d5 ?_)
        case d3 => have := s1.out; have := s2.out; have := HQ.out; have := HS2.out; unfold maxLen; omega
        case d4 => have := s1.out; have := s2.out; have := HQ.out; have := HS2.out; omega
        case d5 => exact HB3.size
        intro v4 w4 ho4 hgr4 _
        have HB4 := Hid.in_ (HB3.grown hgr4 HB3.size (fun k hk => (ho3.lt k hk).1))
        rw [HS.out] at ho4
        have HO4 := Hid.in_ (show ∃ n, n ≤ 10 * (k + 1) ∧ w4.ownsRow w.heap.size 5 1 v4 n (Lib.byteCells (gcrB (s.data.toList.take (k + 1)))) from ⟨_, by have := s1.out; have := s2.out; omega, ho4⟩)
        clear ho ho1 ho2 ho3 ho4 hgr2 hgr4 hb1 hb3 HB1 HB2 HB3
        go_wp2
        have hkm := HQ.out
        go_roundg (gk - 1)
        case measure => omega
        case rel => exact ⟨k + 1, by omega, by go_num, HO4, HB4⟩
      · obtain rfl : k = s.size := by omega
        obtain ⟨n, hn, ho⟩ := HI.out
        rw [List.take_of_length_le (by simp)] at ho
        have hc := conv_own Tryz.underlying43 Tryz.underlying5 Tryz.underlying9 ho
        clear ho
        go_wp2
        go_ret2
        exact ⟨ret2_sb HV.out.symm (by rw [hb.out]; rfl), HB.out⟩
end Go.Proofs.YtlelgpknkgjaeaaGreatDoor

/- 'FmMark' and 'MarkCells' of the program and of the reference: the cells of a mark. -/
namespace Go.Proofs.YtlelgpknkgjaeaaGreatDoor
open Go.ChangeShapes Go.WideShapes Go.ChangeAt Go.RowKit
set_option linter.unusedSimpArgs false
set_option linter.unusedVariables false
set_option maxRecDepth 20000

def fmMarkL (b : Nat) : List UInt8 := (((encS false false (oneB b)).data.toList.set 4 48).set 6 48).set 8 48
theorem fm_mark_all : ∀ b : Fin 256, fmMarkL b.val = (fmS markClk (oneB b.val)).data.toList := by decide +kernel
theorem fm_mark {b : Nat} (h : b ≤ 255) : (⟨(fmMarkL b).toArray⟩ : ByteArray) = fmMarkS b := by
  have := fm_mark_all ⟨b, by omega⟩
  unfold fmMarkS
  have h2 : fmMarkL b = (fmS markClk (oneB b)).data.toList := this
  rw [h2]
/-- A block whose first cells are bytes, none of them frozen. -/
def ByteRow (w : World) (g : Nat) (L : List UInt8) : Prop := (∀ j u, (Lib.byteCells L)[j]? = some u → w.cell? ⟨g, j, none⟩ = some u) ∧ ∀ j, j < L.length → w.frozen? ⟨g, j, none⟩ = false
theorem byteCells_set' (m : List UInt8) (k : Nat) (c : UInt8) : (Lib.byteCells m).set k (.int .u8 (c.toNat : Int)) = Lib.byteCells (m.set k c) := by unfold Lib.byteCells; rw [List.map_set]
theorem ByteRow.put {w : World} {g : Nat} {L : List UInt8} (h : ByteRow w g L) {k : Nat} (hk : k < L.length) (c : UInt8) : ByteRow (w.setCell ⟨g, k, none⟩ (.int .u8 (c.toNat : Int))) g (L.set k c) := by
  have hlen : (Lib.byteCells L).length = L.length := Lib.byteCells_length L
  refine ⟨fun j u hu => ?_, fun j hj => ?_⟩
  · rw [← byteCells_set'] at hu
    by_cases hjk : k = j
    · subst hjk
      rw [List.getElem?_set_self (by rw [hlen]; exact hk)] at hu
      injection hu with hu
      subst hu
      obtain ⟨x, hx⟩ := get_lt (Lib.byteCells L) k (by rw [hlen]; exact hk)
      exact World.cell?_setCell_same _ _ _ (h.1 k x hx)
    · rw [List.getElem?_set_ne hjk] at hu
      rw [World.cell?_setCell_other _ _ _ _ (by simp [hjk])]
      exact h.1 j u hu
  · rw [World.frozen?_setCell]
    exact h.2 j (by rw [List.length_set] at hj; exact hj)
theorem bytes_row (w : World) (s : ByteArray) : ByteRow (Lib.bytesWorld w 5 s) w.heap.size s.data.toList := by
  refine ⟨fun j u hu => ?_, fun j hj => ?_⟩
  · have hj : j < s.data.toList.length := by rw [← Lib.byteCells_length]; exact (List.getElem?_eq_some_iff.1 hu).1
    rw [Lib.bytesWorld_cell w 5 s j (by simpa using hj)]
    unfold Lib.byteCells at hu
    rw [List.getElem?_map, List.getElem?_eq_getElem hj] at hu
    rw [List.getD_eq_getElem?_getD, List.getElem?_eq_getElem hj]
    exact hu
  · have hb := Lib.bytesWorld_at_new w 5 s
    have hsz : s.data.toList.length ≤ (Lib.bytesCells w 5 s).size := by
      unfold Lib.bytesCells
      rw [Array.size_append, Array.size_map]
      simp
    unfold World.frozen?
    rw [hb]
    simp
    omega
theorem below_bytes {w0 w : World} (h : Below w0.heap.size w0 w) (s : ByteArray) : Below w0.heap.size w0 (Lib.bytesWorld w 5 s) := by
  refine h.trans ?_
  exact { os := rfl, tape := rfl, output := rfl, size := by rw [Lib.bytesWorld_size]; exact Nat.le_succ_of_le (Nat.le_refl _), block := fun k hk => Lib.bytesWorld_at_old w 5 s k (Nat.lt_of_lt_of_le hk h.size) }
theorem encS_one (b : Nat) (x y : Bool) : (encS x y (oneB b)).data.toList.length = 16 := by
  have : ((encL x y (bitsN (oneB b) 1)).map chr).length = 16 := by
    rw [List.length_map]
    have h : ∀ (l : List Bool) (last : Bool), (encL x last l).length = 2 * l.length := by
      intro l
      induction l with
      | nil => intro last; rfl
      | cons a l ih =>
        intro last
        show (clk x last a :: a :: encL x a l).length = _
        rw [List.length_cons, List.length_cons, ih, List.length_cons]
        omega
    rw [h, bitsN_len (by rw [oneB_size]; exact Nat.le_refl _)]
  exact this
def setTo (L : List UInt8) : Nat → List UInt8
  | 0 => L
  | k + 1 => (setTo L k).set (4 + 2 * k) 48
theorem setTo_len (L : List UInt8) : ∀ k, (setTo L k).length = L.length
  | 0 => rfl
  | k + 1 => by
    show ((setTo L k).set (4 + 2 * k) 48).length = _
    rw [List.length_set, setTo_len L k]
set_option maxHeartbeats 2000000 in
theorem spec_FmMark (b : Nat) (w : World) (h : b ≤ 255) :
    Calls Tryz.prog 97 #[.int .i64 b] w fun e w' => e = .returned (.string (fmMarkS b)) ∧ Below w.heap.size w w' := by
  have h1 : inB (b : Int) 0 255 = true := inB_mk (by omega) (by omega)
  have hc := conv_byte w h
  have HR := Hid.in_ (fm_mark h)
  have HEN := Hid.in_ (show ∀ w, Calls Tryz.prog 127 #[.string (oneB b)] w fun e w' => e = .returned (.string (encS false false (oneB b))) ∧ Below w.heap.size w w' from fun w => by
    have hv : encV05 false false (oneB b) = encS false false (oneB b) := if_neg (by rw [oneB_size]; decide)
    have hl := spec_l05Encode (oneB b) false false w (by rw [oneB_size]; decide)
    rw [hv] at hl
    have HL := Hid.in_ hl
    clear hl
    go_enter Tryz.func127, Tryz.ntmps127
    go_wp2_with (go_at_call 119; refine HL.out.mono ?_; rintro e w' ⟨rfl, hb⟩)
    go_ret
    exact ⟨rfl, hb⟩)
  have hx := encS_one b false false
  have HM := Hid.in_ (show fmMarkL b = (((encS false false (oneB b)).data.toList.set 4 48).set 6 48).set 8 48 from rfl)
  obtain ⟨X, hX⟩ : ∃ X, encS false false (oneB b) = X := ⟨_, rfl⟩
  rw [hX] at HEN hx HM
  have hxs : X.size = 16 := by rw [← hx]; simp
  clear hX
  generalize oneB b = S at *
  generalize fmMarkS b = Z at *
  go_enter Tryz.func97, Tryz.ntmps97
  go_wp2_with (go_at_call 60; refine (bool_is (spec_l00In _ _ _ _) (by assumption)).mono ?_; rintro e w' ⟨rfl, rfl⟩)
  refine (HEN.out _).mono ?_
  rintro e w1 ⟨rfl, hb1⟩
  have HB1 := Hid.in_ (bstep (balloc (Below.refl _ _) _) hb1)
  have kc := Lib.run_convert_string_bytes (P := Tryz.prog) w1 9 43 5 X Tryz.underlying9 Tryz.underlying43 Tryz.underlying5
  have HRW := Hid.in_ (bytes_row w1 X)
  have HBW := Hid.in_ (below_bytes HB1.out X)
  have HGE := Hid.in_ HB1.out.size
  clear hb1
  obtain ⟨g, hg⟩ : ∃ g, w1.heap.size = g := ⟨_, rfl⟩
  rw [hg] at kc HRW HGE
  obtain ⟨cp, hcp⟩ : ∃ cp, grownCap w1 X.size 0 5 = cp := ⟨_, rfl⟩
  rw [hcp] at kc
  generalize Lib.bytesWorld w1 5 X = w2 at *
  rw [hxs] at kc
  go_wp2
  go_loopg [4] 3 (fun m i wr => ∃ k : Nat, k + m = 3 ∧ i = .int .i64 (4 + 2 * (k : Int)) ∧ Hid (ByteRow wr g (setTo X.data.toList k)) ∧ Hid (Below w.heap.size w wr))
  case atStart => exact ⟨0, by omega, rfl, HRW.out, HBW.out⟩
  case round =>
    obtain ⟨k, hkm, rfl, HI, HB⟩ := hrel
    have HK := Hid.in_ hkm
    clear hkm
    by_cases hlt : k < 3
    · have hkl : 4 + 2 * k < (setTo X.data.toList k).length := by rw [setTo_len, hx]; omega
      obtain ⟨x, hx1⟩ := get_lt (Lib.byteCells (setTo X.data.toList k)) (4 + 2 * k) (by rw [Lib.byteCells_length]; exact hkl)
      have f1 := HI.out.1 _ _ hx1
      have f2 := HI.out.2 _ hkl
      have HN := Hid.in_ (show ByteRow (wr.setCell ⟨g, 4 + 2 * k, none⟩ (.int .u8 48)) g (setTo X.data.toList (k + 1)) from HI.out.put hkl 48)
      have HBN := Hid.in_ (HB.out.setCell (p := ⟨g, 4 + 2 * k, none⟩) HGE.out (.int .u8 48))
      clear hx1 hkl
      go_wp2
      have hk := HK.out
      go_roundg (gk - 1)
      case measure => omega
      case rel => exact ⟨k + 1, by omega, by go_num, HN, HBN⟩
    · have hk := HK.out
      obtain rfl : k = 3 := by omega
      have hl : (setTo X.data.toList 3).length = 16 := by rw [setTo_len, hx]
      have hcv := run_convert_bytes_back (P := Tryz.prog) wr 43 9 5 ⟨g, 0, none⟩ cp (setTo X.data.toList 3) Tryz.underlying43 Tryz.underlying5 Tryz.underlying9 (fun j hj => by
        rw [addr_add, Nat.zero_add]
        exact HI.out.1 j _ (by unfold Lib.byteCells; rw [List.getElem?_map, List.getElem?_eq_getElem hj]; rfl))
      rw [hl] at hcv
      have HE := Hid.in_ (show (⟨(setTo X.data.toList 3).toArray⟩ : ByteArray) = Z by rw [← HR.out, HM.out]; rfl)
      rw [HE.out] at hcv
      go_wp2
      go_ret
      exact ⟨rfl, HB.out⟩
end Go.Proofs.YtlelgpknkgjaeaaGreatDoor

/- 'MarkCells' of the program and of the reference. -/
namespace Go.Proofs.YtlelgpknkgjaeaaGreatDoor
open Go.ChangeShapes Go.WideShapes Go.ChangeAt Go.RowKit
set_option linter.unusedSimpArgs false
set_option linter.unusedVariables false
set_option maxRecDepth 20000

def mfmM : ByteArray := ⟨#[48, 49, 48, 48, 48, 49, 48, 48, 49, 48, 48, 48, 49, 48, 48, 49]⟩
def mfm3 : ByteArray := ⟨(Lib.repeatL mfmM.data.toList 3).toArray⟩
def tenB : ByteArray := ⟨#[49, 49, 49, 49, 49, 49, 49, 49, 49, 49]⟩
theorem mfm3_eq : (mfmM ++ mfmM) ++ mfmM = mfm3 := by
  apply congrArg ByteArray.mk
  decide
theorem ten_eq : (⟨(Lib.repeatL [49] 10).toArray⟩ : ByteArray) = tenB := rfl
def markCS (f : Int) (b : Nat) : ByteArray := if f = 1 then fmMarkS b else if f = 2 then mfm3 ++ encS true true (oneB b) else tenB ++ encode (oneB b)
theorem markByteIn {f k : Int} (hf : inB f 1 3 = true) (hk : inB k 1 3 = true) : ∃ b : Nat, markByte f k = b ∧ b ≤ 255 := by
  obtain rfl | rfl | rfl := three hf <;> obtain rfl | rfl | rfl := three hk
  · exact ⟨254, rfl, by decide⟩
  · exact ⟨251, rfl, by decide⟩
  · exact ⟨248, rfl, by decide⟩
  · exact ⟨254, rfl, by decide⟩
  · exact ⟨251, rfl, by decide⟩
  · exact ⟨248, rfl, by decide⟩
  · exact ⟨8, rfl, by decide⟩
  · exact ⟨7, rfl, by decide⟩
  · exact ⟨6, rfl, by decide⟩
theorem encS_one_size (b : Nat) (x y : Bool) : (encS x y (oneB b)).size = 16 := by
  rw [← encS_one b x y]
  simp
def mcOk (f k : Int) : Bool := inB f 1 3 && inB k 1 3
def mcV (f k : Int) : ByteArray := if mcOk f k = true then markCS f (markByte f k).toNat else ⟨#[]⟩
theorem mc_cases (f k : Int) : (inB f 1 3 = false ∧ Hid (mcOk f k = false ∧ mcV f k = ⟨#[]⟩)) ∨ (inB f 1 3 = true ∧ inB k 1 3 = false ∧ Hid (mcOk f k = false ∧ mcV f k = ⟨#[]⟩)) ∨
    (inB f 1 3 = true ∧ inB k 1 3 = true ∧ ∃ b : Nat, markByte f k = b ∧ b ≤ 255 ∧ Hid (mcOk f k = true ∧ mcV f k = markCS f b)) := by
  unfold Hid
  cases h1 : inB f 1 3
  · have : mcOk f k = false := by unfold mcOk; rw [h1]; rfl
    exact .inl ⟨rfl, this, if_neg (by rw [this]; decide)⟩
  cases h2 : inB k 1 3
  · have : mcOk f k = false := by unfold mcOk; rw [h1, h2]; rfl
    exact .inr (.inl ⟨rfl, rfl, this, if_neg (by rw [this]; decide)⟩)
  · have : mcOk f k = true := by unfold mcOk; rw [h1, h2]; rfl
    obtain ⟨b, hb, h255⟩ := markByteIn h1 h2
    refine .inr (.inr ⟨rfl, rfl, b, hb, h255, this, ?_⟩)
    unfold mcV
    rw [if_pos this, hb]
    rfl
theorem ret2_sbm {a b : ByteArray} {x y : Bool} (h : a = b) (k : x = y) : Ending.returned (.tuple #[.string a, .bool x]) = .returned (.tuple #[.string b, .bool y]) := by rw [h, k]
set_option maxHeartbeats 2000000 in
theorem impl_markCells (f k : Int) (b : Nat) (w : World) (hf : inB f 1 3 = true) (hb : markByte f k = b) (h : b ≤ 255) (hT : Tab w) :
    Calls Tryz.prog 58 #[.int .i64 f, .int .i64 k] w fun e w' => e = .returned (.string (markCS f b)) ∧ Below w.heap.size w w' := by
  have hc := conv_byte w h
  have HMB := Hid.in_ (impl_MarkByte f k w)
  rw [hb] at HMB
  have HB0 := Hid.in_ (balloc (Below.refl w.heap.size w) (.cells #[.int .u8 (b : Int)] 5))
  have HF := Hid.in_ (fun w => show Calls Tryz.prog 90 #[.string (oneB b), .string ⟨#[49, 49, 48, 48, 48, 49, 49, 49]⟩] w fun e w' => e = .returned (.string (fmMarkS b)) ∧ Below w.heap.size w w' from impl_fmCells_at markClk (oneB b) w rfl (by rw [oneB_size]; decide))
  have HM := Hid.in_ (fun w => impl_mfmCells (oneB b) true w (by rw [oneB_size]; decide))
  have HG := Hid.in_ (fun w h => impl_gcrCells (oneB b) w (by rw [oneB_size]; decide) h)
  have HR3 := Hid.in_ (fun w => show Calls Tryz.prog 91 #[.string ⟨#[48, 49, 48, 48, 48, 49, 48, 48, 49, 48, 48, 48, 49, 48, 48, 49]⟩, .int .i64 3] w fun e w' => e = .returned (.string mfm3) ∧ Below w.heap.size w w' from
    Any.strings_Repeat_main Tryz.lays105 Tryz.Builder_Extra_105 mfmM 3 w (by decide) (by decide) (by decide) (by decide))
  have HR10 := Hid.in_ (fun w => show Calls Tryz.prog 91 #[.string ⟨#[49]⟩, .int .i64 10] w fun e w' => e = .returned (.string tenB) ∧ Below w.heap.size w w' from
    Any.strings_Repeat_main Tryz.lays105 Tryz.Builder_Extra_105 ⟨#[49]⟩ 10 w (by decide) (by decide) (by decide) (by decide))
  have hz1 := encS_one_size b true true
  have hz2 := encode_size (oneB b)
  rw [oneB_size] at hz2
  have HS1 := Hid.in_ (show markCS 1 b = fmMarkS b from rfl)
  have HS2 := Hid.in_ (show markCS 2 b = mfm3 ++ encS true true (oneB b) from rfl)
  have HS3 := Hid.in_ (show markCS 3 b = tenB ++ encode (oneB b) from rfl)
  have hm3 : mfm3.size = 48 := rfl
  have ht : tenB.size = 10 := rfl
  generalize encS true true (oneB b) = E at *
  generalize encode (oneB b) = D at *
  generalize oneB b = S at *
  generalize fmMarkS b = Z at *
  generalize mfm3 = M3 at *
  generalize tenB = TT at *
  have hno1 : ¬ (M3.size + E.size > 9223372036854775807) := by omega
  have hno2 : ¬ (TT.size + D.size > 9223372036854775807) := by omega
  have HT := Hid.in_ hT
  clear hT hb
  obtain rfl | rfl | rfl := three hf
  · go_enter Tryz.func58, Tryz.ntmps58
    go_wp2_with (first | (go_at_call 89; refine HMB.out.mono ?_; rintro e w' ⟨rfl, rfl⟩) | (go_at_call 90; refine (HF.out _).mono ?_; rintro e w1 ⟨rfl, hb1⟩))
    go_ret
    exact ⟨ret_strX HS1.out.symm, bstep HB0.out hb1⟩
  · go_enter Tryz.func58, Tryz.ntmps58
    go_wp2_with (first | (go_at_call 89; refine HMB.out.mono ?_; rintro e w' ⟨rfl, rfl⟩) | (go_at_call 91; refine (HR3.out _).mono ?_; rintro e w1 ⟨rfl, hb1⟩; have hB1 := bstep HB0.out hb1) | (go_at_call 92; refine (HM.out _).mono ?_; rintro e w2 ⟨rfl, hb2⟩; have hB2 := bstep hB1 hb2))
    go_ret
    exact ⟨ret_strX HS2.out.symm, hB2⟩
  · go_enter Tryz.func58, Tryz.ntmps58
    go_wp2_with (first | (go_at_call 89; refine HMB.out.mono ?_; rintro e w' ⟨rfl, rfl⟩) | (go_at_call 91; refine (HR10.out _).mono ?_; rintro e w1 ⟨rfl, hb1⟩; have hB1 := bstep HB0.out hb1) | (go_at_call 93; refine (HG.out _ (Tab.step hB1 HT.out)).mono ?_; rintro e w2 ⟨rfl, hb2⟩; have hB2 := bstep hB1 hb2))
    go_ret
    exact ⟨ret_strX HS3.out.symm, hB2⟩
theorem impl_MarkCells (f k : Int) (w : World) (hT : Tab w) :
    Calls Tryz.prog 30 #[.int .i64 f, .int .i64 k] w fun e w' => e = .returned (.tuple #[.string (mcV f k), .bool (mcOk f k)]) ∧ Below w.heap.size w w' := by
  obtain ⟨h1, HV⟩ | ⟨h1, h2, HV⟩ | ⟨h1, h2, b, hb, h255, HV⟩ := mc_cases f k
  case inr.inr =>
    have HM := Hid.in_ (impl_markCells f k b w h1 hb h255 hT)
    clear hT hb
    go_enter Tryz.func30, Tryz.ntmps30
    go_wp2_with (first | (go_at_call 37; refine (bool_is (impl_isFormat _ _) (by assumption)).mono ?_; rintro e w' ⟨rfl, rfl⟩) | (go_at_call 57; refine (bool_is (impl_isMarkKind _ _) (by assumption)).mono ?_; rintro e w' ⟨rfl, rfl⟩) | (go_at_call 58; refine HM.out.mono ?_; rintro e w1 ⟨rfl, hb1⟩))
    go_ret2
    exact ⟨ret2_sbm HV.out.2.symm HV.out.1.symm, hb1⟩
  all_goals
    clear hT
    go_enter Tryz.func30, Tryz.ntmps30
    go_wp2_with (first | (go_at_call 37; refine (bool_is (impl_isFormat _ _) (by assumption)).mono ?_; rintro e w' ⟨rfl, rfl⟩) | (go_at_call 57; refine (bool_is (impl_isMarkKind _ _) (by assumption)).mono ?_; rintro e w' ⟨rfl, rfl⟩))
    go_ret2
    exact ⟨ret2_sbm HV.out.2.symm HV.out.1.symm, Below.refl _ _⟩
theorem spec_MfmMark (w : World) : Calls Tryz.prog 98 #[] w fun e w' => e = .returned (.string mfmM) ∧ w = w' := by
  go_enter Tryz.func98, Tryz.ntmps98
  go_wp2
  go_ret
  exact ⟨rfl, rfl⟩
set_option maxHeartbeats 2000000 in
theorem spec_l07Mark (f k : Int) (b : Nat) (w : World) (hf : inB f 1 3 = true) (hk : inB k 1 3 = true) (hb : markByte f k = b) (h : b ≤ 255) :
    Calls Tryz.prog 62 #[.int .i64 f, .int .i64 k] w fun e w' => e = .returned (.string (markCS f b)) ∧ Below w.heap.size w w' := by
  have HMB := Hid.in_ (spec_l07Byte f k w hf hk)
  rw [hb] at HMB
  have hc := fun w => conv_byte (b := b) w h
  have HF := Hid.in_ (fun w => spec_FmMark b w h)
  have HM := Hid.in_ (show ∀ w, Calls Tryz.prog 87 #[.string (oneB b), .bool true] w fun e w' => e = .returned (.string (encS true true (oneB b))) ∧ Below w.heap.size w w' from fun w => by
    have hv : encV05 true true (oneB b) = encS true true (oneB b) := if_neg (by rw [oneB_size]; decide)
    have hl := spec_l05Encode (oneB b) true true w (by rw [oneB_size]; decide)
    rw [hv] at hl
    have HL := Hid.in_ hl
    clear hl
    go_enter Tryz.func87, Tryz.ntmps87
    go_wp2_with (go_at_call 119; refine HL.out.mono ?_; rintro e w' ⟨rfl, hb⟩)
    go_ret
    exact ⟨rfl, hb⟩)
  have HG := Hid.in_ (show ∀ w, Calls Tryz.prog 99 #[.string (oneB b)] w fun e w' => e = .returned (.tuple #[.string (encode (oneB b)), .bool true]) ∧ Below w.heap.size w w' from fun w => by
    have hn : encB (oneB b) = false := by unfold encB; rw [oneB_size]; rfl
    have hv : encV (oneB b) = encode (oneB b) := if_neg (by rw [hn]; decide)
    have hl := spec_EncodeGcr (oneB b) w (by rw [oneB_size]; decide)
    rw [hv, hn] at hl
    exact hl)
  have HM3 := Hid.in_ mfm3_eq
  have hz1 := encS_one_size b true true
  have hz2 := encode_size (oneB b)
  rw [oneB_size] at hz2
  have HS1 := Hid.in_ (show markCS 1 b = fmMarkS b from rfl)
  have HS2 := Hid.in_ (show markCS 2 b = mfm3 ++ encS true true (oneB b) from rfl)
  have HS3 := Hid.in_ (show markCS 3 b = tenB ++ encode (oneB b) from rfl)
  have hm3 : mfm3.size = 48 := rfl
  have hm1 : mfmM.size = 16 := rfl
  have hm2 : (mfmM ++ mfmM).size = 32 := rfl
  have HT10 := Hid.in_ (show tenB = ⟨#[49, 49, 49, 49, 49, 49, 49, 49, 49, 49]⟩ from rfl)
  have ht : (⟨#[49, 49, 49, 49, 49, 49, 49, 49, 49, 49]⟩ : ByteArray).size = 10 := rfl
  have HMM := Hid.in_ (fun w => spec_MfmMark w)
  generalize encS true true (oneB b) = E at *
  generalize encode (oneB b) = D at *
  generalize oneB b = S at *
  generalize fmMarkS b = Z at *
  generalize mfm3 = M3 at *
  generalize mfmM = M at *
  have hno1 : ¬ (M.size + M.size > 9223372036854775807) := by omega
  have hno2 : ¬ ((M ++ M).size + M.size > 9223372036854775807) := by omega
  have hno3 : ¬ (M3.size + E.size > 9223372036854775807) := by omega
  have hno4 : ¬ ((⟨#[49, 49, 49, 49, 49, 49, 49, 49, 49, 49]⟩ : ByteArray).size + D.size > 9223372036854775807) := by omega
  clear hb
  obtain rfl | rfl | rfl := three hf
  · go_enter Tryz.func62, Tryz.ntmps62
    go_wp2_with fail
    refine HMB.out.mono ?_
    rintro e w1 ⟨rfl, hb1⟩
    have hc1 := hc w1
    have HB1 := Hid.in_ (balloc hb1 (.cells #[.int .u8 (b : Int)] 5))
    clear hb1
    go_wp2_with (go_at_call 97; refine (HF.out _).mono ?_; rintro e w2 ⟨rfl, hb2⟩)
    go_ret
    exact ⟨ret_strX HS1.out.symm, bstep HB1.out hb2⟩
  · go_enter Tryz.func62, Tryz.ntmps62
    go_wp2_with fail
    refine HMB.out.mono ?_
    rintro e w1 ⟨rfl, hb1⟩
    have hc1 := hc w1
    have HB1 := Hid.in_ (balloc hb1 (.cells #[.int .u8 (b : Int)] 5))
    clear hb1
    go_wp2_with (first | (go_at_call 98; refine (HMM.out _).mono ?_; rintro e w' ⟨rfl, rfl⟩) | (go_at_call 87; refine (HM.out _).mono ?_; rintro e w2 ⟨rfl, hb2⟩; (try rw [HM3.out])))
    go_ret
    exact ⟨ret_strX (by rw [HS2.out, ← HM3.out]), bstep HB1.out hb2⟩
  · go_enter Tryz.func62, Tryz.ntmps62
    go_wp2_with fail
    refine HMB.out.mono ?_
    rintro e w1 ⟨rfl, hb1⟩
    have hc1 := hc w1
    have HB1 := Hid.in_ (balloc hb1 (.cells #[.int .u8 (b : Int)] 5))
    clear hb1
    go_wp2_with (go_at_call 99; refine (HG.out _).mono ?_; rintro e w2 ⟨rfl, hb2⟩)
    go_ret
    exact ⟨ret_strX (by rw [HS3.out, HT10.out]), bstep HB1.out hb2⟩
end Go.Proofs.YtlelgpknkgjaeaaGreatDoor

/- 'SyncRuns' of the program and of the reference: the runs of ten or more cells that are 1. -/
namespace Go.Proofs.YtlelgpknkgjaeaaGreatDoor
open Go.ChangeShapes Go.WideShapes Go.ChangeAt Go.RowKit
set_option linter.unusedSimpArgs false
set_option linter.unusedVariables false
set_option maxRecDepth 4000

/-- Is the cell 'c' places behind 'i' a 1? -/
def oneAt (s : ByteArray) (i c : Nat) : Bool := byteAt s ((i + c) % s.size) == 49
def cntF (p : Nat → Bool) : Nat → Nat → Nat
  | 0, c => c
  | f + 1, c => if p c = true then cntF p f (c + 1) else c
theorem cntF_stop {p : Nat → Bool} {d : Nat} (hd : p d = false) : ∀ (f c : Nat), c ≤ d → d - c < f → (∀ j, c ≤ j → j < d → p j = true) → cntF p f c = d
  | 0, c, _, h, _ => by omega
  | f + 1, c, hc, h, hp => by
    unfold cntF
    by_cases e : c = d
    · subst e
      rw [if_neg (by rw [hd]; decide)]
    · rw [if_pos (hp c (Nat.le_refl _) (by omega))]
      exact cntF_stop hd f (c + 1) (by omega) (by omega) (fun j h1 h2 => hp j (by omega) h2)
theorem cntF_le (p : Nat → Bool) : ∀ (f c : Nat), cntF p f c ≤ c + f
  | 0, c => Nat.le_refl _
  | f + 1, c => by
    unfold cntF
    split
    · have := cntF_le p f (c + 1)
      omega
    · omega
def cnt (s : ByteArray) (i : Nat) : Nat := cntF (oneAt s i) s.size 0
def startAt (s : ByteArray) (i : Nat) : Bool := (byteAt s i == 49) && !(byteAt s ((i + s.size - 1) % s.size) == 49)
theorem start_stop {s : ByteArray} {i : Nat} (h0 : 0 < s.size) (h : startAt s i = true) : oneAt s i (s.size - 1) = false := by
  unfold startAt at h
  simp only [Bool.and_eq_true, Bool.not_eq_true'] at h
  unfold oneAt
  rw [show i + (s.size - 1) = i + s.size - 1 by omega]
  exact h.2
theorem cnt_stop {s : ByteArray} {i d : Nat} (hd : d < s.size) (h : oneAt s i d = false) (hp : ∀ j, j < d → oneAt s i j = true) : cnt s i = d :=
  cntF_stop h s.size 0 (Nat.zero_le _) (by omega) (fun j _ hj => hp j hj)
theorem cnt_le (s : ByteArray) (i : Nat) : cnt s i ≤ s.size := by
  have := cntF_le (oneAt s i) s.size 0
  unfold cnt
  omega
def syncAt (s : ByteArray) (i : Nat) : Bool := startAt s i && decide (10 ≤ cnt s i)
def syncTo (s : ByteArray) : Nat → List RunR
  | 0 => []
  | k + 1 => syncTo s k ++ (if syncAt s k = true then [⟨(k : Int), (cnt s k : Nat)⟩] else [])
theorem syncTo_len (s : ByteArray) : ∀ k, (syncTo s k).length ≤ k
  | 0 => Nat.le_refl _
  | k + 1 => by
    have := syncTo_len s k
    unfold syncTo
    split <;> simp <;> omega
theorem syncTo_yes {s : ByteArray} {k : Nat} (h : syncAt s k = true) : syncTo s (k + 1) = syncTo s k ++ [⟨(k : Int), (cnt s k : Nat)⟩] := by
  show syncTo s k ++ (if syncAt s k = true then _ else []) = _
  rw [if_pos h]
theorem syncTo_no {s : ByteArray} {k : Nat} (h : syncAt s k = false) : syncTo s (k + 1) = syncTo s k := by
  show syncTo s k ++ (if syncAt s k = true then _ else []) = _
  rw [if_neg (by rw [h]; decide), List.append_nil]
def allOnes (s : ByteArray) : Bool := s.data.toList.all (· == 49)
def syncV (s : ByteArray) : List RunR :=
  if validCells s = true then (if allOnes s = true then (if 10 ≤ s.size then [⟨0, (s.size : Nat)⟩] else []) else syncTo s s.size) else []
theorem ones_at {s : ByteArray} (h : allOnes s = true) {k : Nat} (hk : k < s.size) : byteAt s k = 49 := by
  unfold allOnes at h
  rw [List.all_eq_true] at h
  have hk' : k < s.data.toList.length := by simpa using hk
  have := h s.data.toList[k] (List.getElem_mem _)
  unfold byteAt
  rw [List.getD_eq_getElem?_getD, List.getElem?_eq_getElem hk']
  simpa using this
theorem ones_none {s : ByteArray} (h : allOnes s = true) : ∀ k, k ≤ s.size → syncTo s k = []
  | 0, _ => rfl
  | k + 1, hk => by
    have hs : syncAt s k = false := by
      unfold syncAt startAt
      rw [ones_at h (k := (k + s.size - 1) % s.size) (Nat.mod_lt _ (by omega))]
      simp
    rw [syncTo_no hs, ones_none h k (by omega)]
theorem contains_zero {s : ByteArray} (h : allBits s = true) : decide (0 ≤ Lib.indexByte s.data.toList 48) = !allOnes s := by
  have hge := Lib.indexByte_ge s.data.toList 48
  by_cases hm : Lib.indexByte s.data.toList 48 = -1
  · have hn := Lib.indexByte_none hm
    rw [hm]
    have : allOnes s = true := by
      unfold allOnes
      rw [List.all_eq_true]
      intro x hx
      unfold allBits at h
      rw [List.all_eq_true] at h
      have hb := h x hx
      obtain ⟨i, hi, rfl⟩ := List.mem_iff_getElem.1 hx
      have := hn i
      rw [List.getElem?_eq_getElem hi] at this
      unfold isBit at hb
      simp at hb
      simp
      rcases hb with hb | hb
      · exact absurd (congrArg some hb) this
      · exact hb
    rw [this]
    rfl
  · obtain ⟨o, ho⟩ := Int.eq_ofNat_of_zero_le (show 0 ≤ Lib.indexByte s.data.toList 48 by omega)
    have h1 := (Lib.indexByte_some ho).1
    have : allOnes s = false := by
      unfold allOnes
      rw [List.all_eq_false]
      exact ⟨48, List.mem_of_getElem? h1, by decide⟩
    rw [this, decide_eq_true (by omega)]
    rfl
theorem run_cells {l : List RunR} {a c : Int} : l.flatMap RunR.cells ++ [.int .i64 a, .int .i64 c] = (l ++ [(⟨a, c⟩ : RunR)]).flatMap RunR.cells := (flat_snoc l (⟨a, c⟩ : RunR)).symm
theorem byte49 (c : UInt8) : (c = 49 ∧ (c == 49) = true) ∨ (((c.toNat : Int) != 49) = true ∧ ((c.toNat : Int) == 49) = false ∧ (c == 49) = false) := by
  by_cases h : c = 49
  · exact .inl ⟨h, by rw [h]; rfl⟩
  · have h2 : ¬ (c.toNat : Int) = 49 := fun e => h (UInt8.toNat_inj.1 (by simpa using (by omega : c.toNat = 49)))
    exact .inr ⟨bne_iff_ne.2 h2, beq_eq_false_iff_ne.2 h2, beq_eq_false_iff_ne.2 h⟩
theorem cellsTwo {w : World} {x y : Value} {t : TypeId} : ∀ j u, ([x, y] : List Value)[j]? = some u → (w.alloc (.cells #[x, y] t)).cell? ((⟨w.heap.size, 0, none⟩ : Addr).add j) = some u := fun j u hu => by
  rw [addr_add, Nat.zero_add]
  exact Box.new w [x, y] t j u hu
set_option maxHeartbeats 4000000 in
theorem impl_syncRuns (s : ByteArray) (w : World) (hv : validCells s = true) :
    Calls Tryz.prog 101 #[.string s] w fun e w' => ∃ v, e = .returned v ∧ w'.ownsRow w.heap.size 85 2 v (syncV s).length ((syncV s).flatMap RunR.cells) ∧ Below w.heap.size w w' := by
  obtain ⟨i0, hti, hz0, hz1, hz2⟩ := info_parts Tryz.info_CellRun
  obtain ⟨v1, v2, v3⟩ := valid_size hv
  have HC := Hid.in_ (fun w => Any.strings_Contains_one Tryz.lays144 s 48 w)
  rw [contains_zero v3] at HC
  change Hid (∀ w, Calls Tryz.prog 130 #[.string s, .string ⟨#[48]⟩] w fun e w' => e = .returned (.bool (!allOnes s)) ∧ w' = w) at HC
  cases ho : allOnes s
  · have HV := Hid.in_ (show syncV s = syncTo s s.size by unfold syncV; rw [hv, ho]; rfl)
    rw [ho] at HC
    obtain ⟨N, hN⟩ : ∃ N, s.size = N := ⟨_, rfl⟩
    have HST := Hid.in_ (fun i h => start_stop (s := s) (i := i) v1 h)
    have HCS := Hid.in_ (fun i d h1 h2 h3 => cnt_stop (s := s) (i := i) (d := d) h1 h2 h3)
    rw [hN] at v1 v2 HV HST HCS
    clear hv v3 ho
    go_enter Tryz.func101, Tryz.ntmps101
    go_wp2_with (go_at_call 130; refine (HC.out _).mono ?_; rintro e w' ⟨rfl, rfl⟩)
    go_loopg [4, 18] N (fun m v i wr => ∃ k : Nat, k + m = N ∧ i = .int .i64 k ∧ Hid (wr.ownsRow w'.heap.size 85 2 v (syncTo s k).length ((syncTo s k).flatMap RunR.cells)) ∧ Hid (Below w'.heap.size w' wr))
    case atStart => exact ⟨0, by omega, rfl, World.ownsRow_nil _ _ _ _, Below.refl _ _⟩
    case round =>
      obtain ⟨k, hkm, rfl, HI, HB⟩ := hrel
      have HK := Hid.in_ hkm
      clear hkm
      by_cases hlt : k < N
      · have HL := Hid.in_ (syncTo_len s k)
        have hks : k < s.size := by omega
        obtain ⟨q, hq⟩ : ∃ q, (k + N - 1) % N = q := ⟨_, rfl⟩
        have hqn : q < N := by rw [← hq]; exact Nat.mod_lt _ (by omega)
        have hqs : q < s.size := by omega
        have hm : ((k : Int) + (N : Int) - 1) % (N : Int) = (q : Int) := by
          rw [← hq, show (k : Int) + (N : Int) - 1 = ((k + N - 1 : Nat) : Int) by omega]
          simp
        obtain ⟨c, hc⟩ : ∃ c : UInt8, s[k] = c := ⟨_, rfl⟩
        obtain ⟨d, hd⟩ : ∃ d : UInt8, s[q] = d := ⟨_, rfl⟩
        have hst : startAt s k = ((c == 49) && !(d == 49)) := by
          unfold startAt
          rw [hN, hq, byteAt_eq hks, byteAt_eq hqs, hc, hd]
        obtain ⟨rfl, e1⟩ | ⟨n1, n2, e1⟩ := byte49 c
        · obtain ⟨rfl, e2⟩ | ⟨n3, n4, e2⟩ := byte49 d
          · have HS := Hid.in_ (syncTo_no (s := s) (k := k) (by unfold syncAt; rw [hst]; rfl))
            clear hst hq
            go_wp2
            have hk := HK.out
            go_roundg (gk - 1)
            case measure => omega
            case rel => exact ⟨k + 1, by omega, by go_num, by rw [HS.out]; exact HI.out, HB.out⟩
          · have hstt : startAt s k = true := by rw [hst, e2]; rfl
            have HSTT := Hid.in_ hstt
            have HSS := Hid.in_ (HST.out k hstt)
            clear hst hq hstt
            go_wp2
            obtain ⟨gO, rfl⟩ : ∃ g, g = gk := ⟨_, rfl⟩
            obtain ⟨wo, rfl⟩ : ∃ wo : World, wo = wr := ⟨_, rfl⟩
            go_loopg [6] N (fun m i wi => ∃ c : Nat, c + m = N ∧ i = .int .i64 c ∧ c < N ∧ Hid (∀ j, j < c → oneAt s k j = true) ∧ wo = wi)
            case atStart => exact ⟨0, by omega, rfl, by omega, fun j hj => by omega, rfl⟩
            case round =>
              obtain ⟨c, hcm, rfl, hcn, HP, rfl⟩ := hrel
              have HM := Hid.in_ hcm
              clear hcm
              obtain ⟨p, hp⟩ : ∃ p, (k + c) % N = p := ⟨_, rfl⟩
              have hpn : p < N := by rw [← hp]; exact Nat.mod_lt _ (by omega)
              have hps : p < s.size := by omega
              have hm2 : ((k : Int) + (c : Int)) % (N : Int) = (p : Int) := by rw [← hp]; simp
              obtain ⟨x, hx⟩ : ∃ x : UInt8, s[p] = x := ⟨_, rfl⟩
              have hone : oneAt s k c = (x == 49) := by
                unfold oneAt
                rw [hN, hp, byteAt_eq hps, hx]
              clear hp
              obtain ⟨rfl, e3⟩ | ⟨n5, n6, e3⟩ := byte49 x
              · have HP2 := Hid.in_ (show ∀ j, j < c + 1 → oneAt s k j = true from fun j hj => by
                  rcases Nat.lt_or_ge j c with h | h
                  · exact HP.out j h
                  · obtain rfl : j = c := by omega
                    rw [hone]; rfl)
                have hcl : c + 1 < N := by
                  rcases Nat.lt_or_ge (c + 1) N with h | h
                  · exact h
                  · have : c = N - 1 := by omega
                    have h2 := HSS.out
                    rw [← this, hone] at h2
                    cases h2
                clear hone
                go_wp2
                have hM := HM.out
                go_roundg (gk - 1)
                case measure => omega
                case rel => exact ⟨c + 1, by omega, by go_num, hcl, HP2, rfl⟩
              · have HCN := Hid.in_ (HCS.out k c hcn (by rw [hone]; exact e3) HP.out)
                clear hone
                by_cases h10 : 10 ≤ c
                · have HS := Hid.in_ (show syncTo s (k + 1) = syncTo s k ++ [⟨(k : Int), (c : Nat)⟩] by
                    have := syncTo_yes (s := s) (k := k) (by unfold syncAt; rw [HSTT.out, HCN.out, decide_eq_true h10]; rfl)
                    rw [HCN.out] at this
                    exact this)
                  go_wp2_with (at_builtin; refine wpList_append_own _ rfl _ _ 81 rfl w'.heap.size 85 i0 (.agg #[.int .i64 0, .int .i64 0]) 2 16 Tryz.underlying81 hti hz0 hz1 hz2 rfl (by decide) _ _ _ rfl (HI.out.alloc _) ⟨wo.heap.size, 0, none⟩ 1 1 [.int .i64 k, .int .i64 c] rfl rfl cellsTwo (fun x hx => by simp at hx; rcases hx with rfl | rfl <;> rfl) (by have := HL.out; unfold maxLen; omega) (by have := HL.out; omega) (balloc HB.out _).size ?_; intro v4 w4 ho4 hg4 _)
                  have HB4 := Hid.in_ (bgrown (balloc HB.out _) (HI.out.alloc _) (Nat.le_refl _) hg4)
                  have HO4 := Hid.in_ (show w4.ownsRow w'.heap.size 85 2 v4 (syncTo s (k + 1)).length ((syncTo s (k + 1)).flatMap RunR.cells) by rw [HS.out, List.length_append, ← run_cells]; exact ho4)
                  clear ho4 hg4
                  have hk := HK.out
                  go_roundg (gO - 1)
                  case measure => omega
                  case rel => exact ⟨k + 1, by omega, by go_num, HO4, HB4⟩
                · have HS := Hid.in_ (syncTo_no (s := s) (k := k) (by unfold syncAt; rw [HSTT.out, HCN.out, decide_eq_false h10]; rfl))
                  go_wp2
                  have hk := HK.out
                  go_roundg (gO - 1)
                  case measure => omega
                  case rel => exact ⟨k + 1, by omega, by go_num, by rw [HS.out]; exact HI.out, HB.out⟩
        · have HS := Hid.in_ (syncTo_no (s := s) (k := k) (by unfold syncAt; rw [hst, e1]; rfl))
          clear hst hq
          go_wp2
          have hk := HK.out
          go_roundg (gk - 1)
          case measure => omega
          case rel => exact ⟨k + 1, by omega, by go_num, by rw [HS.out]; exact HI.out, HB.out⟩
      · have hk := HK.out
        obtain rfl : k = N := by omega
        go_wp2
        go_ret
        rw [HV.out]
        exact ⟨_, rfl, HI.out, HB.out⟩
  · rw [ho] at HC
    by_cases h10 : 10 ≤ s.size
    · have HV := Hid.in_ (show syncV s = [⟨0, (s.size : Nat)⟩] by unfold syncV; rw [hv, ho, if_pos rfl, if_pos rfl, if_pos h10])
      clear hv ho v3
      go_enter Tryz.func101, Tryz.ntmps101
      go_wp2_with (go_at_call 130; refine (HC.out _).mono ?_; rintro e w' ⟨rfl, rfl⟩)
      go_ret
      rw [HV.out]
      exact ⟨_, rfl, World.ownsRow_lit _ #[.int .i64 0, .int .i64 (s.size : Nat)] 1 (Nat.le_refl _) (by decide) rfl, balloc (Below.refl _ _) _⟩
    · have HV := Hid.in_ (show syncV s = [] by unfold syncV; rw [hv, ho, if_pos rfl, if_pos rfl, if_neg h10])
      clear hv ho v3
      go_enter Tryz.func101, Tryz.ntmps101
      go_wp2_with (go_at_call 130; refine (HC.out _).mono ?_; rintro e w' ⟨rfl, rfl⟩)
      go_ret
      rw [HV.out]
      exact ⟨_, rfl, World.ownsRow_nil _ _ _ _, Below.refl _ _⟩
set_option maxHeartbeats 4000000 in
theorem spec_l07Syncs (s : ByteArray) (w : World) (v1 : 0 < s.size) (v2 : s.size ≤ 8000) :
    Calls Tryz.prog 61 #[.string s] w fun e w' => ∃ v, e = .returned v ∧ w'.ownsRow w.heap.size 85 2 v (syncTo s s.size).length ((syncTo s s.size).flatMap RunR.cells) ∧ Below w.heap.size w w' := by
  obtain ⟨i0, hti, hz0, hz1, hz2⟩ := info_parts Tryz.info_CellRun
  obtain ⟨N, hN⟩ : ∃ N, s.size = N := ⟨_, rfl⟩
  have HST := Hid.in_ (fun i h => start_stop (s := s) (i := i) v1 h)
  have HCS := Hid.in_ (fun i d h1 h2 h3 => cnt_stop (s := s) (i := i) (d := d) h1 h2 h3)
  have HAT := Hid.in_ (fun (k : Nat) (w : World) (h : k ≤ 4294967296) => spec_l07At s k w v1 (by omega) h)
  rw [hN] at v1 v2 HST HCS HAT ⊢
  go_enter Tryz.func61, Tryz.ntmps61
  go_wp2
  go_loopg [4, 5] N (fun m v i wr => ∃ k : Nat, k + m = N ∧ i = .int .i64 k ∧ Hid (wr.ownsRow w.heap.size 85 2 v (syncTo s k).length ((syncTo s k).flatMap RunR.cells)) ∧ Hid (Below w.heap.size w wr))
  case atStart => exact ⟨0, by omega, rfl, World.ownsRow_lit w #[] 0 (Nat.le_refl _) (by decide) (by decide), balloc (Below.refl _ _) _⟩
  case round =>
    obtain ⟨k, hkm, rfl, HI, HB⟩ := hrel
    have HK := Hid.in_ hkm
    clear hkm
    by_cases hlt : k < N
    · have HL := Hid.in_ (syncTo_len s k)
      have hks : k < s.size := by omega
      obtain ⟨q, hq⟩ : ∃ q, (k + N - 1) % N = q := ⟨_, rfl⟩
      have HA1 := Hid.in_ (show ∀ w, Calls Tryz.prog 95 #[.string s, .int .i64 ((k : Int) + (N : Int) - 1)] w fun e w' => e = .returned (.int .u8 ((byteAt s q).toNat : Int)) ∧ w = w' from fun w => by
        have := HAT.out (k + N - 1) w (by omega)
        rw [hq, show ((k + N - 1 : Nat) : Int) = (k : Int) + (N : Int) - 1 by omega] at this
        exact this)
      obtain ⟨c, hc⟩ : ∃ c : UInt8, s[k] = c := ⟨_, rfl⟩
      obtain ⟨d, hd⟩ : ∃ d : UInt8, byteAt s q = d := ⟨_, rfl⟩
      have hst : startAt s k = ((c == 49) && !(d == 49)) := by
        unfold startAt
        rw [hN, hq, byteAt_eq hks, hd, hc]
      rw [hd] at HA1
      clear hd
      obtain ⟨rfl, e1⟩ | ⟨n1, n2, e1⟩ := byte49 c
      · obtain ⟨rfl, e2⟩ | ⟨n3, n4, e2⟩ := byte49 d
        · have HS := Hid.in_ (syncTo_no (s := s) (k := k) (by unfold syncAt; rw [hst]; rfl))
          clear hst hq
          go_wp2_with (go_at_call 95; refine (HA1.out _).mono ?_; rintro e w' ⟨rfl, rfl⟩)
          have hk := HK.out
          go_roundg (gk - 1)
          case measure => omega
          case rel => exact ⟨k + 1, by omega, by go_num, by rw [HS.out]; exact HI.out, HB.out⟩
        · have hstt : startAt s k = true := by rw [hst, e2]; rfl
          have HSTT := Hid.in_ hstt
          have HSS := Hid.in_ (HST.out k hstt)
          clear hst hq hstt
          go_wp2_with (go_at_call 95; refine (HA1.out _).mono ?_; rintro e w' ⟨rfl, rfl⟩)
          obtain ⟨gO, rfl⟩ : ∃ g, g = gk := ⟨_, rfl⟩
          go_loopg [6] N (fun m i wi => ∃ c : Nat, c + m = N ∧ i = .int .i64 c ∧ c < N ∧ Hid (∀ j, j < c → oneAt s k j = true) ∧ wr = wi)
          case atStart => exact ⟨0, by omega, rfl, by omega, fun j hj => by omega, rfl⟩
          case round =>
            obtain ⟨c, hcm, rfl, hcn, HP, rfl⟩ := hrel
            have HM := Hid.in_ hcm
            clear hcm
            obtain ⟨p, hp⟩ : ∃ p, (k + c) % N = p := ⟨_, rfl⟩
            have HA2 := Hid.in_ (show ∀ w, Calls Tryz.prog 95 #[.string s, .int .i64 ((k : Int) + (c : Int))] w fun e w' => e = .returned (.int .u8 ((byteAt s p).toNat : Int)) ∧ w = w' from fun w => by
              have := HAT.out (k + c) w (by omega)
              rw [hp, show ((k + c : Nat) : Int) = (k : Int) + (c : Int) by omega] at this
              exact this)
            obtain ⟨x, hx⟩ : ∃ x : UInt8, byteAt s p = x := ⟨_, rfl⟩
            have hone : oneAt s k c = (x == 49) := by
              unfold oneAt
              rw [hN, hp, hx]
            rw [hx] at HA2
            clear hp hx
            obtain ⟨rfl, e3⟩ | ⟨n5, n6, e3⟩ := byte49 x
            · have HP2 := Hid.in_ (show ∀ j, j < c + 1 → oneAt s k j = true from fun j hj => by
                rcases Nat.lt_or_ge j c with h | h
                · exact HP.out j h
                · obtain rfl : j = c := by omega
                  rw [hone]; rfl)
              have hcl : c + 1 < N := by
                rcases Nat.lt_or_ge (c + 1) N with h | h
                · exact h
                · have : c = N - 1 := by omega
                  have h2 := HSS.out
                  rw [← this, hone] at h2
                  cases h2
              clear hone
              go_wp2_with (go_at_call 95; refine (HA2.out _).mono ?_; rintro e w'' ⟨rfl, rfl⟩)
              have hM := HM.out
              go_roundg (gk - 1)
              case measure => omega
              case rel => exact ⟨c + 1, by omega, by go_num, hcl, HP2, rfl⟩
            · have HCN := Hid.in_ (HCS.out k c hcn (by rw [hone]; exact e3) HP.out)
              clear hone
              by_cases h10 : 10 ≤ c
              · have HS := Hid.in_ (show syncTo s (k + 1) = syncTo s k ++ [⟨(k : Int), (c : Nat)⟩] by
                  have := syncTo_yes (s := s) (k := k) (by unfold syncAt; rw [HSTT.out, HCN.out, decide_eq_true h10]; rfl)
                  rw [HCN.out] at this
                  exact this)
                go_wp2_with (first | (go_at_call 95; refine (HA2.out _).mono ?_; rintro e w'' ⟨rfl, rfl⟩) | (at_builtin; refine wpList_append_own _ rfl _ _ 81 rfl w.heap.size 85 i0 (.agg #[.int .i64 0, .int .i64 0]) 2 16 Tryz.underlying81 hti hz0 hz1 hz2 rfl (by decide) _ _ _ rfl (HI.out.alloc _) ⟨wr.heap.size, 0, none⟩ 1 1 [.int .i64 k, .int .i64 c] rfl rfl cellsTwo (fun x hx => by simp at hx; rcases hx with rfl | rfl <;> rfl) (by have := HL.out; unfold maxLen; omega) (by have := HL.out; omega) (balloc HB.out _).size ?_; intro v4 w4 ho4 hg4 _))
                have HB4 := Hid.in_ (bgrown (balloc HB.out _) (HI.out.alloc _) (Nat.le_refl _) hg4)
                have HO4 := Hid.in_ (show w4.ownsRow w.heap.size 85 2 v4 (syncTo s (k + 1)).length ((syncTo s (k + 1)).flatMap RunR.cells) by rw [HS.out, List.length_append, ← run_cells]; exact ho4)
                clear ho4 hg4
                have hk := HK.out
                go_roundg (gO - 1)
                case measure => omega
                case rel => exact ⟨k + 1, by omega, by go_num, HO4, HB4⟩
              · have HS := Hid.in_ (syncTo_no (s := s) (k := k) (by unfold syncAt; rw [HSTT.out, HCN.out, decide_eq_false h10]; rfl))
                go_wp2_with (go_at_call 95; refine (HA2.out _).mono ?_; rintro e w'' ⟨rfl, rfl⟩)
                have hk := HK.out
                go_roundg (gO - 1)
                case measure => omega
                case rel => exact ⟨k + 1, by omega, by go_num, by rw [HS.out]; exact HI.out, HB.out⟩
      · have HS := Hid.in_ (syncTo_no (s := s) (k := k) (by unfold syncAt; rw [hst, e1]; rfl))
        clear hst hq
        go_wp2
        have hk := HK.out
        go_roundg (gk - 1)
        case measure => omega
        case rel => exact ⟨k + 1, by omega, by go_num, by rw [HS.out]; exact HI.out, HB.out⟩
    · have hk := HK.out
      obtain rfl : k = N := by omega
      go_wp2
      go_ret
      exact ⟨_, rfl, HI.out, HB.out⟩
theorem syncV_len (s : ByteArray) : (syncV s).length ≤ 8000 := by
  unfold syncV
  split
  · rename_i h
    have := valid_size h
    split
    · split
      · show 1 ≤ 8000; omega
      · exact Nat.zero_le _
    · have := syncTo_len s s.size
      omega
  · exact Nat.zero_le _
end Go.Proofs.YtlelgpknkgjaeaaGreatDoor

/- 'FindPattern' of the program and of the reference: where a pattern begins on a circular track. -/
namespace Go.Proofs.YtlelgpknkgjaeaaGreatDoor
open Go.ChangeShapes Go.WideShapes Go.ChangeAt Go.RowKit
set_option linter.unusedSimpArgs false
set_option linter.unusedVariables false
set_option maxRecDepth 4000

theorem Tryz.infoI64f : (Tryz.prog.info? 2).map (fun i => (i.zero, i.size, i.bytes)) = some (some (.int .i64 0), 1, 8) := by kernel_rfl
def fitsB (s p : ByteArray) (k : Nat) : Bool := decide (sliceL s.data.toList k p.size = p.data.toList)
theorem byteAt_get {s : ByteArray} {k : Nat} (h : k < s.size) : s.data.toList[k]? = some (byteAt s k) := by
  unfold byteAt
  rw [List.getD_eq_getElem?_getD, List.getElem?_eq_getElem (by rw [len_data]; exact h)]
  rfl
theorem sliceL_get {s : ByteArray} {a n i : Nat} (h : i < n) : (sliceL s.data.toList a n)[i]? = some (byteAt s ((a + i) % s.size)) := by
  unfold sliceL byteAt
  rw [List.getElem?_map, List.getElem?_range h, len_data]
  rfl
theorem fits_no {s p : ByteArray} {a k : Nat} (hk : k < p.size) (h : byteAt s ((a + k) % s.size) ≠ byteAt p k) : fitsB s p a = false := by
  refine decide_eq_false fun e => h ?_
  have h1 := sliceL_get (s := s) (a := a) hk
  rw [e, byteAt_get hk] at h1
  exact (Option.some.inj h1).symm
theorem fits_yes {s p : ByteArray} {a : Nat} (h : ∀ k, k < p.size → byteAt s ((a + k) % s.size) = byteAt p k) : fitsB s p a = true := by
  refine decide_eq_true (List.ext_getElem? fun k => ?_)
  by_cases hk : k < p.size
  · rw [sliceL_get hk, byteAt_get hk, h k hk]
  · rw [List.getElem?_eq_none (by rw [sliceL_len]; omega), List.getElem?_eq_none (by rw [len_data]; omega)]
theorem twice_list {L : List UInt8} {i p : Nat} (hi : i < L.length) (hp : p ≤ L.length) : ((L ++ L).drop i).take p = sliceL L i p := by
  by_cases h : i + p ≤ L.length
  · rw [← sliceL_one h, List.drop_append_of_le_length (by omega), List.take_append_of_le_length (by rw [List.length_drop]; omega)]
  · rw [← sliceL_two hi hp (by omega), List.drop_append_of_le_length (by omega), List.take_append, List.take_of_length_le (by rw [List.length_drop]; omega), List.length_drop]
    congr 2
    omega
theorem fits_twice {s p : ByteArray} {i : Nat} (hi : i < s.size) (hp : p.size ≤ s.size) : Lib.hasPrefix ((s ++ s).extract i (s ++ s).size).data.toList p.data.toList = fitsB s p i := by
  have hE : ((s ++ s).extract i (s ++ s).size).data.toList = (s.data.toList ++ s.data.toList).drop i := by
    rw [extract_list, ByteArray.data_append, Array.toList_append, List.take_of_length_le]
    rw [List.length_drop, List.length_append, len_data, ByteArray.size_append]
    omega
  have hT := twice_list (L := s.data.toList) (i := i) (p := p.size) (by rw [len_data]; exact hi) (by rw [len_data]; exact hp)
  rw [hE]
  unfold Lib.hasPrefix fitsB
  rw [← hT]
  rw [Bool.eq_iff_iff, List.isPrefixOf_iff_prefix, List.prefix_iff_eq_take, len_data, decide_eq_true_eq]
  exact eq_comm
theorem byte_cases (c d : UInt8) : (c = d) ∨ (((c.toNat : Int) != (d.toNat : Int)) = true ∧ c ≠ d) := by
  by_cases h : c = d
  · exact .inl h
  · exact .inr ⟨bne_iff_ne.2 fun e => h (UInt8.toNat_inj.1 (by omega)), h⟩
set_option maxHeartbeats 1000000 in
theorem spec_l07Fits (s p : ByteArray) (a : Nat) (w : World) (h0 : 0 < s.size) (hs : s.size ≤ 1048576) (hp : p.size ≤ 1048576) (ha : a ≤ 1048576) :
    Calls Tryz.prog 65 #[.string s, .string p, .int .i64 a] w fun e w' => e = .returned (.bool (fitsB s p a)) ∧ Below w.heap.size w w' := by
  go_enter Tryz.func65, Tryz.ntmps65
  go_wp2_with fail
  go_loopg [7] p.size (fun m i wr => ∃ k : Nat, k + m = p.size ∧ i = .int .i64 k ∧ Hid (∀ j, j < k → byteAt s ((a + j) % s.size) = byteAt p j) ∧ Hid (Below w.heap.size w wr))
  case atStart => exact ⟨0, by omega, rfl, fun j hj => by omega, Below.refl _ _⟩
  case round =>
    obtain ⟨k, hkm, rfl, HA, HB⟩ := hrel
    have HK := Hid.in_ hkm
    clear hkm
    by_cases hlt : k < p.size
    · have HC := Hid.in_ (fun w => spec_l07At s (a + k) w h0 hs (by omega))
      have HP := Hid.in_ (byteAt_eq hlt)
      have HNO := Hid.in_ (fits_no (s := s) (p := p) (a := a) hlt)
      have HYES := Hid.in_ (show byteAt s ((a + k) % s.size) = byteAt p k → ∀ j, j < k + 1 → byteAt s ((a + j) % s.size) = byteAt p j from fun e j hj => by
        rcases Nat.lt_or_ge j k with h | h
        · exact HA.out j h
        · obtain rfl : j = k := by omega
          exact e)
      obtain ⟨d, hd⟩ : ∃ d : UInt8, p[k] = d := ⟨_, rfl⟩
      have HD := Hid.in_ (HP.out.trans hd)
      obtain ⟨c, hc⟩ : ∃ c, byteAt s ((a + k) % s.size) = c := ⟨_, rfl⟩
      rw [hc] at HC HNO HYES
      rw [HD.out] at HNO HYES
      clear hc
      obtain rfl | ⟨h1, h2⟩ := byte_cases c d
      · go_wp2_with fail
        go_quiet ((go_at_call 95; first | exact quiet_left (show Calls Tryz.prog 95 #[.string s, .int .i64 ((a : Int) + (k : Int))] _ _ from HC.out _) | exact quiet_add_left (show Calls Tryz.prog 95 #[.string s, .int .i64 ((a : Int) + (k : Int))] _ _ from HC.out _)))
        go_wp2
        have hk := HK.out
        go_roundg (gk - 1)
        case measure => omega
        case rel => exact ⟨k + 1, by omega, by go_num, by first | exact HYES.out rfl | exact HYES.out trivial, below_drewN HB.out _⟩
      · have HN := Hid.in_ (HNO.out h2)
        go_wp2_with fail
        go_quiet ((go_at_call 95; first | exact quiet_left (show Calls Tryz.prog 95 #[.string s, .int .i64 ((a : Int) + (k : Int))] _ _ from HC.out _) | exact quiet_add_left (show Calls Tryz.prog 95 #[.string s, .int .i64 ((a : Int) + (k : Int))] _ _ from HC.out _)))
        go_wp2
        go_ret
        exact ⟨ret_bool HN.out.symm, below_drewN HB.out _⟩
    · have hk := HK.out
      obtain rfl : k = p.size := by omega
      have HY := Hid.in_ (fits_yes HA.out)
      go_wp2
      go_ret
      exact ⟨ret_bool HY.out.symm, HB.out⟩
def findOk (s p : ByteArray) : Bool := validCells s && (validCells p && decide (p.size ≤ s.size))
def findV (s p : ByteArray) : List Int := if findOk s p = true then placesTo (fitsB s p) s.size else []
theorem findV_len (s p : ByteArray) : (findV s p).length ≤ 8000 := by
  unfold findV
  split
  · rename_i h
    unfold findOk at h
    rw [Bool.and_eq_true] at h
    have := placesTo_len (fitsB s p) s.size
    have := (valid_size h.1).2.1
    omega
  · exact Nat.zero_le _
theorem find_cases (s p : ByteArray) :
    (validCells s = false ∧ Hid (findV s p = [])) ∨ (validCells s = true ∧ validCells p = false ∧ Hid (findV s p = [])) ∨ (validCells s = true ∧ validCells p = true ∧ s.size < p.size ∧ Hid (findV s p = [])) ∨
    (validCells s = true ∧ validCells p = true ∧ p.size ≤ s.size ∧ Hid (findV s p = placesTo (fitsB s p) s.size)) := by
  unfold Hid findV findOk
  cases validCells s
  · exact .inl ⟨rfl, rfl⟩
  cases validCells p
  · exact .inr (.inl ⟨rfl, rfl, rfl⟩)
  by_cases h : p.size ≤ s.size
  · exact .inr (.inr (.inr ⟨rfl, rfl, h, by rw [decide_eq_true h]; rfl⟩))
  · exact .inr (.inr (.inl ⟨rfl, rfl, by omega, by rw [decide_eq_false h]; rfl⟩))
set_option maxHeartbeats 1000000 in
theorem spec_l07Find (s p : ByteArray) (w : World) (h0 : 0 < s.size) (hs : s.size ≤ 1048576) (hp : p.size ≤ 1048576) :
    Calls Tryz.prog 63 #[.string s, .string p] w fun e w' => ∃ v, e = .returned v ∧ w'.ownsRow w.heap.size 2 1 v (placesTo (fitsB s p) s.size).length (I64 (placesTo (fitsB s p) s.size)) ∧ Below w.heap.size w w' := by
  obtain ⟨i0, hti, hz0, hz1, hz2⟩ := info_parts Tryz.infoI64f
  go_enter Tryz.func63, Tryz.ntmps63
  go_wp2_with fail
  go_loopg [5, 6] s.size (fun m v i wr => ∃ k : Nat, k + m = s.size ∧ i = .int .i64 k ∧ Hid (wr.ownsRow w.heap.size 2 1 v (placesTo (fitsB s p) k).length (I64 (placesTo (fitsB s p) k))) ∧ Hid (Below w.heap.size w wr))
  case atStart => exact ⟨0, by omega, rfl, World.ownsRow_lit w #[] 0 (Nat.le_refl _) (by decide) (by decide), balloc (Below.refl _ _) _⟩
  case round =>
    obtain ⟨k, hkm, rfl, HI, HB⟩ := hrel
    have HK := Hid.in_ hkm
    clear hkm
    by_cases hlt : k < s.size
    · have HL := Hid.in_ (placesTo_len (fitsB s p) k)
      go_wp2_with fail
      refine (spec_l07Fits s p k _ h0 hs hp (by omega)).mono ?_
      rintro e w2 ⟨rfl, hb2⟩
      have HO2 := Hid.in_ (own_below HI.out hb2 (Nat.le_refl _))
      have HB2 := Hid.in_ (HB.out.trans (hb2.mono HB.out.size))
      clear hb2 HI
      cases hq : fitsB s p k
      · have HN := Hid.in_ (placesTo_no hq)
        go_wp2
        have hk := HK.out
        go_roundg (gk - 1)
        case measure => omega
        case rel => exact ⟨k + 1, by omega, by go_num, by rw [HN.out]; exact HO2.out, HB2.out⟩
      · have HN := Hid.in_ (placesTo_yes hq)
        go_wp2_with (at_builtin; refine wpList_append_own _ rfl _ _ 54 rfl w.heap.size 2 i0 (.int .i64 0) 1 8 Tryz.underlying54 hti hz0 hz1 hz2 rfl (by decide) _ _ _ rfl (HO2.out.alloc _) ⟨w2.heap.size, 0, none⟩ 1 1 [.int .i64 k] rfl rfl (cell_one_new _ _ _) (fun x hx => by simp at hx; subst hx; rfl) (by have := HL.out; unfold maxLen; omega) (by have := HL.out; omega) (balloc HB2.out _).size ?_; intro v4 w4 ho4 hg4 _)
        have HB4 := Hid.in_ (bgrown (balloc HB2.out _) (HO2.out.alloc _) (Nat.le_refl _) hg4)
        have hk := HK.out
        go_roundg (gk - 1)
        case measure => omega
        case rel => exact ⟨k + 1, by omega, by go_num, by rw [HN.out, List.length_append, I64_app]; exact ho4, HB4.out⟩
    · have hk := HK.out
      obtain rfl : k = s.size := by omega
      go_wp2
      go_ret
      exact ⟨_, rfl, HI.out, HB.out⟩
set_option maxHeartbeats 1000000 in
theorem impl_findPattern (s p : ByteArray) (w : World) (hs : s.size ≤ 1048576) (hp : p.size ≤ s.size) :
    Calls Tryz.prog 59 #[.string s, .string p] w fun e w' => ∃ v, e = .returned v ∧ w'.ownsRow w.heap.size 2 1 v (placesTo (fitsB s p) s.size).length (I64 (placesTo (fitsB s p) s.size)) ∧ Below w.heap.size w w' := by
  obtain ⟨i0, hti, hz0, hz1, hz2⟩ := info_parts Tryz.infoI64f
  have hno : ¬ (s.size + s.size > 9223372036854775807) := by omega
  have hss : (s ++ s).size = s.size + s.size := ByteArray.size_append
  have HT := Hid.in_ (fun i (hi : i < s.size) => fits_twice (s := s) (p := p) hi hp)
  obtain ⟨t, ht⟩ : ∃ t, s ++ s = t := ⟨_, rfl⟩
  rw [ht] at HT hss
  rw [hss] at HT
  go_enter Tryz.func59, Tryz.ntmps59
  go_wp2_with fail
  try rw [ht]
  rw [show decide (s.size < p.size) = false from decide_eq_false (by omega)]
  clear ht
  go_loopg [6, 18] s.size (fun m v i wr => ∃ k : Nat, k + m = s.size ∧ i = .int .i64 k ∧ Hid (wr.ownsRow w.heap.size 2 1 v (placesTo (fitsB s p) k).length (I64 (placesTo (fitsB s p) k))) ∧ Hid (Below w.heap.size w wr))
  case atStart => exact ⟨0, by omega, rfl, World.ownsRow_nil _ _ _ _, Below.refl _ _⟩
  case round =>
    obtain ⟨k, hkm, rfl, HI, HB⟩ := hrel
    have HK := Hid.in_ hkm
    clear hkm
    by_cases hlt : k < s.size
    · have HL := Hid.in_ (placesTo_len (fitsB s p) k)
      have HTK := Hid.in_ (HT.out k hlt)
      go_wp2_with fail
      refine (Any.strings_HasPrefix Tryz.lays99 _ _ _).mono ?_
      rintro e w2 ⟨rfl, rfl⟩
      rw [HTK.out]
      cases hq : fitsB s p k
      · have HN := Hid.in_ (placesTo_no hq)
        go_wp2
        have hk := HK.out
        go_roundg (gk - 1)
        case measure => omega
        case rel => exact ⟨k + 1, by omega, by go_num, by rw [HN.out]; exact HI.out, HB.out⟩
      · have HN := Hid.in_ (placesTo_yes hq)
        go_wp2_with (at_builtin; refine wpList_append_own _ rfl _ _ 54 rfl w.heap.size 2 i0 (.int .i64 0) 1 8 Tryz.underlying54 hti hz0 hz1 hz2 rfl (by decide) _ _ _ rfl (HI.out.alloc _) ⟨w2.heap.size, 0, none⟩ 1 1 [.int .i64 k] rfl rfl (cell_one_new _ _ _) (fun x hx => by simp at hx; subst hx; rfl) (by have := HL.out; unfold maxLen; omega) (by have := HL.out; omega) (balloc HB.out _).size ?_; intro v4 w4 ho4 hg4 _)
        have HB4 := Hid.in_ (bgrown (balloc HB.out _) (HI.out.alloc _) (Nat.le_refl _) hg4)
        have hk := HK.out
        go_roundg (gk - 1)
        case measure => omega
        case rel => exact ⟨k + 1, by omega, by go_num, by rw [HN.out, List.length_append, I64_app]; exact ho4, HB4.out⟩
    · have hk := HK.out
      obtain rfl : k = s.size := by omega
      go_wp2
      go_ret
      exact ⟨_, rfl, HI.out, HB.out⟩
theorem impl_findPattern_long (s p : ByteArray) (w : World) (hs : s.size ≤ 1048576) (hp : s.size < p.size) (hp2 : p.size ≤ 1048576) :
    Calls Tryz.prog 59 #[.string s, .string p] w fun e w' => e = .returned (.slice none 0 0) ∧ Below w.heap.size w w' := by
  go_enter Tryz.func59, Tryz.ntmps59
  go_wp2
  go_ret
  exact ⟨rfl, Below.refl _ _⟩
set_option maxHeartbeats 1000000 in
theorem impl_FindPattern (s p : ByteArray) (w : World) (hs : s.size ≤ 1048576) (hp : p.size ≤ 1048576) :
    Calls Tryz.prog 32 #[.string s, .string p] w fun e w' => ∃ v, e = .returned v ∧ w'.ownsRow w.heap.size 2 1 v (findV s p).length (I64 (findV s p)) ∧ Below w.heap.size w w' := by
  have HC1 := Hid.in_ (impl_ValidCells s w (by omega))
  have HC2 := Hid.in_ (fun w => impl_ValidCells p w (by omega))
  obtain ⟨h1, HV⟩ | ⟨h1, h2, HV⟩ | ⟨h1, h2, h3, HV⟩ | ⟨h1, h2, h3, HV⟩ := find_cases s p
  all_goals rw [h1] at HC1
  · go_enter Tryz.func32, Tryz.ntmps32
    go_wp2_with fail
    refine HC1.out.mono ?_
    rintro e w1 ⟨rfl, hb1⟩
    go_wp2
    go_ret
    rw [HV.out]
    exact ⟨_, rfl, World.ownsRow_nil _ _ _ _, hb1⟩
  · rw [h2] at HC2
    go_enter Tryz.func32, Tryz.ntmps32
    go_wp2_with fail
    refine HC1.out.mono ?_
    rintro e w1 ⟨rfl, hb1⟩
    go_wp2_with fail
    refine (HC2.out _).mono ?_
    rintro e w2 ⟨rfl, hb2⟩
    have hb := bstep hb1 hb2
    go_wp2
    go_ret
    rw [HV.out]
    exact ⟨_, rfl, World.ownsRow_nil _ _ _ _, hb⟩
  · rw [h2] at HC2
    go_enter Tryz.func32, Tryz.ntmps32
    go_wp2_with fail
    refine HC1.out.mono ?_
    rintro e w1 ⟨rfl, hb1⟩
    go_wp2_with fail
    refine (HC2.out _).mono ?_
    rintro e w2 ⟨rfl, hb2⟩
    have hb := bstep hb1 hb2
    go_wp2_with fail
    refine (impl_findPattern_long s p _ hs h3 hp).mono ?_
    rintro e w3 ⟨rfl, hb3⟩
    have hb := bstep hb hb3
    go_wp2
    go_ret
    rw [HV.out]
    exact ⟨_, rfl, World.ownsRow_nil _ _ _ _, hb⟩
  · rw [h2] at HC2
    go_enter Tryz.func32, Tryz.ntmps32
    go_wp2_with fail
    refine HC1.out.mono ?_
    rintro e w1 ⟨rfl, hb1⟩
    go_wp2_with fail
    refine (HC2.out _).mono ?_
    rintro e w2 ⟨rfl, hb2⟩
    have hb := bstep hb1 hb2
    go_wp2_with fail
    refine (impl_findPattern s p _ hs h3).mono ?_
    rintro e w3 ⟨v3, rfl, ho3, hb3⟩
    have ho := own_base ho3 hb.size
    have hb := bstep hb hb3
    go_wp2
    go_ret
    rw [HV.out]
    exact ⟨_, rfl, ho, hb⟩
end Go.Proofs.YtlelgpknkgjaeaaGreatDoor

/- The marks of a track, plain law: lists with different places, put in order, are one list. No program in sight but for the imports. -/
namespace Go.Proofs.YtlelgpknkgjaeaaGreatDoor
set_option linter.unusedSimpArgs false
set_option linter.unusedVariables false
set_option maxRecDepth 4000

def putM : List MarkR → MarkR → List MarkR
  | [], m => [m]
  | x :: l, m => if x.a < m.a then x :: putM l m else m :: x :: l
def insM (l : List MarkR) : List MarkR := l.foldl putM []
theorem putM_perm : ∀ (l : List MarkR) (m : MarkR), (putM l m).Perm (m :: l)
  | [], m => .refl _
  | x :: l, m => by
    unfold putM
    split
    · exact ((putM_perm l m).cons x).trans (.swap m x l)
    · exact .refl _
theorem insM_perm_aux : ∀ (l acc : List MarkR), (l.foldl putM acc).Perm (l ++ acc)
  | [], acc => .refl _
  | m :: l, acc => by
    show (l.foldl putM (putM acc m)).Perm _
    refine (insM_perm_aux l (putM acc m)).trans ?_
    refine ((putM_perm acc m).append_left l).trans ?_
    exact List.perm_middle
theorem insM_perm (l : List MarkR) : (insM l).Perm l := by
  have := insM_perm_aux l []
  rw [List.append_nil] at this
  exact this
theorem putM_sorted : ∀ (l : List MarkR) (m : MarkR), l.Pairwise (fun x y => x.a ≤ y.a) → (putM l m).Pairwise (fun x y => x.a ≤ y.a)
  | [], m, _ => by simp [putM]
  | x :: l, m, h => by
    obtain ⟨h1, h2⟩ := List.pairwise_cons.1 h
    unfold putM
    split
    · rename_i hlt
      refine List.pairwise_cons.2 ⟨fun y hy => ?_, putM_sorted l m h2⟩
      rcases List.mem_cons.1 ((putM_perm l m).mem_iff.1 hy) with rfl | hy
      · omega
      · exact h1 y hy
    · rename_i hge
      refine List.pairwise_cons.2 ⟨fun y hy => ?_, h⟩
      rcases List.mem_cons.1 hy with rfl | hy
      · omega
      · have := h1 y hy; omega
theorem insM_sorted_aux : ∀ (l acc : List MarkR), acc.Pairwise (fun x y => x.a ≤ y.a) → (l.foldl putM acc).Pairwise (fun x y => x.a ≤ y.a)
  | [], acc, h => h
  | m :: l, acc, h => insM_sorted_aux l (putM acc m) (putM_sorted acc m h)
theorem insM_sorted (l : List MarkR) : (insM l).Pairwise (fun x y => x.a ≤ y.a) := insM_sorted_aux l [] .nil
theorem sorted_eq : ∀ (m l : List MarkR), l.Perm m → l.Pairwise (fun x y => x.a ≤ y.a) → m.Pairwise (fun x y => x.a < y.a) → l = m
  | [], l, h, _, _ => h.eq_nil
  | x :: m, [], h, _, _ => h.symm.eq_nil.symm
  | x :: m, y :: l, h, hl, hm => by
    obtain ⟨l1, l2⟩ := List.pairwise_cons.1 hl
    obtain ⟨m1, m2⟩ := List.pairwise_cons.1 hm
    have hxy : y = x := by
      rcases List.mem_cons.1 (h.mem_iff.1 (List.mem_cons_self)) with e | hy
      · exact e
      · rcases List.mem_cons.1 (h.mem_iff.2 (List.mem_cons_self)) with e | hx
        · exact e.symm
        · have a := m1 y hy
          have b := l1 x hx
          omega
    subst hxy
    rw [sorted_eq m l h.cons_inv l2 m2]
theorem strict_of {l : List MarkR} (h : l.Pairwise (fun x y => x.a ≤ y.a)) (hd : l.Pairwise (fun x y => x.a ≠ y.a)) : l.Pairwise (fun x y => x.a < y.a) := by
  refine (h.and hd).imp ?_
  rintro x y ⟨a, b⟩
  omega
theorem insM_eq {l d : List MarkR} (hp : d.Perm l) (hs : d.Pairwise (fun x y => x.a ≤ y.a)) (hd : l.Pairwise (fun x y => x.a ≠ y.a)) : d = insM l := by
  have hd2 : (insM l).Pairwise (fun x y => x.a ≠ y.a) := ((insM_perm l).pairwise_iff (fun h => Ne.symm h)).2 hd
  exact sorted_eq _ _ (hp.trans (insM_perm l).symm) hs (strict_of (insM_sorted l) hd2)
theorem insM_len (l : List MarkR) : (insM l).length = l.length := (insM_perm l).length_eq

/- FM, MFM -/
def patM (f k : Int) : ByteArray := markCS f (markByte f k).toNat
def mkAt (n : Nat) (p : ByteArray) (k a : Int) : MarkR := ⟨k, a, (a + p.size) % n⟩
def kindTo (s p : ByteArray) (k : Int) (j : Nat) : List MarkR := ((placesTo (fitsB s p) s.size).take j).map (mkAt s.size p k)
def kindL (s p : ByteArray) (k : Int) : List MarkR := if p.size ≤ s.size then (placesTo (fitsB s p) s.size).map (mkAt s.size p k) else []
theorem kindTo_all {s p : ByteArray} {k : Int} {j : Nat} (h : p.size ≤ s.size) (hj : (placesTo (fitsB s p) s.size).length ≤ j) : kindTo s p k j = kindL s p k := by
  unfold kindTo kindL; rw [if_pos h, List.take_of_length_le hj]
theorem kindL_long {s p : ByteArray} {k : Int} (h : s.size < p.size) : kindL s p k = [] := if_neg (by omega)
theorem kindTo_succ {s p : ByteArray} {k : Int} {j : Nat} {x : Int} (h : (placesTo (fitsB s p) s.size)[j]? = some x) : kindTo s p k (j + 1) = kindTo s p k j ++ [mkAt s.size p k x] := by
  unfold kindTo; rw [List.take_add_one, h, List.map_append]; rfl
def rawM (s : ByteArray) (f : Int) : List MarkR := kindL s (patM f 1) 1 ++ kindL s (patM f 2) 2 ++ kindL s (patM f 3) 3
theorem placesTo_mem {q : Nat → Bool} : ∀ {k : Nat} {x : Int}, x ∈ placesTo q k → ∃ j : Nat, x = j ∧ j < k ∧ q j = true
  | 0, x, h => by cases h
  | k + 1, x, h => by
    rcases List.mem_append.1 h with h | h
    · obtain ⟨j, a, b, c⟩ := placesTo_mem h
      exact ⟨j, a, by omega, c⟩
    · by_cases hq : q k = true
      · rw [if_pos hq, List.mem_singleton] at h
        exact ⟨k, h, by omega, hq⟩
      · rw [if_neg hq] at h; cases h
theorem placesTo_pair (q : Nat → Bool) : ∀ k : Nat, (placesTo q k).Pairwise (fun x y => x < y)
  | 0 => .nil
  | k + 1 => by
    refine List.pairwise_append.2 ⟨placesTo_pair q k, ?_, fun x hx y hy => ?_⟩
    · split
      · exact List.pairwise_singleton _ _
      · exact .nil
    · obtain ⟨j, rfl, hj, _⟩ := placesTo_mem hx
      by_cases hq : q k = true
      · rw [if_pos hq, List.mem_singleton] at hy; omega
      · rw [if_neg hq] at hy; cases hy
theorem kindL_mem {s p : ByteArray} {k : Int} {m : MarkR} (h : m ∈ kindL s p k) : ∃ j : Nat, m = mkAt s.size p k j ∧ j < s.size ∧ fitsB s p j = true := by
  unfold kindL at h
  split at h
  · obtain ⟨x, hx, rfl⟩ := List.mem_map.1 h
    obtain ⟨j, rfl, a, b⟩ := placesTo_mem hx
    exact ⟨j, rfl, a, b⟩
  · cases h
theorem kindL_pair (s p : ByteArray) (k : Int) : (kindL s p k).Pairwise (fun x y => x.a < y.a) := by
  unfold kindL
  split
  · refine List.pairwise_map.2 ((placesTo_pair _ _).imp ?_)
    intro x y h; exact h
  · exact .nil
theorem fits_one {s p q : ByteArray} {j : Nat} (hp : fitsB s p j = true) (hq : fitsB s q j = true) (hs : p.size = q.size) : p.data.toList = q.data.toList := by
  have a := of_decide_eq_true hp
  have b := of_decide_eq_true hq
  rw [← a, ← b, hs]
theorem kinds_apart {s p q : ByteArray} {i k : Int} (hs : p.size = q.size) (hne : p.data.toList ≠ q.data.toList) : ∀ x ∈ kindL s p i, ∀ y ∈ kindL s q k, x.a ≠ y.a := by
  intro x hx y hy e
  obtain ⟨j, rfl, _, a⟩ := kindL_mem hx
  obtain ⟨l, rfl, _, b⟩ := kindL_mem hy
  have : (j : Int) = l := e
  obtain rfl : j = l := by omega
  exact hne (fits_one a b hs)
def patFacts (f : Int) : Bool := let a := patM f 1; let b := patM f 2; let c := patM f 3
  decide (a.size = b.size) && decide (b.size = c.size) && decide (a.size ≤ 64) && !(a.data.toList == b.data.toList) && !(a.data.toList == c.data.toList) && !(b.data.toList == c.data.toList)
theorem patFacts_all : patFacts 1 = true ∧ patFacts 2 = true ∧ patFacts 3 = true := by decide +kernel
theorem pat_facts {f : Int} (h : inB f 1 3 = true) : (patM f 1).size = (patM f 2).size ∧ (patM f 2).size = (patM f 3).size ∧ (patM f 1).size ≤ 64 ∧ (patM f 1).data.toList ≠ (patM f 2).data.toList ∧ (patM f 1).data.toList ≠ (patM f 3).data.toList ∧ (patM f 2).data.toList ≠ (patM f 3).data.toList := by
  have hf : patFacts f = true := by
    have : f = 1 ∨ f = 2 ∨ f = 3 := by
      have := inB_t h
      omega
    rcases this with rfl | rfl | rfl
    · exact patFacts_all.1
    · exact patFacts_all.2.1
    · exact patFacts_all.2.2
  unfold patFacts at hf
  simp only [Bool.and_eq_true, decide_eq_true_eq, Bool.not_eq_true', beq_eq_false_iff_ne, ne_eq] at hf
  obtain ⟨⟨⟨⟨⟨a, b⟩, c⟩, d⟩, e⟩, g⟩ := hf
  exact ⟨a, b, c, d, e, g⟩
theorem rawM_apart {s : ByteArray} {f : Int} (h : inB f 1 3 = true) : (rawM s f).Pairwise (fun x y => x.a ≠ y.a) := by
  obtain ⟨h12, h23, _, n12, n13, n23⟩ := pat_facts h
  have P := fun p k => (kindL_pair s p k).imp (S := fun x y => x.a ≠ y.a) (fun hh => by omega)
  unfold rawM
  refine List.pairwise_append.2 ⟨List.pairwise_append.2 ⟨P _ _, P _ _, kinds_apart h12 n12⟩, P _ _, ?_⟩
  intro x hx y hy
  rcases List.mem_append.1 hx with hx | hx
  · exact kinds_apart (h12.trans h23) n13 x hx y hy
  · exact kinds_apart h23 n23 x hx y hy
theorem rawM_len (s : ByteArray) (f : Int) : (rawM s f).length ≤ s.size * 3 := by
  have h : ∀ p k, (kindL s p k).length ≤ s.size := by
    intro p k; unfold kindL; split
    · rw [List.length_map]; exact placesTo_len _ _
    · exact Nat.zero_le _
  unfold rawM
  rw [List.length_append, List.length_append]
  have := h (patM f 1) 1; have := h (patM f 2) 2; have := h (patM f 3) 3
  omega

/- the group code -/
def codeG (k : Int) : ByteArray := encode (oneB (9 - k).toNat)
def endG (r : RunR) : Nat := (r.a + r.c).toNat
def hitG (s : ByteArray) (r : RunR) (k : Int) : Bool := fitsB s (codeG k) (endG r)
def gcrOne (s : ByteArray) (r : RunR) (k : Int) : List MarkR := if hitG s r k = true then [⟨k, r.a, ((endG r : Nat) + 10) % s.size⟩] else []
def gcrAt (s : ByteArray) (r : RunR) : List MarkR := gcrOne s r 1 ++ gcrOne s r 2 ++ gcrOne s r 3
def gcrI (s : ByteArray) : List MarkR := (syncV s).flatMap (gcrAt s)
def gcrK (s : ByteArray) (k : Int) : List MarkR := (syncTo s s.size).flatMap (fun r => gcrOne s r k)
def gcrM (s : ByteArray) : List MarkR := gcrK s 1 ++ gcrK s 2 ++ gcrK s 3
def codeFacts : Bool := decide ((codeG 1).size = 10) && decide ((codeG 2).size = 10) && decide ((codeG 3).size = 10) && !((codeG 1).data.toList == (codeG 2).data.toList) && !((codeG 1).data.toList == (codeG 3).data.toList) && !((codeG 2).data.toList == (codeG 3).data.toList) && (codeG 1).data.toList.contains 48 && (codeG 2).data.toList.contains 48 && (codeG 3).data.toList.contains 48
theorem codeFacts_all : codeFacts = true := by decide +kernel
theorem code_facts : (∀ k : Int, (k = 1 ∨ k = 2 ∨ k = 3) → (codeG k).size = 10 ∧ 48 ∈ (codeG k).data.toList) ∧ (codeG 1).data.toList ≠ (codeG 2).data.toList ∧ (codeG 1).data.toList ≠ (codeG 3).data.toList ∧ (codeG 2).data.toList ≠ (codeG 3).data.toList := by
  have hf := codeFacts_all
  unfold codeFacts at hf
  simp only [Bool.and_eq_true, decide_eq_true_eq, Bool.not_eq_true', beq_eq_false_iff_ne, ne_eq, List.contains_iff_mem] at hf
  obtain ⟨⟨⟨⟨⟨⟨⟨⟨a, b⟩, c⟩, d⟩, e⟩, g⟩, x⟩, y⟩, z⟩ := hf
  refine ⟨?_, d, e, g⟩
  rintro k (rfl | rfl | rfl)
  · exact ⟨a, x⟩
  · exact ⟨b, y⟩
  · exact ⟨c, z⟩
theorem ones_no_hit {s : ByteArray} {r : RunR} {k : Int} (ho : allOnes s = true) (h0 : 0 < s.size) (hk : k = 1 ∨ k = 2 ∨ k = 3) : hitG s r k = false := by
  obtain ⟨hs, hm⟩ := code_facts.1 k hk
  refine decide_eq_false fun e => ?_
  obtain ⟨i, hi, hx⟩ := List.getElem_of_mem hm
  have hi' : i < (codeG k).size := by rw [← Array.size_eq_length_toList] at hi; exact hi
  have h1 := sliceL_get (s := s) (a := endG r) (n := (codeG k).size) hi'
  rw [e, List.getElem?_eq_getElem hi, hx, ones_at ho (Nat.mod_lt _ h0)] at h1
  cases h1
theorem gcrOne_no {s : ByteArray} {r : RunR} {k : Int} (h : hitG s r k = false) : gcrOne s r k = [] := by unfold gcrOne; rw [if_neg (by rw [h]; decide)]
theorem gcrOne_yes {s : ByteArray} {r : RunR} {k : Int} (h : hitG s r k = true) : gcrOne s r k = [⟨k, r.a, ((endG r : Nat) + 10) % s.size⟩] := if_pos h
theorem gcr_apart {s : ByteArray} {r : RunR} {i k : Int} (hi : i = 1 ∨ i = 2 ∨ i = 3) (hk : k = 1 ∨ k = 2 ∨ k = 3) (hne : (codeG i).data.toList ≠ (codeG k).data.toList) (h : hitG s r i = true) : hitG s r k = false := by
  cases h2 : hitG s r k
  · rfl
  · exact absurd (fits_one h h2 ((code_facts.1 i hi).1.trans (code_facts.1 k hk).1.symm)) hne
theorem gcrAt_len (s : ByteArray) (r : RunR) : gcrAt s r = [] ∨ ∃ m : MarkR, gcrAt s r = [m] ∧ m.a = r.a := by
  have n := code_facts.2
  unfold gcrAt
  cases h1 : hitG s r 1
  · rw [gcrOne_no h1]
    cases h2 : hitG s r 2
    · rw [gcrOne_no h2]
      cases h3 : hitG s r 3
      · rw [gcrOne_no h3]; exact .inl rfl
      · rw [gcrOne_yes h3]; exact .inr ⟨_, rfl, rfl⟩
    · rw [gcrOne_yes h2, gcrOne_no (gcr_apart (.inr (.inl rfl)) (.inr (.inr rfl)) n.2.2 h2)]; exact .inr ⟨_, rfl, rfl⟩
  · rw [gcrOne_yes h1, gcrOne_no (gcr_apart (.inl rfl) (.inr (.inl rfl)) n.1 h1), gcrOne_no (gcr_apart (.inl rfl) (.inr (.inr rfl)) n.2.1 h1)]; exact .inr ⟨_, rfl, rfl⟩
theorem gcr_flat_pair (s : ByteArray) : ∀ L : List RunR, L.Pairwise (fun x y => x.a < y.a) → (L.flatMap (gcrAt s)).Pairwise (fun x y => x.a < y.a) ∧ ∀ m ∈ L.flatMap (gcrAt s), ∃ r ∈ L, m.a = r.a
  | [], _ => ⟨.nil, fun m h => by cases h⟩
  | r :: L, h => by
    obtain ⟨h1, h2⟩ := List.pairwise_cons.1 h
    obtain ⟨i1, i2⟩ := gcr_flat_pair s L h2
    rw [List.flatMap_cons]
    rcases gcrAt_len s r with e | ⟨m, e, ha⟩
    · rw [e]
      exact ⟨i1, fun m hm => let ⟨q, hq, hx⟩ := i2 m hm; ⟨q, List.mem_cons_of_mem _ hq, hx⟩⟩
    · rw [e]
      refine ⟨List.pairwise_cons.2 ⟨fun y hy => ?_, i1⟩, fun y hy => ?_⟩
      · obtain ⟨q, hq, hx⟩ := i2 y hy
        rw [ha, hx]; exact h1 q hq
      · rcases List.mem_cons.1 hy with rfl | hy
        · exact ⟨r, List.mem_cons_self, ha⟩
        · obtain ⟨q, hq, hx⟩ := i2 y hy
          exact ⟨q, List.mem_cons_of_mem _ hq, hx⟩
theorem syncTo_mem {s : ByteArray} : ∀ {k : Nat} {r : RunR}, r ∈ syncTo s k → ∃ j : Nat, r = ⟨(j : Int), (cnt s j : Nat)⟩ ∧ j < k ∧ syncAt s j = true
  | 0, r, h => by cases h
  | k + 1, r, h => by
    rcases List.mem_append.1 h with h | h
    · obtain ⟨j, a, b, c⟩ := syncTo_mem h
      exact ⟨j, a, by omega, c⟩
    · by_cases hq : syncAt s k = true
      · rw [if_pos hq, List.mem_singleton] at h
        exact ⟨k, h, by omega, hq⟩
      · rw [if_neg hq] at h; cases h
theorem syncTo_pair (s : ByteArray) : ∀ k : Nat, (syncTo s k).Pairwise (fun x y => x.a < y.a)
  | 0 => .nil
  | k + 1 => by
    refine List.pairwise_append.2 ⟨syncTo_pair s k, ?_, fun x hx y hy => ?_⟩
    · split
      · exact List.pairwise_singleton _ _
      · exact .nil
    · obtain ⟨j, rfl, hj, _⟩ := syncTo_mem hx
      by_cases hq : syncAt s k = true
      · rw [if_pos hq, List.mem_singleton] at hy; subst hy; show (j : Int) < k; omega
      · rw [if_neg hq] at hy; cases hy
theorem perm4 (a A b B : List MarkR) : ((a ++ A) ++ (b ++ B)).Perm ((a ++ b) ++ (A ++ B)) := by
  rw [List.append_assoc, List.append_assoc]
  refine List.Perm.append_left a ?_
  rw [← List.append_assoc, ← List.append_assoc]
  exact (List.perm_append_comm).append_right B
theorem gcr_perm (s : ByteArray) : ∀ L : List RunR, ((L.flatMap (fun r => gcrOne s r 1) ++ L.flatMap (fun r => gcrOne s r 2)) ++ L.flatMap (fun r => gcrOne s r 3)).Perm (L.flatMap (gcrAt s))
  | [] => .refl _
  | r :: L => by
    rw [List.flatMap_cons, List.flatMap_cons, List.flatMap_cons, List.flatMap_cons]
    refine ((perm4 _ _ _ _).append_right _).trans ?_
    refine (perm4 _ _ _ _).trans ?_
    exact (gcr_perm s L).append_left _
theorem gcr_eq {s : ByteArray} (hv : validCells s = true) : gcrI s = insM (gcrM s) := by
  obtain ⟨v1, v2, v3⟩ := valid_size hv
  cases ho : allOnes s
  · have hV : syncV s = syncTo s s.size := by unfold syncV; rw [hv, ho]; rfl
    have hP := (gcr_flat_pair s _ (syncTo_pair s s.size)).1
    have h2 := gcr_perm s (syncTo s s.size)
    have hI : gcrI s = (syncTo s s.size).flatMap (gcrAt s) := by unfold gcrI; rw [hV]
    rw [hI]
    refine insM_eq h2.symm (hP.imp Int.le_of_lt) ?_
    exact (h2.pairwise_iff (fun h => Ne.symm h)).2 (hP.imp Int.ne_of_lt)
  · have hS : gcrM s = [] := by unfold gcrM gcrK; rw [ones_none ho s.size (Nat.le_refl _)]; rfl
    have hI : gcrI s = [] := by
      have hn : ∀ r, gcrAt s r = [] := fun r => by
        unfold gcrAt
        rw [gcrOne_no (ones_no_hit ho v1 (.inl rfl)), gcrOne_no (ones_no_hit ho v1 (.inr (.inl rfl))), gcrOne_no (ones_no_hit ho v1 (.inr (.inr rfl)))]; rfl
      unfold gcrI
      rw [List.flatMap_eq_nil_iff]
      exact fun r _ => hn r
    rw [hS, hI]; rfl
/- both -/
def marksV (s : ByteArray) (f : Int) : List MarkR := insM (if f = 3 then gcrM s else rawM s f)
theorem gcrM_len {s : ByteArray} (hv : validCells s = true) : (gcrM s).length ≤ 8000 := by
  have e : (gcrM s).length = (gcrI s).length := by rw [gcr_eq hv, insM_len]
  have h : ∀ L : List RunR, (L.flatMap (gcrAt s)).length ≤ L.length := by
    intro L
    induction L with
    | nil => exact Nat.le_refl _
    | cons r L ih =>
      rw [List.flatMap_cons, List.length_append, List.length_cons]
      rcases gcrAt_len s r with e | ⟨m, e, _⟩ <;> rw [e] <;> simp only [List.length_nil, List.length_singleton] <;> omega
  rw [e]
  exact Nat.le_trans (h _) (syncV_len s)
theorem marksV_len {s : ByteArray} {f : Int} (hv : validCells s = true) : (marksV s f).length ≤ 24000 := by
  obtain ⟨v1, v2, v3⟩ := valid_size hv
  unfold marksV
  rw [insM_len]
  split
  · have := gcrM_len hv; omega
  · have := rawM_len s f; omega
/- what FindMarks returns -/
def fmOk (s : ByteArray) (f : Int) : Bool := validCells s && inB f 1 3
def fmCode (s : ByteArray) (f : Int) : Int := if fmOk s f = true then (if (marksV s f).length ≤ 64 then 0 else 5) else 1
def fmVal (s : ByteArray) (f : Int) : List MarkR := if fmOk s f = true then (if (marksV s f).length ≤ 64 then marksV s f else []) else []
theorem fm_bad {s : ByteArray} {f : Int} (h : fmOk s f = false) : fmCode s f = 1 ∧ fmVal s f = [] := by
  unfold fmCode fmVal; rw [h]; exact ⟨rfl, rfl⟩
theorem fm_full {s : ByteArray} {f : Int} (h : fmOk s f = true) (h2 : ¬ (marksV s f).length ≤ 64) : fmCode s f = 5 ∧ fmVal s f = [] := by
  unfold fmCode fmVal; rw [if_pos h, if_pos h, if_neg h2, if_neg h2]; exact ⟨rfl, rfl⟩
theorem fm_good {s : ByteArray} {f : Int} (h : fmOk s f = true) (h2 : (marksV s f).length ≤ 64) : fmCode s f = 0 ∧ fmVal s f = marksV s f := by
  unfold fmCode fmVal; rw [if_pos h, if_pos h, if_pos h2, if_pos h2]; exact ⟨rfl, rfl⟩
theorem fmVal_len (s : ByteArray) (f : Int) : (fmVal s f).length ≤ 64 := by
  unfold fmVal
  split
  · split
    · assumption
    · exact Nat.zero_le _
  · exact Nat.zero_le _
end Go.Proofs.YtlelgpknkgjaeaaGreatDoor

/- 'slices.SortFunc' over marks, by their places: what the row holds behind it. -/
namespace Go.Proofs.YtlelgpknkgjaeaaGreatDoor
open Go.ChangeShapes Go.WideShapes Go.ChangeAt Go.RowKit Go.Shelf
open Go.Sort (SWO PermIn SortedIn putCells mapBlock onCells)
set_option linter.unusedSimpArgs false
set_option linter.unusedVariables false
set_option maxRecDepth 4000

instance : Inhabited MarkR := ⟨⟨0, 0, 0⟩⟩
def cmpM (x y : MarkR) : Int := Lib.compareInt x.a y.a
theorem lt_M (x y : MarkR) : ltOf cmpM x y = decide (x.a < y.a) := by
  unfold ltOf cmpM Lib.compareInt
  by_cases h1 : x.a < y.a
  · simp [h1]
  · by_cases h2 : y.a < x.a <;> simp [h1, h2]
theorem swo_M : SWO (ltOf cmpM) where
  irrefl x := by rw [lt_M]; simp
  trans x y z h1 h2 := by rw [lt_M] at *; simp at *; omega
  ntrans x y z h1 h2 := by rw [lt_M] at *; simp at *; omega

set_option maxHeartbeats 1000000 in
theorem closureM (x y : MarkR) (W : World) : Calls Tryz.prog 69 #[.agg #[.int .i64 x.k, .int .i64 x.a, .int .i64 x.b], .agg #[.int .i64 y.k, .int .i64 y.a, .int .i64 y.b]] W fun e w' => e = .returned (.int .i64 (cmpM x y)) ∧ ∃ q os', w' = Go.Sort.grow (W.drewN q) os' := by
  have hcon := fun W' => AnyG.cmp_Compare_int Tryz.cmpI64 x.a y.a W'
  change ∀ W', Calls Tryz.prog 70 _ _ _ at hcon
  have hC := Hid.in_ hcon
  unfold cmpM
  generalize Lib.compareInt x.a y.a = r at hC ⊢
  clear hcon
  go_enter Tryz.func69, Tryz.ntmps69
  go_wp2_with (go_at_call 70; refine (hC.out _).mono ?_; rintro e w' ⟨rfl, rfl⟩)
  go_ret
  exact ⟨rfl, 0, _, by rw [Go.Sort.alloc_eq_grow, Go.Sort.alloc_eq_grow, Go.Sort.grow_grow]; rfl⟩

theorem sort_marks {b g cap n : Nat} {d : List MarkR} (w : World) (h : w.ownsRow b 51 3 (.slice (some ⟨g, 0, none⟩) n cap) n (d.flatMap MarkR.cells)) (hn : n ≤ 100000) :
    Calls Tryz.prog 68 #[.slice (some ⟨g, 0, none⟩) n cap, .func (.func 69) #[] #[]] w fun e w' => e = .returned (.tuple #[]) ∧ ∃ d' : List MarkR, d'.Perm d ∧ d'.Pairwise (fun x y => x.a ≤ y.a) ∧ w'.ownsRow b 51 3 (.slice (some ⟨g, 0, none⟩) n cap) n (d'.flatMap MarkR.cells) ∧ Below b w w' := by
  have eg : ∀ args w, (callFunc 69 args).run Tryz.prog w = .ok (.enter 69 args) w := enters_of Tryz.func69 (by kernel_rfl) rfl
  have hlx : d.length = n := by have := h.1; rw [flat_len MarkR.len] at this; omega
  have hC : ∀ blk off size w, CmpLays Tryz.prog 69 #[] MarkR.cells 3 cmpM blk off size w := fun _ _ _ _ _ _ _ _ x y => closureM x y _
  have hcon := AnyQ.slices_SortFunc Tryz.sortMk 3 Tryz.isAgg51 Tryz.sizeOf51 MarkR.cells MarkR.len (fun x v hv => by simp [MarkR.cells] at hv; rcases hv with rfl | rfl | rfl <;> rfl) cmpM swo_M 69 #[] g 0 cap d.toArray w eg (hC _ _ _ _) (holds_own MarkR.len (by decide) h) ((h.lt g rfl).2) (by rw [List.size_toArray]; omega)
  change Calls Tryz.prog 68 _ _ _ at hcon
  rw [List.size_toArray, hlx] at hcon
  refine hcon.mono ?_
  rintro e w' ⟨he, d', m, os, hp, hs, rfl⟩
  obtain ⟨p1, _, p3⟩ := hp
  have hsz : d'.size = n := by rw [p1, List.size_toArray, hlx]
  have ex : ∀ a : Array MarkR, a.size = n → (a.extract 0 n).toList = a.toList := fun a ha => by rw [← ha]; simp
  rw [ex d' hsz, ex d.toArray (by rw [List.size_toArray, hlx])] at p3
  obtain ⟨hO, hB⟩ := own_sorted MarkR.len (by decide) h (d' := d'.toList) (by rw [Array.length_toList, hsz, hlx]) m os
  refine ⟨he, d'.toList, p3, ?_, hO, hB⟩
  rw [List.pairwise_iff_getElem]
  intro i j hi hj hij
  rw [Array.length_toList] at hi hj
  have := hs i j (Nat.zero_le _) hij (by rw [← hsz]; exact hj)
  rw [lt_M, getElem!_pos d' i hi, getElem!_pos d' j hj] at this
  have := of_decide_eq_false this
  rw [Array.getElem_toList, Array.getElem_toList]
  omega
theorem sort_none (A : Option Addr) (c : Nat) (fv : Value) (w : World) :
    Calls Tryz.prog 68 #[.slice A 0 c, fv] w fun e w' => e = .returned (.tuple #[]) ∧ w' = w := by
  have h := AnyF.slices_SortFunc_none Tryz.sortMk A c fv w
  change Calls Tryz.prog 68 _ _ _ at h
  exact h
end Go.Proofs.YtlelgpknkgjaeaaGreatDoor

/- The marks that are found are marks of the track: in order, within the track. No program in sight but for the imports. -/
namespace Go.Proofs.YtlelgpknkgjaeaaGreatDoor
set_option linter.unusedSimpArgs false
set_option linter.unusedVariables false

theorem gcrM_apart (s : ByteArray) : (gcrM s).Pairwise (fun x y => x.a ≠ y.a) :=
  ((gcr_perm s (syncTo s s.size)).pairwise_iff (fun h => Ne.symm h)).2 ((gcr_flat_pair s _ (syncTo_pair s s.size)).1.imp Int.ne_of_lt)
theorem marksV_strict {s : ByteArray} {f : Int} (hf : inB f 1 3 = true) : (marksV s f).Pairwise (fun x y => x.a < y.a) := by
  have hd : (if f = 3 then gcrM s else rawM s f).Pairwise (fun x y => x.a ≠ y.a) := by
    split
    · exact gcrM_apart s
    · exact rawM_apart hf
  exact strict_of (insM_sorted _) (((insM_perm _).pairwise_iff (fun h => Ne.symm h)).2 hd)
theorem gcrK_mem {s : ByteArray} {k : Int} {m : MarkR} (h0 : 0 < s.size) (h : m ∈ gcrK s k) : m.k = k ∧ 0 ≤ m.a ∧ m.a < s.size ∧ 0 ≤ m.b ∧ m.b < s.size := by
  unfold gcrK at h
  obtain ⟨r, hr, hm⟩ := List.mem_flatMap.1 h
  obtain ⟨j, rfl, hj, _⟩ := syncTo_mem hr
  unfold gcrOne at hm
  split at hm
  · rw [List.mem_singleton] at hm
    subst hm
    exact ⟨rfl, by show (0 : Int) ≤ (j : Int); omega, by show (j : Int) < _; omega, Int.emod_nonneg _ (by omega), Int.emod_lt_of_pos _ (by omega)⟩
  · cases hm
theorem kindL_mem2 {s p : ByteArray} {k : Int} {m : MarkR} (h0 : 0 < s.size) (h : m ∈ kindL s p k) : m.k = k ∧ 0 ≤ m.a ∧ m.a < s.size ∧ 0 ≤ m.b ∧ m.b < s.size := by
  obtain ⟨j, rfl, hj, _⟩ := kindL_mem h
  exact ⟨rfl, by show (0 : Int) ≤ (j : Int); omega, by show (j : Int) < _; omega, Int.emod_nonneg _ (by omega), Int.emod_lt_of_pos _ (by omega)⟩
theorem marksV_mem {s : ByteArray} {f : Int} {m : MarkR} (h0 : 0 < s.size) (h : m ∈ marksV s f) : 1 ≤ m.k ∧ m.k ≤ 3 ∧ 0 ≤ m.a ∧ m.a < s.size ∧ 0 ≤ m.b ∧ m.b < s.size := by
  unfold marksV at h
  have h := (insM_perm _).mem_iff.1 h
  have key : ∃ k : Int, 1 ≤ k ∧ k ≤ 3 ∧ (m.k = k ∧ 0 ≤ m.a ∧ m.a < s.size ∧ 0 ≤ m.b ∧ m.b < s.size) := by
    split at h
    · unfold gcrM at h
      rcases List.mem_append.1 h with h | h
      · rcases List.mem_append.1 h with h | h
        · exact ⟨1, by omega, by omega, gcrK_mem h0 h⟩
        · exact ⟨2, by omega, by omega, gcrK_mem h0 h⟩
      · exact ⟨3, by omega, by omega, gcrK_mem h0 h⟩
    · unfold rawM at h
      rcases List.mem_append.1 h with h | h
      · rcases List.mem_append.1 h with h | h
        · exact ⟨1, by omega, by omega, kindL_mem2 h0 h⟩
        · exact ⟨2, by omega, by omega, kindL_mem2 h0 h⟩
      · exact ⟨3, by omega, by omega, kindL_mem2 h0 h⟩
  obtain ⟨k, h1, h2, rfl, h3⟩ := key
  exact ⟨h1, h2, h3⟩
theorem allTo_of {p : Nat → Bool} : ∀ {n : Nat}, (∀ k, k < n → p k = true) → allTo p n = true
  | 0, _ => rfl
  | n + 1, h => allTo_yes (allTo_of (fun k hk => h k (by omega))) (h n (by omega))
theorem marks_valid {s : ByteArray} {f : Int} (hv : validCells s = true) (hf : inB f 1 3 = true) (hl : (marksV s f).length ≤ 64) : validMarks (marksV s f) s.size = true := by
  obtain ⟨v1, v2, v3⟩ := valid_size hv
  unfold validMarks
  rw [inB_mk (by omega) (by omega), Bool.true_and, decide_eq_true hl, Bool.true_and]
  refine allTo_of fun i hi => ?_
  obtain ⟨m, hm⟩ : ∃ m, (marksV s f)[i]? = some m := ⟨_, List.getElem?_eq_getElem hi⟩
  obtain ⟨a1, a2, a3, a4, a5, a6⟩ := marksV_mem v1 (List.mem_of_getElem? hm)
  unfold markOk
  rw [hm]
  show (inB m.k 1 3 && inB m.a 0 ((s.size : Int) - 1) && inB m.b 0 ((s.size : Int) - 1) && _) = true
  rw [inB_mk a1 a2, inB_mk a3 (by omega), inB_mk a5 (by omega)]
  cases i with
  | zero => rfl
  | succ j =>
    have hj : j < (marksV s f).length := by omega
    have hp := List.pairwise_iff_getElem.1 (marksV_strict (s := s) hf) j (j + 1) hj hi (by omega)
    have e1 : (marksV s f)[j]? = some (marksV s f)[j] := List.getElem?_eq_getElem hj
    have e2 : (marksV s f)[j + 1] = m := by
      have := List.getElem?_eq_getElem hi
      rw [hm] at this
      injection this with this
      exact this.symm
    rw [e2] at hp
    show (true && true && true && (j + 1 == 0 || decide (((marksV s f)[j + 1 - 1]?.map MarkR.a).getD 0 < m.a))) = true
    rw [show j + 1 - 1 = j by omega, e1]
    show (true && true && true && (j + 1 == 0 || decide ((marksV s f)[j].a < m.a))) = true
    rw [decide_eq_true hp]
    simp
end Go.Proofs.YtlelgpknkgjaeaaGreatDoor

/- 'l07Put' of the reference: a mark is put into its place among the marks. -/
namespace Go.Proofs.YtlelgpknkgjaeaaGreatDoor
open Go.ChangeShapes Go.WideShapes Go.ChangeAt Go.RowKit
set_option linter.unusedSimpArgs false
set_option linter.unusedVariables false
set_option maxRecDepth 4000

theorem putM_stop : ∀ (l : List MarkR) (m : MarkR) (k : Nat), (∀ j x, j < k → l[j]? = some x → x.a < m.a) → (∀ x, l[k]? = some x → ¬ x.a < m.a) → putM l m = l.take k ++ m :: l.drop k
  | [], m, k, _, _ => by simp [putM]
  | x :: l, m, 0, _, h2 => by
    unfold putM
    rw [if_neg (h2 x rfl)]
    rfl
  | x :: l, m, k + 1, h1, h2 => by
    unfold putM
    rw [if_pos (h1 0 x (by omega) rfl), putM_stop l m k (fun j y hj hy => h1 (j + 1) y (by omega) hy) (fun y hy => h2 y hy)]
    rfl
theorem fresh3 {t : TypeId} (w : World) (a0 a1 a2 : Value) : BoxAt (w.alloc (.cells #[a0, a1, a2] t)) w.heap.size 0 [a0, a1, a2] := fun j u hu => by
  rw [Nat.zero_add]
  have h := World.ownsRow_lit (e := t) w #[a0, a1, a2] 1 (base := w.heap.size) (size := 3) (Nat.le_refl _) (by decide) rfl
  have := h.cells (g := w.heap.size) rfl j u hu
  rwa [addr_add, Nat.zero_add] at this
theorem one3 {l : List MarkR} : ∀ u ∈ l.flatMap MarkR.cells, u.oneCell' = true := by
  intro u hu
  obtain ⟨m, _, h⟩ := List.mem_flatMap.1 hu
  simp only [MarkR.cells, List.mem_cons, List.not_mem_nil, or_false] at h
  rcases h with rfl | rfl | rfl <;> rfl

theorem box_take {α : Type} {f : α → List Value} {size : Nat} (hf : ∀ x, (f x).length = size) {w : World} {g k : Nat} {l : List α} (h : Box w g (l.flatMap f)) : ∀ j u, ((l.take k).flatMap f)[j]? = some u → w.cell? ((⟨g, 0, none⟩ : Addr).add j) = some u := fun j u hu => by
  rw [addr_add, Nat.zero_add]
  refine h j u ?_
  have hj := (List.getElem?_eq_some_iff.1 hu).1
  have e : l.flatMap f = (l.take k).flatMap f ++ (l.drop k).flatMap f := by rw [← List.flatMap_append, List.take_append_drop]
  rw [e, List.getElem?_append_left hj]
  exact hu
theorem box_drop {α : Type} {f : α → List Value} {size : Nat} (hf : ∀ x, (f x).length = size) {w : World} {g k : Nat} {l : List α} (hk : k ≤ l.length) (h : Box w g (l.flatMap f)) : ∀ j u, ((l.drop k).flatMap f)[j]? = some u → w.cell? ((⟨g, k * size, none⟩ : Addr).add j) = some u := fun j u hu => by
  rw [addr_add]
  refine h _ u ?_
  have e : l.flatMap f = (l.take k).flatMap f ++ (l.drop k).flatMap f := by rw [← List.flatMap_append, List.take_append_drop]
  have hl : ((l.take k).flatMap f).length = k * size := by rw [flat_len hf, List.length_take, Nat.min_eq_left hk]
  rw [e, List.getElem?_append_right (by omega), hl, show k * size + j - k * size = j by omega]
  exact hu
theorem cells3m {w : World} {g : Nat} {a0 a1 a2 : Value} {t : TypeId} (hg : g = w.heap.size) : ∀ j u, ([a0, a1, a2] : List Value)[j]? = some u → (w.alloc (.cells #[a0, a1, a2] t)).cell? ((⟨g, 0, none⟩ : Addr).add j) = some u := fun j u hu => by
  subst hg
  have := fresh3 (t := t) w a0 a1 a2 j u hu
  rwa [addr_add]

set_option maxHeartbeats 2000000 in
theorem spec_l07Put {n b g cap : Nat} {l : List MarkR} (m : MarkR) (w : World) (h : w.ownsRow b 51 3 (.slice (some ⟨g, 0, none⟩) n cap) n (l.flatMap MarkR.cells)) (hn : n ≤ 100000) :
    Calls Tryz.prog 64 #[.slice (some ⟨g, 0, none⟩) n cap, .agg #[.int .i64 m.k, .int .i64 m.a, .int .i64 m.b]] w fun e w' => ∃ g' cap', e = .returned (.slice (some ⟨g', 0, none⟩) (n + 1 : Nat) cap') ∧ w'.ownsRow w.heap.size 51 3 (.slice (some ⟨g', 0, none⟩) (n + 1 : Nat) cap') (n + 1) ((putM l m).flatMap MarkR.cells) ∧ Below w.heap.size w w' := by
  have hlx : l.length = n := by have := h.1; rw [flat_len MarkR.len] at this; omega
  obtain ⟨i0, hti, hz0, hz1, hz2⟩ := info_parts Tryz.info_Mark
  have HO := Hid.in_ h
  have hcap : n ≤ cap ∧ cap ≤ 9223372036854775807 := by
    rcases h.2 with ⟨e, _⟩ | ⟨g1, cap1, cur, e, _, _, h1, h2, _⟩
    · cases e
    · injection e with _ _ e3
      obtain rfl := e3
      unfold maxLen at h2
      exact ⟨h1, by omega⟩
  have hgw : g < w.heap.size := (h.lt g rfl).2
  have HBX := Hid.in_ (show Box w g (l.flatMap MarkR.cells) from fun j u hu => by
    have := h.cells (g := g) rfl j u hu
    rwa [addr_add, Nat.zero_add] at this)
  have HF := Hid.in_ (fresh3 (t := 51) w (.int .i64 m.k) (.int .i64 m.a) (.int .i64 m.b))
  have HL := Hid.in_ hlx
  obtain ⟨hc1, hc2⟩ := hcap
  clear h hlx
  go_enter Tryz.func64, Tryz.ntmps64
  go_wp2_with fail
  go_loopg [5] n (fun r i wr => ∃ k : Nat, k + r = n ∧ i = .int .i64 k ∧ Hid (∀ j x, j < k → l[j]? = some x → x.a < m.a) ∧ Hid (Below (w.alloc (.cells #[.int .i64 m.k, .int .i64 m.a, .int .i64 m.b] 51)).heap.size (w.alloc (.cells #[.int .i64 m.k, .int .i64 m.a, .int .i64 m.b] 51)) wr))
  case atStart => exact ⟨0, by omega, rfl, fun j x hj => by omega, Below.refl _ _⟩
  case round =>
    obtain ⟨k, hkm, rfl, HP, HB⟩ := hrel
    have HK := Hid.in_ hkm
    clear hkm
    have hkn : k ≤ n := by have := HK.out; omega
    have HBW := Hid.in_ (show Below w.heap.size w wr from (balloc (Below.refl _ _) _).trans (HB.out.mono (by simp)))
    obtain ⟨d0, d1, d2⟩ := boxAt3 (HF.out.step HB.out)
    have hwr : w.heap.size < wr.heap.size := by have := HB.out.size; simp at this; omega
    by_cases hlt : k < n
    · obtain ⟨x, hx⟩ := get_lt l k (by rw [HL.out]; exact hlt)
      obtain ⟨c0, c1, c2⟩ := boxAt3 ((Box.elem MarkR.len HBX.out hx).step HBW.out)
      have hgr : g < wr.heap.size := by omega
      have HX := Hid.in_ hx
      clear hx
      by_cases hxa : x.a < m.a
      · go_wp2_with fail
        go_quiet (fail)
        go_wp2
        have hk := HK.out
        go_roundg (gk - 1)
        case measure => omega
        case rel =>
          refine ⟨k + 1, by omega, by go_num, Hid.in_ (fun j y hj hy => ?_), Hid.in_ (below_drewN HB.out _)⟩
          rcases Nat.lt_or_ge j k with hjk | hjk
          · exact HP.out j y hjk hy
          · obtain rfl : j = k := by omega
            rw [HX.out] at hy
            injection hy with hy
            rw [← hy]; exact hxa
      · have HS := Hid.in_ (putM_stop l m k HP.out (fun y hy => by rw [HX.out] at hy; injection hy with hy; rw [← hy]; exact hxa))
        go_wp2_with fail
        go_quiet (fail)
        obtain ⟨wq, hwq⟩ : ∃ wq : World, wq = wr.drewN nq := ⟨_, rfl⟩
        rw [← hwq]
        have hsz : wq.heap.size = wr.heap.size := by rw [hwq]; rfl
        have HBQ := Hid.in_ (show Below w.heap.size w wq by rw [hwq]; exact below_drewN HBW.out _)
        have HB1 := Hid.in_ (show Below (w.alloc (.cells #[.int .i64 m.k, .int .i64 m.a, .int .i64 m.b] 51)).heap.size (w.alloc (.cells #[.int .i64 m.k, .int .i64 m.a, .int .i64 m.b] 51)) wq by rw [hwq]; exact below_drewN HB.out _)
        rw [← hsz] at hwr
        clear hwq hsz d0 d1 d2
        have X1 : ∀ j u, ((l.take k).flatMap MarkR.cells)[j]? = some u → (wq.alloc (.cells #[] 51)).cell? ((⟨g, 0, none⟩ : Addr).add j) = some u := box_take MarkR.len (HBX.out.step (balloc HBQ.out _))
        have X2 : ((l.take k).flatMap MarkR.cells).length = k * 3 := by rw [flat_len MarkR.len, List.length_take, HL.out, Nat.min_eq_left hkn]
        have X8 : ((l.drop k).flatMap MarkR.cells).length = (n - k) * 3 := by rw [flat_len MarkR.len, List.length_drop, HL.out]
        have X3 := World.ownsRow_lit (e := 51) (base := wq.heap.size) (size := 3) wq #[] 0 (Nat.le_refl _) (by decide) (by decide)
        have X9 := Hid.in_ (show k ≤ l.length by rw [HL.out]; exact hkn)
        have X4 : (k : Int) ≤ n := by omega
        have X5 : (n : Int) ≤ cap := by omega
        have X6 : (0 : Int) ≤ k := by omega
        have X7 : (k : Int) ≤ cap := by omega
        go_wp2_with (at_builtin; first
          | (refine wpList_append_own _ rfl _ _ 22 rfl wq.heap.size 51 i0 (.agg #[.int .i64 0, .int .i64 0, .int .i64 0]) 3 24 Tryz.underlying22 hti hz0 hz1 hz2 rfl (by decide) _ _ _ rfl X3 ⟨g, 0, none⟩ k cap ((l.take k).flatMap MarkR.cells) rfl X2 X1 one3 (by unfold maxLen; omega) (by omega) (balloc (Below.refl _ _) _).size ?_; intro v4 w4 ho4 hg4 _
             have HO4 := Hid.in_ (show w4.ownsRow wq.heap.size 51 3 v4 k ((l.take k).flatMap MarkR.cells) by simpa using ho4)
             have HB4 := Hid.in_ (bgrown (balloc (Below.refl wq.heap.size wq) _) X3 (Nat.le_refl _) hg4)
             clear ho4 hg4
             obtain ⟨d0, d1, d2⟩ := boxAt3 ((HF.out.step HB1.out).step HB4.out))
          | (refine wpList_append_own _ rfl _ _ 22 rfl wq.heap.size 51 i0 (.agg #[.int .i64 0, .int .i64 0, .int .i64 0]) 3 24 Tryz.underlying22 hti hz0 hz1 hz2 rfl (by decide) _ _ _ rfl (HO4.out.alloc _) ⟨w4.heap.size, 0, none⟩ 1 1 [.int .i64 m.k, .int .i64 m.a, .int .i64 m.b] rfl rfl (cells3m rfl) (fun x hx => by simp at hx; rcases hx with rfl | rfl | rfl <;> rfl) (by unfold maxLen; omega) (by omega) (balloc HB4.out _).size ?_; intro v5 w5 ho5 hg5 _
             have HO5 := Hid.in_ ho5
             have HB5 := Hid.in_ (bgrown (balloc HB4.out _) (HO4.out.alloc _) (Nat.le_refl _) hg5)
             clear ho5 hg5)
          | (refine wpList_append_own _ rfl _ _ 22 rfl wq.heap.size 51 i0 (.agg #[.int .i64 0, .int .i64 0, .int .i64 0]) 3 24 Tryz.underlying22 hti hz0 hz1 hz2 rfl (by decide) _ _ _ rfl HO5.out ⟨g, k * 3, none⟩ (n - k) (cap - k) ((l.drop k).flatMap MarkR.cells) rfl X8 (box_drop MarkR.len X9.out ((HBX.out.step HBQ.out).step HB5.out)) one3 (by unfold maxLen; omega) (by omega) HB5.out.size ?_; intro v6 w6 ho6 hg6 _
             have HO6 := Hid.in_ ho6
             have HB6 := Hid.in_ (bgrown HB5.out HO5.out (Nat.le_refl _) hg6)
             clear ho6 hg6))
        go_ret
        have e1 : k + 1 + (n - k) = n + 1 := by omega
        have e2 : (l.take k).flatMap MarkR.cells ++ [.int .i64 m.k, .int .i64 m.a, .int .i64 m.b] ++ (l.drop k).flatMap MarkR.cells = (putM l m).flatMap MarkR.cells := by
          rw [HS.out, List.flatMap_append, List.flatMap_cons, List.append_assoc]
          rfl
        have ho := HO6.out
        rw [e1, e2] at ho
        obtain ⟨A6, c6, rfl, _, _, hA6⟩ := own_shape ho
        obtain ⟨g6, rfl, _⟩ := hA6 (by omega)
        exact ⟨g6, c6, rfl, own_base ho HBQ.out.size, HBQ.out.trans (HB6.out.mono HBQ.out.size)⟩
    · have HS := Hid.in_ (putM_stop l m k HP.out (fun y hy => by
        have := (List.getElem?_eq_some_iff.1 hy).1
        have := HL.out
        omega))
      by_cases hck : k < cap
      · go_wp2_with fail
        go_quiet (fail)
        obtain ⟨wq, hwq⟩ : ∃ wq : World, wq = wr.drewN nq := ⟨_, rfl⟩
        rw [← hwq]
        have hsz : wq.heap.size = wr.heap.size := by rw [hwq]; rfl
        have HBQ := Hid.in_ (show Below w.heap.size w wq by rw [hwq]; exact below_drewN HBW.out _)
        have HB1 := Hid.in_ (show Below (w.alloc (.cells #[.int .i64 m.k, .int .i64 m.a, .int .i64 m.b] 51)).heap.size (w.alloc (.cells #[.int .i64 m.k, .int .i64 m.a, .int .i64 m.b] 51)) wq by rw [hwq]; exact below_drewN HB.out _)
        rw [← hsz] at hwr
        clear hwq hsz d0 d1 d2
        have X1 : ∀ j u, ((l.take k).flatMap MarkR.cells)[j]? = some u → (wq.alloc (.cells #[] 51)).cell? ((⟨g, 0, none⟩ : Addr).add j) = some u := box_take MarkR.len (HBX.out.step (balloc HBQ.out _))
        have X2 : ((l.take k).flatMap MarkR.cells).length = k * 3 := by rw [flat_len MarkR.len, List.length_take, HL.out, Nat.min_eq_left hkn]
        have X8 : ((l.drop k).flatMap MarkR.cells).length = (n - k) * 3 := by rw [flat_len MarkR.len, List.length_drop, HL.out]
        have X3 := World.ownsRow_lit (e := 51) (base := wq.heap.size) (size := 3) wq #[] 0 (Nat.le_refl _) (by decide) (by decide)
        have X9 := Hid.in_ (show k ≤ l.length by rw [HL.out]; exact hkn)
        have X4 : (k : Int) ≤ n := by omega
        have X5 : (n : Int) ≤ cap := by omega
        have X6 : (0 : Int) ≤ k := by omega
        have X7 : (k : Int) ≤ cap := by omega
        go_wp2_with (at_builtin; first
          | (refine wpList_append_own _ rfl _ _ 22 rfl wq.heap.size 51 i0 (.agg #[.int .i64 0, .int .i64 0, .int .i64 0]) 3 24 Tryz.underlying22 hti hz0 hz1 hz2 rfl (by decide) _ _ _ rfl X3 ⟨g, 0, none⟩ k cap ((l.take k).flatMap MarkR.cells) rfl X2 X1 one3 (by unfold maxLen; omega) (by omega) (balloc (Below.refl _ _) _).size ?_; intro v4 w4 ho4 hg4 _
             have HO4 := Hid.in_ (show w4.ownsRow wq.heap.size 51 3 v4 k ((l.take k).flatMap MarkR.cells) by simpa using ho4)
             have HB4 := Hid.in_ (bgrown (balloc (Below.refl wq.heap.size wq) _) X3 (Nat.le_refl _) hg4)
             clear ho4 hg4
             obtain ⟨d0, d1, d2⟩ := boxAt3 ((HF.out.step HB1.out).step HB4.out))
          | (refine wpList_append_own _ rfl _ _ 22 rfl wq.heap.size 51 i0 (.agg #[.int .i64 0, .int .i64 0, .int .i64 0]) 3 24 Tryz.underlying22 hti hz0 hz1 hz2 rfl (by decide) _ _ _ rfl (HO4.out.alloc _) ⟨w4.heap.size, 0, none⟩ 1 1 [.int .i64 m.k, .int .i64 m.a, .int .i64 m.b] rfl rfl (cells3m rfl) (fun x hx => by simp at hx; rcases hx with rfl | rfl | rfl <;> rfl) (by unfold maxLen; omega) (by omega) (balloc HB4.out _).size ?_; intro v5 w5 ho5 hg5 _
             have HO5 := Hid.in_ ho5
             have HB5 := Hid.in_ (bgrown (balloc HB4.out _) (HO4.out.alloc _) (Nat.le_refl _) hg5)
             clear ho5 hg5)
          | (refine wpList_append_own _ rfl _ _ 22 rfl wq.heap.size 51 i0 (.agg #[.int .i64 0, .int .i64 0, .int .i64 0]) 3 24 Tryz.underlying22 hti hz0 hz1 hz2 rfl (by decide) _ _ _ rfl HO5.out ⟨g, k * 3, none⟩ (n - k) (cap - k) ((l.drop k).flatMap MarkR.cells) rfl X8 (box_drop MarkR.len X9.out ((HBX.out.step HBQ.out).step HB5.out)) one3 (by unfold maxLen; omega) (by omega) HB5.out.size ?_; intro v6 w6 ho6 hg6 _
             have HO6 := Hid.in_ ho6
             have HB6 := Hid.in_ (bgrown HB5.out HO5.out (Nat.le_refl _) hg6)
             clear ho6 hg6))
        go_ret
        have e1 : k + 1 + (n - k) = n + 1 := by omega
        have e2 : (l.take k).flatMap MarkR.cells ++ [.int .i64 m.k, .int .i64 m.a, .int .i64 m.b] ++ (l.drop k).flatMap MarkR.cells = (putM l m).flatMap MarkR.cells := by
          rw [HS.out, List.flatMap_append, List.flatMap_cons, List.append_assoc]
          rfl
        have ho := HO6.out
        rw [e1, e2] at ho
        obtain ⟨A6, c6, rfl, _, _, hA6⟩ := own_shape ho
        obtain ⟨g6, rfl, _⟩ := hA6 (by omega)
        exact ⟨g6, c6, rfl, own_base ho HBQ.out.size, HBQ.out.trans (HB6.out.mono HBQ.out.size)⟩
      · obtain rfl : k = cap := by omega
        go_wp2_with fail
        go_quiet (fail)
        obtain ⟨wq, hwq⟩ : ∃ wq : World, wq = wr.drewN nq := ⟨_, rfl⟩
        rw [← hwq]
        have hsz : wq.heap.size = wr.heap.size := by rw [hwq]; rfl
        have HBQ := Hid.in_ (show Below w.heap.size w wq by rw [hwq]; exact below_drewN HBW.out _)
        have HB1 := Hid.in_ (show Below (w.alloc (.cells #[.int .i64 m.k, .int .i64 m.a, .int .i64 m.b] 51)).heap.size (w.alloc (.cells #[.int .i64 m.k, .int .i64 m.a, .int .i64 m.b] 51)) wq by rw [hwq]; exact below_drewN HB.out _)
        rw [← hsz] at hwr
        clear hwq hsz d0 d1 d2
        have X1 : ∀ j u, ((l.take k).flatMap MarkR.cells)[j]? = some u → (wq.alloc (.cells #[] 51)).cell? ((⟨g, 0, none⟩ : Addr).add j) = some u := box_take MarkR.len (HBX.out.step (balloc HBQ.out _))
        have X2 : ((l.take k).flatMap MarkR.cells).length = k * 3 := by rw [flat_len MarkR.len, List.length_take, HL.out, Nat.min_eq_left hkn]
        have X8 : ((l.drop k).flatMap MarkR.cells).length = (n - k) * 3 := by rw [flat_len MarkR.len, List.length_drop, HL.out]
        have X3 := World.ownsRow_lit (e := 51) (base := wq.heap.size) (size := 3) wq #[] 0 (Nat.le_refl _) (by decide) (by decide)
        have X9 := Hid.in_ (show k ≤ l.length by rw [HL.out]; exact hkn)
        have X4 : (k : Int) ≤ n := by omega
        have X11 := Hid.in_ (show l.length ≤ k by rw [HL.out]; omega)
        have X6 : (0 : Int) ≤ k := by omega
        go_wp2_with (at_builtin; first
          | (refine wpList_append_own _ rfl _ _ 22 rfl wq.heap.size 51 i0 (.agg #[.int .i64 0, .int .i64 0, .int .i64 0]) 3 24 Tryz.underlying22 hti hz0 hz1 hz2 rfl (by decide) _ _ _ rfl X3 ⟨g, 0, none⟩ k k ((l.take k).flatMap MarkR.cells) rfl X2 X1 one3 (by unfold maxLen; omega) (by omega) (balloc (Below.refl _ _) _).size ?_; intro v4 w4 ho4 hg4 _
             have HO4 := Hid.in_ (show w4.ownsRow wq.heap.size 51 3 v4 k ((l.take k).flatMap MarkR.cells) by simpa using ho4)
             have HB4 := Hid.in_ (bgrown (balloc (Below.refl wq.heap.size wq) _) X3 (Nat.le_refl _) hg4)
             clear ho4 hg4
             obtain ⟨d0, d1, d2⟩ := boxAt3 ((HF.out.step HB1.out).step HB4.out))
          | (refine wpList_append_own _ rfl _ _ 22 rfl wq.heap.size 51 i0 (.agg #[.int .i64 0, .int .i64 0, .int .i64 0]) 3 24 Tryz.underlying22 hti hz0 hz1 hz2 rfl (by decide) _ _ _ rfl (HO4.out.alloc _) ⟨w4.heap.size, 0, none⟩ 1 1 [.int .i64 m.k, .int .i64 m.a, .int .i64 m.b] rfl rfl (cells3m rfl) (fun x hx => by simp at hx; rcases hx with rfl | rfl | rfl <;> rfl) (by unfold maxLen; omega) (by omega) (balloc HB4.out _).size ?_; intro v5 w5 ho5 hg5 _
             have HO5 := Hid.in_ ho5
             have HB5 := Hid.in_ (bgrown (balloc HB4.out _) (HO4.out.alloc _) (Nat.le_refl _) hg5)
             clear ho5 hg5)
          | (refine wpList_append_own _ rfl _ _ 22 rfl wq.heap.size 51 i0 (.agg #[.int .i64 0, .int .i64 0, .int .i64 0]) 3 24 Tryz.underlying22 hti hz0 hz1 hz2 rfl (by decide) _ _ _ rfl HO5.out ⟨g, 0, none⟩ 0 0 [] rfl rfl (fun j u hu => by cases hu) (fun x hx => by cases hx) (by unfold maxLen; omega) (by omega) HB5.out.size ?_; intro v6 w6 ho6 hg6 _
             have HO6 := Hid.in_ (show w6.ownsRow wq.heap.size 51 3 v6 (k + 1 + (n - k)) ((l.take k).flatMap MarkR.cells ++ [.int .i64 m.k, .int .i64 m.a, .int .i64 m.b] ++ (l.drop k).flatMap MarkR.cells) by rw [show n - k = 0 by omega, List.drop_of_length_le X11.out]; simpa using ho6)
             have HB6 := Hid.in_ (bgrown HB5.out HO5.out (Nat.le_refl _) hg6)
             clear ho6 hg6))
        go_ret
        have e1 : k + 1 + (n - k) = n + 1 := by omega
        have e2 : (l.take k).flatMap MarkR.cells ++ [.int .i64 m.k, .int .i64 m.a, .int .i64 m.b] ++ (l.drop k).flatMap MarkR.cells = (putM l m).flatMap MarkR.cells := by
          rw [HS.out, List.flatMap_append, List.flatMap_cons, List.append_assoc]
          rfl
        have ho := HO6.out
        rw [e1, e2] at ho
        obtain ⟨A6, c6, rfl, _, _, hA6⟩ := own_shape ho
        obtain ⟨g6, rfl, _⟩ := hA6 (by omega)
        exact ⟨g6, c6, rfl, own_base ho HBQ.out.size, HBQ.out.trans (HB6.out.mono HBQ.out.size)⟩
end Go.Proofs.YtlelgpknkgjaeaaGreatDoor

/- 'l07Marks', 'FindMarks' of the reference. -/
namespace Go.Proofs.YtlelgpknkgjaeaaGreatDoor
open Go.ChangeShapes Go.WideShapes Go.ChangeAt Go.RowKit
set_option linter.unusedSimpArgs false
set_option linter.unusedVariables false
set_option maxRecDepth 4000

theorem insM_snoc (l : List MarkR) (m : MarkR) : insM (l ++ [m]) = putM (insM l) m := by
  unfold insM; rw [List.foldl_append]; rfl
def pieceK (s : ByteArray) (f : Int) (k : Nat) : List MarkR := if f = 3 then gcrK s k else kindL s (patM f k) k
def kTo (s : ByteArray) (f : Int) : Nat → List MarkR
  | 0 => []
  | k + 1 => kTo s f k ++ (if k = 0 then [] else pieceK s f k)
theorem kTo_one (s : ByteArray) (f : Int) : kTo s f 1 = [] := rfl
theorem kTo_succ {s : ByteArray} {f : Int} {k : Nat} (h : 1 ≤ k) : kTo s f (k + 1) = kTo s f k ++ pieceK s f k := by
  show kTo s f k ++ (if k = 0 then [] else pieceK s f k) = _
  rw [if_neg (by omega)]
theorem kTo_all (s : ByteArray) (f : Int) : insM (kTo s f 4) = marksV s f := by
  unfold marksV
  rw [kTo_succ (by decide), kTo_succ (by decide), kTo_succ (by decide), kTo_one]
  unfold pieceK
  by_cases h : f = 3
  · rw [if_pos h, if_pos h, if_pos h, if_pos h]; rfl
  · rw [if_neg h, if_neg h, if_neg h, if_neg h]; rfl
theorem gcrK_len (s : ByteArray) (k : Int) : (gcrK s k).length ≤ s.size := by
  have h : ∀ L : List RunR, (L.flatMap (fun r => gcrOne s r k)).length ≤ L.length := by
    intro L
    induction L with
    | nil => exact Nat.le_refl _
    | cons r L ih =>
      rw [List.flatMap_cons, List.length_append, List.length_cons]
      have : (gcrOne s r k).length ≤ 1 := by
        unfold gcrOne
        split <;> simp
      omega
  exact Nat.le_trans (h _) (syncTo_len s s.size)
theorem kindL_len (s p : ByteArray) (k : Int) : (kindL s p k).length ≤ s.size := by
  unfold kindL; split
  · rw [List.length_map]; exact placesTo_len _ _
  · exact Nat.zero_le _
theorem pieceK_len (s : ByteArray) (f : Int) (k : Nat) : (pieceK s f k).length ≤ s.size := by
  unfold pieceK; split
  · exact gcrK_len _ _
  · exact kindL_len _ _ _
theorem kTo_len {s : ByteArray} {f : Int} (h : s.size ≤ 8000) : ∀ k, (kTo s f k).length ≤ k * 8000
  | 0 => Nat.le_refl _
  | k + 1 => by
    show (kTo s f k ++ (if k = 0 then [] else pieceK s f k)).length ≤ _
    rw [List.length_append]
    have := kTo_len (f := f) h k
    have := pieceK_len s f k
    have hx : ((if k = 0 then [] else pieceK s f k) : List MarkR).length ≤ 8000 := by
      split
      · exact Nat.zero_le _
      · omega
    omega
theorem kindTo_len (s p : ByteArray) (k : Int) (j : Nat) : (kindTo s p k j).length ≤ j := by
  unfold kindTo; rw [List.length_map, List.length_take]; exact Nat.min_le_left _ _
theorem pat_size {f : Int} (h : inB f 1 3 = true) {k : Nat} (h1 : 1 ≤ k) (h2 : k ≤ 3) : (patM f k).size ≤ 64 := by
  obtain ⟨a, b, c, _⟩ := pat_facts h
  have key : ∀ z : Int, z = 1 ∨ z = 2 ∨ z = 3 → (patM f z).size ≤ 64 := by
    rintro z (rfl | rfl | rfl)
    · exact c
    · rw [← a]; exact c
    · rw [← b, ← a]; exact c
  exact key k (by omega)
theorem own_n {w : World} {b n : Nat} {e : TypeId} {v : Value} {l : List MarkR} (h : w.ownsRow b e 3 v n (l.flatMap MarkR.cells)) : n = l.length := by
  have := h.1; rw [flat_len MarkR.len] at this; omega
theorem spec_mark (f : Int) (k : Nat) (hf : inB f 1 3 = true) (h1 : 1 ≤ k) (h2 : k ≤ 3) (w : World) :
    Calls Tryz.prog 62 #[.int .i64 f, .int .i64 k] w fun e w' => e = .returned (.string (patM f k)) ∧ Below w.heap.size w w' := by
  obtain ⟨b, hb, hb2⟩ := markByteIn hf (inB_mk (x := (k : Int)) (lo := 1) (hi := 3) (by omega) (by omega))
  have := spec_l07Mark f k b w hf (inB_mk (by omega) (by omega)) hb hb2
  unfold patM
  rw [hb, Int.toNat_natCast]
  exact this
theorem code_pat {k : Nat} (h1 : 1 ≤ k) (h2 : k ≤ 3) : (patM 3 k).extract 10 (patM 3 k).size = codeG k := by
  have : k = 1 ∨ k = 2 ∨ k = 3 := by omega
  rcases this with rfl | rfl | rfl <;> decide +kernel

def gcrKTo (s : ByteArray) (k : Int) (j : Nat) : List MarkR := ((syncTo s s.size).take j).flatMap (fun r => gcrOne s r k)
theorem gcrKTo_succ {s : ByteArray} {k : Int} {j : Nat} {r : RunR} (h : (syncTo s s.size)[j]? = some r) : gcrKTo s k (j + 1) = gcrKTo s k j ++ gcrOne s r k := by
  unfold gcrKTo; rw [List.take_add_one, h, List.flatMap_append]; simp
theorem gcrKTo_all {s : ByteArray} {k : Int} {j : Nat} (h : (syncTo s s.size).length ≤ j) : gcrKTo s k j = gcrK s k := by
  unfold gcrKTo gcrK; rw [List.take_of_length_le h]
theorem gcrKTo_len (s : ByteArray) (k : Int) (j : Nat) : (gcrKTo s k j).length ≤ j := by
  have h : ∀ L : List RunR, (L.flatMap (fun r => gcrOne s r k)).length ≤ L.length := by
    intro L
    induction L with
    | nil => exact Nat.le_refl _
    | cons r L ih =>
      rw [List.flatMap_cons, List.length_append, List.length_cons]
      have : (gcrOne s r k).length ≤ 1 := by
        unfold gcrOne
        split <;> simp
      omega
  exact Nat.le_trans (h _) (by rw [List.length_take]; exact Nat.min_le_left _ _)
theorem gcrK_small {s : ByteArray} {k : Int} (h : s.size < 10) : gcrK s k = [] := by
  unfold gcrK
  rw [List.flatMap_eq_nil_iff]
  intro r hr
  obtain ⟨j, _, _, hs⟩ := syncTo_mem hr
  unfold syncAt at hs
  rw [Bool.and_eq_true, decide_eq_true_eq] at hs
  have := cnt_le s j
  omega
theorem pat3_size {k : Nat} (h1 : 1 ≤ k) (h2 : k ≤ 3) : (patM 3 k).size = 20 ∧ (codeG k).size = 10 := by
  have : k = 1 ∨ k = 2 ∨ k = 3 := by omega
  rcases this with rfl | rfl | rfl <;> decide +kernel

set_option maxHeartbeats 4000000 in
theorem spec_l07Marks (s : ByteArray) (f : Int) (w : World) (hv : validCells s = true) (hf : inB f 1 3 = true) :
    Calls Tryz.prog 35 #[.string s, .int .i64 f] w fun e w' => ∃ n g cap, e = .returned (.slice (some ⟨g, 0, none⟩) n cap) ∧ w'.ownsRow w.heap.size 51 3 (.slice (some ⟨g, 0, none⟩) n cap) n ((marksV s f).flatMap MarkR.cells) ∧ Below w.heap.size w w' := by
  obtain ⟨v1, v2, v3⟩ := valid_size hv
  have HSY := Hid.in_ (fun w => spec_l07Syncs s w v1 v2)
  have HMK := Hid.in_ (fun (k : Nat) (h1 : 1 ≤ k) (h2 : k ≤ 3) w => spec_mark f k hf h1 h2 w)
  have HPS := Hid.in_ (fun (k : Nat) (h1 : 1 ≤ k) (h2 : k ≤ 3) => pat_size (k := k) hf h1 h2)
  have HFN := Hid.in_ (fun p (hp : p.size ≤ 1048576) w => spec_l07Find s p w v1 (by omega) hp)
  have HFT := Hid.in_ (fun p a (hp : p.size ≤ 1048576) (ha : a ≤ 1048576) w => spec_l07Fits s p a w v1 (by omega) hp ha)
  have HKL := Hid.in_ (fun k => kTo_len (s := s) (f := f) v2 k)
  have HO0 := Hid.in_ (World.ownsRow_lit (e := 51) (base := w.heap.size) (size := 3) w #[] 0 (Nat.le_refl _) (by decide) (by decide))
  have HB0 := Hid.in_ (balloc (Below.refl w.heap.size w) (.cells #[] 51))
  clear hv v3
  go_enter Tryz.func35, Tryz.ntmps35
  go_wp2_with (go_at_call 61; refine (HSY.out _).mono ?_; rintro e w1 ⟨v7, rfl, ho7, hb7⟩; obtain ⟨A7, c7, rfl, hl7, hn7, hA7⟩ := own_shape ho7)
  have HO1 := Hid.in_ (own_below HO0.out hb7 (Nat.le_refl _))
  have HB1 := Hid.in_ (HB0.out.trans (hb7.mono HB0.out.size))
  have HA7 := Hid.in_ hA7
  have HN7 := Hid.in_ (syncTo_len s s.size)
  clear ho7 hb7 hA7 hl7 HO0 HB0
  go_loopg [6, 8] 3 (fun r v i wr => ∃ k n g cap : Nat, 1 ≤ k ∧ k + r = 4 ∧ i = .int .i64 k ∧ v = .slice (some ⟨g, 0, none⟩) n cap ∧ Hid (wr.ownsRow w.heap.size 51 3 (.slice (some ⟨g, 0, none⟩) n cap) n ((insM (kTo s f k)).flatMap MarkR.cells)) ∧ Hid (Below w1.heap.size w1 wr))
  case atStart => exact ⟨1, 0, _, _, by omega, by omega, by go_num, rfl, HO1, Below.refl _ _⟩
  case round =>
    obtain ⟨k, n, g, cap, hk1, hkm, rfl, rfl, HO, HB⟩ := hrel
    have HK := Hid.in_ hkm
    have hk4 : k ≤ 4 := by omega
    clear hkm
    by_cases hlt : k ≤ 3
    · by_cases hf3 : f = 3
      · subst hf3
        have hp20 := pat3_size hk1 hlt
        have hex := code_pat hk1 hlt
        have HM := Hid.in_ (HMK.out k hk1 hlt)
        have HKS := Hid.in_ (show kTo s 3 (k + 1) = kTo s 3 k ++ gcrK s k by rw [kTo_succ hk1]; unfold pieceK; rw [if_pos rfl])
        obtain ⟨p, hp⟩ : ∃ p, patM 3 k = p := ⟨_, rfl⟩
        obtain ⟨c, hc⟩ : ∃ c, codeG k = c := ⟨_, rfl⟩
        rw [hp, hc] at hp20 hex
        rw [hp] at HM
        obtain ⟨hps, hcs⟩ := hp20
        have HCG := Hid.in_ hc
        clear hp hc
        rw [hps] at hex
        by_cases hbig : s.size < 10
        · have HKN := Hid.in_ (show kTo s 3 (k + 1) = kTo s 3 k by rw [HKS.out, gcrK_small hbig, List.append_nil])
          go_wp2_with (go_at_call 62; refine (HM.out _).mono ?_; rintro e w2 ⟨rfl, hb2⟩; have HB2 := Hid.in_ (HB.out.trans (hb2.mono HB.out.size)); have HO2 := Hid.in_ (own_below HO.out hb2 (Nat.le_refl _)); clear hb2)
          have hk := HK.out
          go_roundg (gk - 1)
          case measure => omega
          case rel => exact ⟨k + 1, n, g, cap, by omega, by omega, by go_num, rfl, by rw [HKN.out]; exact HO2, HB2⟩
        · go_wp2_with (go_at_call 62; refine (HM.out _).mono ?_; rintro e w2 ⟨rfl, hb2⟩; have HB2 := Hid.in_ (HB.out.trans (hb2.mono HB.out.size)); have HO2 := Hid.in_ (own_below HO.out hb2 (Nat.le_refl _)); clear hb2)
          obtain ⟨gO, rfl⟩ : ∃ g, g = gk := ⟨_, rfl⟩
          obtain ⟨wo, rfl⟩ : ∃ wo : World, wo = wr := ⟨_, rfl⟩
          clear HB HO
          have HO4 := Hid.in_ (show w2.ownsRow w.heap.size 51 3 (.slice (some ⟨g, 0, none⟩) n cap) n ((insM (kTo s 3 k ++ gcrKTo s k 0)).flatMap MarkR.cells) by
            rw [show gcrKTo s k 0 = [] from rfl, List.append_nil]; exact HO2.out)
          go_loopg [6, 13] (syncTo s s.size).length (fun r v i wi => ∃ j n g cap : Nat, j + r = (syncTo s s.size).length ∧ i = .int .i64 j ∧ v = .slice (some ⟨g, 0, none⟩) n cap ∧ Hid (wi.ownsRow w.heap.size 51 3 (.slice (some ⟨g, 0, none⟩) n cap) n ((insM (kTo s 3 k ++ gcrKTo s k j)).flatMap MarkR.cells)) ∧ Hid (Below w1.heap.size w1 wi))
          case atStart => exact ⟨0, n, g, cap, by omega, rfl, rfl, HO4, HB2⟩
          case round =>
            clear HO4 HO2
            obtain ⟨j, n5, g5, cap5, hjm, rfl, rfl, HO5, HB5⟩ := hrel
            have HJ := Hid.in_ hjm
            have hn7' := HN7.out
            have hjC : j ≤ (syncTo s s.size).length := by omega
            clear hjm
            have hn5 : n5 ≤ 100000 := by
              rw [own_n HO5.out, insM_len, List.length_append]
              have := HKL.out k
              have := gcrKTo_len s k j
              omega
            by_cases hjl : j < (syncTo s s.size).length
            · obtain ⟨r, hr⟩ := get_lt (syncTo s s.size) j hjl
              have HKT := Hid.in_ (gcrKTo_succ (k := k) hr)
              obtain ⟨i, rfl, hi, hsy⟩ := syncTo_mem (List.mem_of_getElem? hr)
              obtain ⟨q, hq⟩ : ∃ q, cnt s i = q := ⟨_, rfl⟩
              have hqs : q ≤ s.size := by rw [← hq]; exact cnt_le s i
              rw [hq] at hr HKT
              obtain ⟨e, he⟩ : ∃ e, i + q = e := ⟨_, rfl⟩
              have heE : (i : Int) + (q : Int) = (e : Int) := by omega
              have hwe : IntKind.i64.wrap ((i : Int) + (q : Int)) = (e : Int) := by rw [heE]; simp [IntKind.wrap, IntKind.bits, IntKind.signed]; omega
              have hee : e ≤ 16000 := by omega
              have HEND := Hid.in_ (show endG ⟨(i : Int), ((q : Nat) : Int)⟩ = e by unfold endG; show ((i : Int) + (q : Int)).toNat = e; omega)
              obtain ⟨g7, rfl, _, hg7, hx7, _⟩ := HA7.out (by omega)
              have hbx := (Box.elem RunR.len hx7 hr).step HB5.out
              have cx : wr.cell? ⟨g7, j * 2, none⟩ = some (.int .i64 (i : Int)) := by have := hbx 0 _ rfl; simpa using this
              have cy : wr.cell? ⟨g7, j * 2 + 1, none⟩ = some (.int .i64 (q : Int)) := hbx 1 _ rfl
              have hg7i : g7 < wr.heap.size := Nat.lt_of_lt_of_le hg7 HB5.out.size
              have HBX := Hid.in_ (Box.elem RunR.len hx7 hr)
              clear hr hx7 hbx hsy hq he
              go_wp2_with fail
              go_quiet (fail)
              go_wp2_with fail
              refine (HFT.out c e (by omega) (by omega) _).mono ?_
              rintro e4 w4 ⟨rfl, hb4⟩
              have HB6 := Hid.in_ ((below_drewN HB5.out _).trans (hb4.mono HB5.out.size))
              have HO6 := Hid.in_ (own_below (show (wr.drewN nq).ownsRow _ _ _ _ _ _ from HO5.out) hb4 (Nat.le_refl _))
              clear hb4 cx cy HB5 HO5
              cases hf2 : fitsB s c e
              · have HS := Hid.in_ (show gcrKTo s k (j + 1) = gcrKTo s k j by rw [HKT.out, gcrOne_no (by unfold hitG; rw [HCG.out, HEND.out]; exact hf2), List.append_nil])
                have hj := HJ.out
                go_wp2
                go_roundg (gk - 1)
                case measure => omega
                case rel => exact ⟨j + 1, n5, g5, cap5, by omega, by go_num, rfl, by rw [HS.out]; exact HO6, HB6⟩
              · have hbx4 := HBX.out.step HB6.out
                have cx : w4.cell? ⟨g7, j * 2, none⟩ = some (.int .i64 (i : Int)) := by have := hbx4 0 _ rfl; simpa using this
                have hg7j : g7 < w4.heap.size := Nat.lt_of_lt_of_le hg7 HB6.out.size
                obtain ⟨bq, hbq⟩ : ∃ bq : Int, ((e : Int) + 10) % (s.size : Int) = bq := ⟨_, rfl⟩
                have HS := Hid.in_ (show gcrKTo s k (j + 1) = gcrKTo s k j ++ [⟨(k : Int), (i : Int), bq⟩] by
                  rw [HKT.out, gcrOne_yes (by unfold hitG; rw [HCG.out, HEND.out]; exact hf2), HEND.out, hbq])
                have hb1 : 0 ≤ bq := by rw [← hbq]; exact Int.emod_nonneg _ (by omega)
                have hb2 : bq < (s.size : Int) := by rw [← hbq]; exact Int.emod_lt_of_pos _ (by omega)
                have htm : ((e : Int) + 10).tmod (s.size : Int) = bq := by rw [Int.tmod_eq_emod_of_nonneg (by omega)]; exact hbq
                have hwr : IntKind.i64.wrap ((e : Int) + 10) = (e : Int) + 10 := by simp [IntKind.wrap, IntKind.bits, IntKind.signed]; omega
                have hnz : ¬ (s.size : Int) = 0 := by omega
                have hnz2 : ¬ s.size = 0 := by omega
                have hnp : (0 : Int) < s.size := by omega
                have hwb : IntKind.i64.wrap bq = bq := by simp [IntKind.wrap, IntKind.bits, IntKind.signed]; omega
                clear hbq hbx4 heE hwe
                go_wp2_with fail
                go_still_tail 13, (by kernel_rfl)
                go_wp2_with fail
                refine (spec_l07Put ⟨(k : Int), (i : Int), bq⟩ w4.drew HO6.out hn5).mono ?_
                rintro e5 w5 ⟨g6, cap6, rfl, ho6, hb6⟩
                have HO7 := Hid.in_ (show w5.ownsRow w.heap.size 51 3 (.slice (some ⟨g6, 0, none⟩) (n5 + 1 : Nat) cap6) (n5 + 1) ((insM (kTo s 3 k ++ gcrKTo s k (j + 1))).flatMap MarkR.cells) by
                  rw [HS.out, ← List.append_assoc, insM_snoc]
                  exact own_base ho6 (Nat.le_trans HB1.out.size HB6.out.size))
                have HB7 := Hid.in_ (show Below w1.heap.size w1 w5 from HB6.out.drew.trans (hb6.mono HB6.out.size))
                clear ho6 hb6
                have hj := HJ.out
                go_wp2
                go_roundg (gk - 1)
                case measure => omega
                case rel => exact ⟨j + 1, n5 + 1, g6, cap6, by omega, by go_num, rfl, HO7, HB7⟩
            · have hj := HJ.out
              have hk := HK.out
              have HO6 := Hid.in_ (show wr.ownsRow w.heap.size 51 3 (.slice (some ⟨g5, 0, none⟩) n5 cap5) n5 ((insM (kTo s 3 (k + 1))).flatMap MarkR.cells) by
                rw [HKS.out, ← gcrKTo_all (j := j) (by omega)]
                exact HO5.out)
              go_wp2
              go_roundg (gO - 1)
              case measure => omega
              case rel => exact ⟨k + 1, n5, g5, cap5, by omega, by omega, by go_num, rfl, HO6, HB5⟩
      · have hff : (f == 3) = false := by simpa using hf3
        have hff2 : (f != 3) = true := by simpa using hf3
        have hp64 := HPS.out k hk1 hlt
        have HM := Hid.in_ (HMK.out k hk1 hlt)
        have HKS := Hid.in_ (show kTo s f (k + 1) = kTo s f k ++ kindL s (patM f k) k by rw [kTo_succ hk1]; unfold pieceK; rw [if_neg hf3])
        obtain ⟨p, hp⟩ : ∃ p, patM f k = p := ⟨_, rfl⟩
        rw [hp] at HM HKS hp64
        clear hp hf3
        obtain ⟨C, hC⟩ : ∃ C, (placesTo (fitsB s p) s.size).length = C := ⟨_, rfl⟩
        have hCN : C ≤ s.size := by rw [← hC]; exact placesTo_len _ _
        have HF0 := HFN.out p (by omega)
        rw [hC] at HF0
        have HF := Hid.in_ HF0
        have HC := Hid.in_ hC
        clear HF0 hC
        by_cases hbig : p.size ≤ s.size
        · go_wp2_with (first
            | (go_at_call 62; refine (HM.out _).mono ?_; rintro e w2 ⟨rfl, hb2⟩; have HB2 := Hid.in_ (HB.out.trans (hb2.mono HB.out.size)); have HO2 := Hid.in_ (own_below HO.out hb2 (Nat.le_refl _)); clear hb2)
            | (go_at_call 63; refine (HF.out _).mono ?_; rintro e w3 ⟨v11, rfl, ho11, hb3⟩; obtain ⟨A11, c11, rfl, hl11, hn11, hA11⟩ := own_shape ho11; have HB3 := Hid.in_ (HB2.out.trans (hb3.mono HB2.out.size)); have HO3 := Hid.in_ (own_below HO2.out hb3 (Nat.le_refl _)); have HA11 := Hid.in_ hA11; clear ho11 hb3 hA11 hl11))
          obtain ⟨gO, rfl⟩ : ∃ g, g = gk := ⟨_, rfl⟩
          obtain ⟨wo, rfl⟩ : ∃ wo : World, wo = wr := ⟨_, rfl⟩
          clear HB HO HB2 HO2
          have HO4 := Hid.in_ (show w3.ownsRow w.heap.size 51 3 (.slice (some ⟨g, 0, none⟩) n cap) n ((insM (kTo s f k ++ kindTo s p k 0)).flatMap MarkR.cells) by
            rw [show kindTo s p k 0 = [] from rfl, List.append_nil]; exact HO3.out)
          go_loopg [6, 12] C (fun r v i wi => ∃ j n g cap : Nat, j + r = C ∧ i = .int .i64 j ∧ v = .slice (some ⟨g, 0, none⟩) n cap ∧ Hid (wi.ownsRow w.heap.size 51 3 (.slice (some ⟨g, 0, none⟩) n cap) n ((insM (kTo s f k ++ kindTo s p k j)).flatMap MarkR.cells)) ∧ Hid (Below w3.heap.size w3 wi))
          case atStart => exact ⟨0, n, g, cap, by omega, rfl, rfl, HO4, Below.refl _ _⟩
          case round =>
            clear HO4 HO3
            obtain ⟨j, n5, g5, cap5, hjm, rfl, rfl, HO5, HB5⟩ := hrel
            have HJ := Hid.in_ hjm
            have hjC : j ≤ C := by omega
            clear hjm
            have hn5 : n5 ≤ 100000 := by
              rw [own_n HO5.out, insM_len, List.length_append]
              have := HKL.out k
              have := kindTo_len s p k j
              omega
            have HB6 := Hid.in_ (HB3.out.trans (HB5.out.mono HB3.out.size))
            by_cases hjl : j < C
            · obtain ⟨x, hx⟩ := get_lt (placesTo (fitsB s p) s.size) j (by rw [HC.out]; exact hjl)
              obtain ⟨q, rfl, hqn, _⟩ := placesTo_mem (List.mem_of_getElem? hx)
              have HKT := Hid.in_ (kindTo_succ (s := s) (p := p) (k := k) hx)
              obtain ⟨g11, rfl, _, hg11, hx11, _⟩ := HA11.out (by omega)
              have cx : wr.cell? ⟨g11, j, none⟩ = some (.int .i64 (q : Int)) := (hx11.step HB5.out) j _ (by unfold I64; rw [List.getElem?_map, hx]; rfl)
              have hg11i : g11 < wr.heap.size := Nat.lt_of_lt_of_le hg11 HB5.out.size
              clear hx hx11
              obtain ⟨bq, hbq⟩ : ∃ bq : Int, ((q : Int) + (p.size : Int)) % (s.size : Int) = bq := ⟨_, rfl⟩
              have HMK2 := Hid.in_ (show mkAt s.size p k (q : Int) = ⟨(k : Int), (q : Int), bq⟩ by unfold mkAt; rw [hbq])
              have hb1 : 0 ≤ bq := by rw [← hbq]; exact Int.emod_nonneg _ (by omega)
              have hb2 : bq < (s.size : Int) := by rw [← hbq]; exact Int.emod_lt_of_pos _ (by omega)
              have htm : ((q : Int) + (p.size : Int)).tmod (s.size : Int) = bq := by rw [Int.tmod_eq_emod_of_nonneg (by omega)]; exact hbq
              have hwr : IntKind.i64.wrap ((q : Int) + (p.size : Int)) = (q : Int) + (p.size : Int) := by simp [IntKind.wrap, IntKind.bits, IntKind.signed]; omega
              have hnz : ¬ (s.size : Int) = 0 := by omega
              have hnz2 : ¬ s.size = 0 := by omega
              have hnp : (0 : Int) < s.size := by omega
              have hwb : IntKind.i64.wrap bq = bq := by simp [IntKind.wrap, IntKind.bits, IntKind.signed]; omega
              clear hbq
              go_wp2_with fail
              go_still_tail 15, (by kernel_rfl)
              go_wp2_with fail
              refine (spec_l07Put ⟨(k : Int), (q : Int), bq⟩ wr.drew HO5.out hn5).mono ?_
              rintro e w5 ⟨g6, cap6, rfl, ho6, hb6⟩
              have HO6 := Hid.in_ (show w5.ownsRow w.heap.size 51 3 (.slice (some ⟨g6, 0, none⟩) (n5 + 1 : Nat) cap6) (n5 + 1) ((insM (kTo s f k ++ kindTo s p k (j + 1))).flatMap MarkR.cells) by
                rw [HKT.out, ← List.append_assoc, insM_snoc, HMK2.out]
                exact own_base ho6 (Nat.le_trans HB1.out.size HB6.out.size))
              have HB7 := Hid.in_ (show Below w3.heap.size w3 w5 from HB5.out.drew.trans (hb6.mono HB5.out.size))
              clear ho6 hb6
              have hj := HJ.out
              go_wp2
              go_roundg (gk - 1)
              case measure => omega
              case rel => exact ⟨j + 1, n5 + 1, g6, cap6, by omega, by go_num, rfl, HO6, HB7⟩
            · have hj := HJ.out
              have hk := HK.out
              have HO6 := Hid.in_ (show wr.ownsRow w.heap.size 51 3 (.slice (some ⟨g5, 0, none⟩) n5 cap5) n5 ((insM (kTo s f (k + 1))).flatMap MarkR.cells) by
                rw [HKS.out, ← kindTo_all (j := j) hbig (by rw [HC.out]; omega)]
                exact HO5.out)
              go_wp2
              go_roundg (gO - 1)
              case measure => omega
              case rel => exact ⟨k + 1, n5, g5, cap5, by omega, by omega, by go_num, rfl, HO6, HB6⟩
        · have HKN := Hid.in_ (show kTo s f (k + 1) = kTo s f k by rw [HKS.out, kindL_long (by omega), List.append_nil])
          go_wp2_with (go_at_call 62; refine (HM.out _).mono ?_; rintro e w2 ⟨rfl, hb2⟩; have HB2 := Hid.in_ (HB.out.trans (hb2.mono HB.out.size)); have HO2 := Hid.in_ (own_below HO.out hb2 (Nat.le_refl _)); clear hb2)
          have hk := HK.out
          go_roundg (gk - 1)
          case measure => omega
          case rel => exact ⟨k + 1, n, g, cap, by omega, by omega, by go_num, rfl, by rw [HKN.out]; exact HO2, HB2⟩
    · have hk := HK.out
      obtain rfl : k = 4 := by omega
      go_wp2
      go_ret
      exact ⟨n, g, cap, rfl, by rw [← kTo_all]; exact HO.out, HB1.out.trans (HB.out.mono HB1.out.size)⟩
end Go.Proofs.YtlelgpknkgjaeaaGreatDoor

/- 'findMarks' of the program, FM and MFM. -/
namespace Go.Proofs.YtlelgpknkgjaeaaGreatDoor
open Go.ChangeShapes Go.WideShapes Go.ChangeAt Go.RowKit
set_option linter.unusedSimpArgs false
set_option linter.unusedVariables false
set_option maxRecDepth 4000

theorem impl_mark (f : Int) (k : Nat) (hf : inB f 1 3 = true) (h1 : 1 ≤ k) (h2 : k ≤ 3) (w : World) (hT : Tab w) :
    Calls Tryz.prog 58 #[.int .i64 f, .int .i64 k] w fun e w' => e = .returned (.string (patM f k)) ∧ Below w.heap.size w w' := by
  obtain ⟨b, hb, hb2⟩ := markByteIn hf (inB_mk (x := (k : Int)) (lo := 1) (hi := 3) (by omega) (by omega))
  have := impl_markCells f k b w hf hb hb2 hT
  unfold patM
  rw [hb, Int.toNat_natCast]
  exact this

/-- a row of places beside the list that grows. -/
structure Places (w : World) (v : Value) (A : Option Addr) (C : Nat) (X : List Value) : Prop where
  at_ : 0 < C → ∃ g, A = some ⟨g, 0, none⟩ ∧ g < w.heap.size ∧ Box w g X ∧ v.ownBlock ≠ some g
theorem Places.step {w w' : World} {v v' : Value} {A : Option Addr} {C : Nat} {X : List Value} (h : Places w v A C X) (hg : w.grownBy w' v.ownBlock) (hv : v'.ownBlock = v.ownBlock ∨ ∃ g, v'.ownBlock = some g ∧ w.heap.size ≤ g) : Places w' v' A C X := by
  refine ⟨fun hc => ?_⟩
  obtain ⟨g, e, hl, hb, hne⟩ := h.at_ hc
  refine ⟨g, e, Nat.lt_of_lt_of_le hl hg.size, fun j u hu => hg.cell (hb j u hu) (fun e => hne e.symm), ?_⟩
  rcases hv with hv | ⟨g', hv, hge⟩
  · rw [hv]; exact hne
  · rw [hv]; intro e2; injection e2 with e2; omega
theorem Places.alloc {w : World} {v : Value} {A : Option Addr} {C : Nat} {X : List Value} (h : Places w v A C X) (o : Obj) : Places (w.alloc o) v A C X := by
  refine ⟨fun hc => ?_⟩
  obtain ⟨g, e, hl, hb, hne⟩ := h.at_ hc
  exact ⟨g, e, by simp; omega, hb.step (balloc (Below.refl _ _) _), hne⟩

def mapTo (n : Nat) (p : ByteArray) (k : Int) (L : List Int) (j : Nat) : List MarkR := (L.take j).map (mkAt n p k)
theorem mapTo_succ {n : Nat} {p : ByteArray} {k : Int} {L : List Int} {j : Nat} {x : Int} (h : L[j]? = some x) : mapTo n p k L (j + 1) = mapTo n p k L j ++ [mkAt n p k x] := by
  unfold mapTo; rw [List.take_add_one, h, List.map_append]; rfl
theorem mapTo_len (n : Nat) (p : ByteArray) (k : Int) (L : List Int) (j : Nat) : (mapTo n p k L j).length ≤ j := by
  unfold mapTo; rw [List.length_map, List.length_take]; exact Nat.min_le_left _ _
def placeL (s p : ByteArray) : List Int := if p.size ≤ s.size then placesTo (fitsB s p) s.size else []
theorem placeL_map (s p : ByteArray) (k : Int) {j : Nat} (h : (placeL s p).length ≤ j) : mapTo s.size p k (placeL s p) j = kindL s p k := by
  unfold mapTo kindL
  rw [List.take_of_length_le h]
  unfold placeL
  split <;> rfl
theorem placeL_len (s p : ByteArray) : (placeL s p).length ≤ s.size := by
  unfold placeL; split
  · exact placesTo_len _ _
  · exact Nat.zero_le _
theorem placeL_mem {s p : ByteArray} {x : Int} (h : x ∈ placeL s p) : ∃ j : Nat, x = j ∧ j < s.size := by
  unfold placeL at h
  split at h
  · obtain ⟨j, a, b, _⟩ := placesTo_mem h
    exact ⟨j, a, b⟩
  · cases h
theorem impl_places (s p : ByteArray) (w : World) (hs : s.size ≤ 1048576) (hp : p.size ≤ 1048576) :
    Calls Tryz.prog 59 #[.string s, .string p] w fun e w' => ∃ v, e = .returned v ∧ w'.ownsRow w.heap.size 2 1 v (placeL s p).length (I64 (placeL s p)) ∧ Below w.heap.size w w' := by
  by_cases h : p.size ≤ s.size
  · have := impl_findPattern s p w hs h
    unfold placeL
    rw [if_pos h]
    exact this
  · refine (impl_findPattern_long s p w hs (by omega) hp).mono ?_
    rintro e w' ⟨rfl, hb⟩
    unfold placeL
    rw [if_neg h]
    exact ⟨_, rfl, World.ownsRow_nil _ _ _ _, hb⟩
set_option maxHeartbeats 4000000 in
theorem impl_findMarks_f (s : ByteArray) (f : Int) (w : World) (hv : validCells s = true) (hf : inB f 1 3 = true) (hf3 : f ≠ 3) (hT : Tab w) :
    Calls Tryz.prog 38 #[.string s, .int .i64 f] w fun e w' => ∃ n v, e = .returned v ∧ w'.ownsRow w.heap.size 51 3 v n ((marksV s f).flatMap MarkR.cells) ∧ Below w.heap.size w w' := by
  obtain ⟨i0, hti, hz0, hz1, hz2⟩ := info_parts Tryz.info_Mark
  obtain ⟨v1, v2, v3⟩ := valid_size hv
  have HMK := Hid.in_ (fun (k : Nat) (h1 : 1 ≤ k) (h2 : k ≤ 3) w hT => impl_mark f k hf h1 h2 w hT)
  have HPS := Hid.in_ (fun (k : Nat) (h1 : 1 ≤ k) (h2 : k ≤ 3) => pat_size (k := k) hf h1 h2)
  have HKL := Hid.in_ (fun k => kTo_len (s := s) (f := f) v2 k)
  have HTB := Hid.in_ hT
  have HRAW := Hid.in_ (show marksV s f = insM (kTo s f 4) from (kTo_all s f).symm)
  have HAP := Hid.in_ (show (kTo s f 4).Pairwise (fun x y => x.a ≠ y.a) by
    have := rawM_apart (s := s) hf
    rw [kTo_succ (by decide), kTo_succ (by decide), kTo_succ (by decide), kTo_one]
    unfold pieceK
    rw [if_neg hf3, if_neg hf3, if_neg hf3]
    exact this)
  have hff : (f == 3) = false := by simpa using hf3
  have HF3 := Hid.in_ hf3
  clear hv v3 hT hf3
  go_enter Tryz.func38, Tryz.ntmps38
  go_wp2_with fail
  go_loopg [5, 6] 3 (fun r v i wr => ∃ (k n : Nat) (v5 : Value), 1 ≤ k ∧ k + r = 4 ∧ i = .int .i64 k ∧ v = v5 ∧ Hid (wr.ownsRow w.heap.size 51 3 v5 n ((kTo s f k).flatMap MarkR.cells)) ∧ Hid (Below w.heap.size w wr))
  case atStart => exact ⟨1, 0, _, by omega, by omega, by go_num, rfl, World.ownsRow_nil _ _ _ _, Below.refl _ _⟩
  case round =>
    obtain ⟨k, n, v, hk1, hkm, rfl, hvv, HO, HB⟩ := hrel
    subst hvv
    have HK := Hid.in_ hkm
    have hk4 : k ≤ 4 := by omega
    clear hkm
    by_cases hlt : k ≤ 3
    · have hp64 := HPS.out k hk1 hlt
      have HM := Hid.in_ (HMK.out k hk1 hlt)
      have HKS := Hid.in_ (show kTo s f (k + 1) = kTo s f k ++ kindL s (patM f k) k by rw [kTo_succ hk1]; unfold pieceK; rw [if_neg HF3.out])
      obtain ⟨p, hp⟩ : ∃ p, patM f k = p := ⟨_, rfl⟩
      rw [hp] at HM HKS hp64
      clear hp
      go_wp2_with fail
      refine (HM.out _ (HTB.out.step HB.out)).mono ?_
      rintro e w2 ⟨rfl, hb2⟩
      have HB2 := Hid.in_ (HB.out.trans (hb2.mono HB.out.size))
      have HO2 := Hid.in_ (own_below HO.out hb2 (Nat.le_refl _))
      clear hb2
      obtain ⟨L, hL⟩ : ∃ L, placeL s p = L := ⟨_, rfl⟩
      obtain ⟨C, hC⟩ : ∃ C, L.length = C := ⟨_, rfl⟩
      have hCN : C ≤ s.size := by rw [← hC, ← hL]; exact placeL_len _ _
      have HMEM := Hid.in_ (fun x (hx : x ∈ L) => placeL_mem (s := s) (p := p) (by rw [hL]; exact hx))
      have HALL := Hid.in_ (fun j (h : L.length ≤ j) => placeL_map s p k (j := j) (by rw [hL]; exact h))
      have HF0 := fun w => impl_places s p w (by omega) (by omega)
      rw [hL] at HF0 HALL
      rw [hC] at HF0
      have HF := Hid.in_ HF0
      have HC := Hid.in_ hC
      clear HF0 hC hL
      go_wp2_with fail
      refine (HF.out _).mono ?_
      rintro e w3 ⟨v11, rfl, ho11, hb3⟩
      have hap := own_apart HO2.out ho11 (Nat.le_refl _)
      obtain ⟨A11, c11, rfl, hl11, hn11, hA11⟩ := own_shape ho11
      have HB3 := Hid.in_ (HB2.out.trans (hb3.mono HB2.out.size))
      have HO3 := Hid.in_ (own_below HO2.out hb3 (Nat.le_refl _))
      have HPL := Hid.in_ (show Places w3 u5 A11 C (I64 L) from ⟨fun hc => by
        obtain ⟨g, rfl, _, h2, h3, _⟩ := hA11 hc
        refine ⟨g, rfl, h2, h3, ?_⟩
        rcases hap with h | h
        · rw [h]; intro e; cases e
        · exact h⟩)
      clear ho11 hb3 hA11 hl11 hap
      go_wp2_with fail
      obtain ⟨gO, rfl⟩ : ∃ g, g = gk := ⟨_, rfl⟩
      obtain ⟨wo, rfl⟩ : ∃ wo : World, wo = wr := ⟨_, rfl⟩
      have HO4 := Hid.in_ (show w3.ownsRow w.heap.size 51 3 u5 n ((kTo s f k ++ mapTo s.size p k L 0).flatMap MarkR.cells) by
        rw [show mapTo s.size p k L 0 = [] from rfl, List.append_nil]; exact HO3.out)
      clear HB HO HB2 HO2 HO3
      go_loopg [5, 25] C (fun r v i wi => ∃ (j n : Nat) (v5 : Value), j + r = C ∧ i = .int .i64 j ∧ v = v5 ∧ Hid (wi.ownsRow w.heap.size 51 3 v5 n ((kTo s f k ++ mapTo s.size p k L j).flatMap MarkR.cells)) ∧ Hid (Places wi v5 A11 C (I64 L)) ∧ Hid (Below w.heap.size w wi))
      case atStart => exact ⟨0, n, u5, by omega, rfl, rfl, HO4, HPL, HB3⟩
      case round =>
        clear HO4 HPL HB3
        obtain ⟨j, n5, v5, hjm, rfl, hvv, HO5, HPL, HB5⟩ := hrel
        subst hvv
        have HJ := Hid.in_ hjm
        have hjC : j ≤ C := by omega
        clear hjm
        have hn5 : n5 ≤ 100000 := by
          rw [own_n HO5.out, List.length_append]
          have := HKL.out k
          have := mapTo_len s.size p k L j
          omega
        by_cases hjl : j < C
        · obtain ⟨x, hx⟩ := get_lt L j (by rw [HC.out]; exact hjl)
          obtain ⟨q, rfl, hqn⟩ := HMEM.out _ (List.mem_of_getElem? hx)
          have HKT := Hid.in_ (mapTo_succ (n := s.size) (p := p) (k := k) hx)
          obtain ⟨g11, rfl, hg11, hx11, _⟩ := HPL.out.at_ (by omega)
          have cx : wr.cell? ⟨g11, j, none⟩ = some (.int .i64 (q : Int)) := hx11 j _ (by unfold I64; rw [List.getElem?_map, hx]; rfl)
          clear hx hx11
          obtain ⟨bq, hbq⟩ : ∃ bq : Int, ((q : Int) + (p.size : Int)) % (s.size : Int) = bq := ⟨_, rfl⟩
          have HMK2 := Hid.in_ (show mkAt s.size p k (q : Int) = ⟨(k : Int), (q : Int), bq⟩ by unfold mkAt; rw [hbq])
          have hb1 : 0 ≤ bq := by rw [← hbq]; exact Int.emod_nonneg _ (by omega)
          have hb2 : bq < (s.size : Int) := by rw [← hbq]; exact Int.emod_lt_of_pos _ (by omega)
          have hnz : ¬ (s.size : Int) = 0 := by omega
          have hnz2 : ¬ s.size = 0 := by omega
          have hnp : (0 : Int) < s.size := by omega
          go_wp2_with (at_builtin; refine wpList_append_lies _ rfl _ _ 22 rfl w.heap.size 51 i0 (.agg #[.int .i64 0, .int .i64 0, .int .i64 0]) 3 24 Tryz.underlying22 hti hz0 hz1 hz2 rfl (by decide) _ _ _ rfl (HO5.out.alloc _) ⟨wr.heap.size, 0, none⟩ 1 1 [.int .i64 k, .int .i64 q, .int .i64 bq] rfl rfl (cells3m rfl) (fun x hx => by simp at hx; rcases hx with rfl | rfl | rfl <;> rfl) (by decide) (by unfold maxLen; omega) (by omega) (balloc HB5.out _).size _ rfl ?_; intro g6 cp6 w6 ho6 hg6 hat6 hlt6)
          have HB6 := Hid.in_ (bgrown (balloc HB5.out _) (HO5.out.alloc _) (Nat.le_refl _) hg6)
          have HPL6 := Hid.in_ ((HPL.out.alloc (.cells #[.int .i64 k, .int .i64 q, .int .i64 bq] 51)).step (v' := .slice (some ⟨g6, 0, none⟩) (n5 + 1) cp6) hg6 (by
            rcases hat6 with h | h
            · exact .inl h.symm
            · exact .inr ⟨g6, rfl, by omega⟩))
          have HO6 := Hid.in_ (show w6.ownsRow w.heap.size 51 3 (.slice (some ⟨g6, 0, none⟩) (n5 + 1) cp6) (n5 + 1) ((kTo s f k ++ mapTo s.size p k L (j + 1)).flatMap MarkR.cells) by
            rw [HKT.out, ← List.append_assoc, List.flatMap_append, HMK2.out]
            exact ho6)
          clear ho6 hg6 hat6 hbq
          have hj := HJ.out
          go_roundg (gk - 1)
          case measure => omega
          case rel => exact ⟨j + 1, n5 + 1, _, by omega, by go_num, rfl, HO6, HPL6, HB6⟩
        · have hj := HJ.out
          have hk := HK.out
          have HO6 := Hid.in_ (show wr.ownsRow w.heap.size 51 3 u5 n5 ((kTo s f (k + 1)).flatMap MarkR.cells) by
            rw [HKS.out, ← HALL.out j (by rw [HC.out]; omega)]
            exact HO5.out)
          go_wp2
          go_roundg (gO - 1)
          case measure => omega
          case rel => exact ⟨k + 1, n5, u5, by omega, by omega, by go_num, rfl, HO6, HB5⟩
    · have hk := HK.out
      obtain rfl : k = 4 := by omega
      obtain ⟨A, c, hA0, _, _, hA⟩ := own_shape HO.out
      subst hA0
      have hn5 : n ≤ 100000 := by
        rw [own_n HO.out]
        have := HKL.out 4
        omega
      by_cases hn : n = 0
      · subst hn
        have HN := Hid.in_ (fun w => sort_none A c (.func (.func 69) #[] #[]) w)
        have HZ := Hid.in_ (show kTo s f 4 = [] from List.eq_nil_of_length_eq_zero (own_n HO.out).symm)
        clear hA
        go_wp2_with (go_at_call 68; refine (HN.out _).mono ?_; rintro e w1 ⟨rfl, rfl⟩)
        go_ret
        exact ⟨0, _, rfl, by have := HO.out; rw [HRAW.out, HZ.out]; rw [HZ.out] at this; exact this, HB.out⟩
      · obtain ⟨g, rfl, _⟩ := hA (by omega)
        have HS := Hid.in_ (sort_marks wr HO.out hn5)
        clear hA
        go_wp2_with (go_at_call 68; refine HS.out.mono ?_; rintro e w1 ⟨rfl, d', hp, hs, ho1, hb1⟩)
        go_ret
        exact ⟨n, _, rfl, by rw [HRAW.out, ← insM_eq hp hs HAP.out]; exact ho1, HB.out.trans hb1⟩
end Go.Proofs.YtlelgpknkgjaeaaGreatDoor

/- 'gcrMarks' of the program: the marks of the group code. -/
namespace Go.Proofs.YtlelgpknkgjaeaaGreatDoor
open Go.ChangeShapes Go.WideShapes Go.ChangeAt Go.RowKit
set_option linter.unusedSimpArgs false
set_option linter.unusedVariables false
set_option maxRecDepth 4000

theorem fits_mod (s p : ByteArray) (e : Nat) : fitsB s p (e % s.size) = fitsB s p e := by
  have h : sliceL s.data.toList (e % s.size) p.size = sliceL s.data.toList e p.size := by
    apply List.ext_getElem?
    intro i
    by_cases hi : i < p.size
    · rw [sliceL_get hi, sliceL_get hi, Nat.mod_add_mod]
    · rw [List.getElem?_eq_none (by rw [sliceL_len]; omega), List.getElem?_eq_none (by rw [sliceL_len]; omega)]
  unfold fitsB
  rw [h]
theorem syncV_mem {s : ByteArray} (hv : validCells s = true) {r : RunR} (h : r ∈ syncV s) : ∃ i q : Nat, r = ⟨(i : Int), (q : Int)⟩ ∧ i < s.size ∧ q ≤ s.size ∧ 10 ≤ s.size := by
  obtain ⟨v1, v2, v3⟩ := valid_size hv
  unfold syncV at h
  rw [if_pos hv] at h
  split at h
  · split at h
    · rename_i h10
      rw [List.mem_singleton] at h
      exact ⟨0, s.size, h, v1, Nat.le_refl _, h10⟩
    · cases h
  · obtain ⟨j, e, hj, hs⟩ := syncTo_mem h
    unfold syncAt at hs
    rw [Bool.and_eq_true, decide_eq_true_eq] at hs
    have := cnt_le s j
    exact ⟨j, cnt s j, e, hj, this, by omega⟩
def gTo (s : ByteArray) (j : Nat) : List MarkR := ((syncV s).take j).flatMap (gcrAt s)
theorem gTo_succ {s : ByteArray} {j : Nat} {r : RunR} (h : (syncV s)[j]? = some r) : gTo s (j + 1) = gTo s j ++ gcrAt s r := by
  unfold gTo; rw [List.take_add_one, h, List.flatMap_append]; simp
theorem gTo_all {s : ByteArray} {j : Nat} (h : (syncV s).length ≤ j) : gTo s j = gcrI s := by
  unfold gTo gcrI; rw [List.take_of_length_le h]
def oneTo (s : ByteArray) (r : RunR) : Nat → List MarkR
  | 0 => []
  | k + 1 => oneTo s r k ++ (if k = 0 then [] else gcrOne s r k)
theorem oneTo_succ {s : ByteArray} {r : RunR} {k : Nat} (h : 1 ≤ k) : oneTo s r (k + 1) = oneTo s r k ++ gcrOne s r k := by
  show oneTo s r k ++ (if k = 0 then [] else gcrOne s r k) = _
  rw [if_neg (by omega)]
theorem oneTo_all (s : ByteArray) (r : RunR) : oneTo s r 4 = gcrAt s r := by
  rw [oneTo_succ (by decide), oneTo_succ (by decide), oneTo_succ (by decide)]
  rfl
theorem gcrOne_len (s : ByteArray) (r : RunR) (k : Int) : (gcrOne s r k).length ≤ 1 := by
  unfold gcrOne
  split <;> simp
theorem oneTo_len (s : ByteArray) (r : RunR) : ∀ k, (oneTo s r k).length ≤ k
  | 0 => Nat.le_refl _
  | k + 1 => by
    show (oneTo s r k ++ (if k = 0 then [] else gcrOne s r k)).length ≤ _
    rw [List.length_append]
    have := oneTo_len s r k
    have := gcrOne_len s r k
    have hx : ((if k = 0 then [] else gcrOne s r k) : List MarkR).length ≤ 1 := by
      split
      · exact Nat.zero_le _
      · omega
    omega
theorem gTo_len (s : ByteArray) (j : Nat) : (gTo s j).length ≤ j := by
  have h : ∀ L : List RunR, (L.flatMap (gcrAt s)).length ≤ L.length := by
    intro L
    induction L with
    | nil => exact Nat.le_refl _
    | cons r L ih =>
      rw [List.flatMap_cons, List.length_append, List.length_cons]
      rcases gcrAt_len s r with e | ⟨m, e, _⟩ <;> rw [e] <;> simp only [List.length_nil, List.length_singleton] <;> omega
  exact Nat.le_trans (h _) (by rw [List.length_take]; exact Nat.min_le_left _ _)
theorem code_eq {s c : ByteArray} {q : Nat} (hc : c.size = 10) (h : fitsB s c q = true) : sliceS s q 10 = c := by
  have := of_decide_eq_true h
  rw [hc] at this
  unfold sliceS
  rw [this]
theorem code_ne {s c : ByteArray} {q : Nat} (hc : c.size = 10) (h : fitsB s c q = false) : ¬ sliceS s q 10 = c := by
  intro e
  refine absurd h ?_
  have : fitsB s c q = true := by
    refine decide_eq_true ?_
    rw [hc, ← e]
    rfl
  rw [this]; decide

theorem list_neq {a b : ByteArray} (h : a ≠ b) : (a.toList == b.toList) = false := by
  rw [beq_eq_false_iff_ne]
  intro he
  refine h (ByteArray.ext (Array.toList_inj.1 ?_))
  rw [Go.ByteArray.toList_eq, Go.ByteArray.toList_eq] at he
  exact he
theorem code_eqL {s c : ByteArray} {q : Nat} (hc : c.size = 10) (h : fitsB s c q = true) : (c.toList == (sliceS s q 10).toList) = true := by
  rw [code_eq hc h]; simp
theorem code_neL {s c : ByteArray} {q : Nat} (hc : c.size = 10) (h : fitsB s c q = false) : (c.toList == (sliceS s q 10).toList) = false :=
  list_neq (fun e => code_ne hc h e.symm)
theorem Places.below {w w' : World} {v : Value} {A : Option Addr} {C : Nat} {X : List Value} (h : Places w v A C X) (hb : Below w.heap.size w w') : Places w' v A C X := by
  refine ⟨fun hc => ?_⟩
  obtain ⟨g, e, hl, hx, hne⟩ := h.at_ hc
  exact ⟨g, e, Nat.lt_of_lt_of_le hl hb.size, hx.step hb, hne⟩
theorem fresh2 {t : TypeId} (w : World) (a0 a1 : Value) : Box (w.alloc (.cells #[a0, a1] t)) w.heap.size [a0, a1] := fun j u hu => by
  have h := World.ownsRow_lit (e := t) w #[a0, a1] 1 (base := w.heap.size) (size := 2) (Nat.le_refl _) (by decide) rfl
  have := h.cells (g := w.heap.size) rfl j u hu
  rwa [addr_add, Nat.zero_add] at this
theorem Places.fresh {w : World} {v : Value} {a0 a1 : Value} {t : TypeId} {b n : Nat} {e : TypeId} {z : Nat} {xs : List Value} (h : w.ownsRow b e z v n xs) : Places (w.alloc (.cells #[a0, a1] t)) v (some ⟨w.heap.size, 0, none⟩) 1 [a0, a1] :=
  ⟨fun _ => ⟨w.heap.size, rfl, by simp, fresh2 w a0 a1, fun e => by have := (h.lt _ e).2; omega⟩⟩
theorem cells3d {w : World} {g : Nat} {a0 a1 a2 : Value} {t : TypeId} (hg : g = w.heap.size) : ∀ j u, ([a0, a1, a2] : List Value)[j]? = some u → ((w.alloc (.cells #[a0, a1, a2] t)).drewN 1).cell? ((⟨g, 0, none⟩ : Addr).add j) = some u := fun j u hu => cells3m hg j u hu
set_option maxHeartbeats 4000000 in
theorem impl_gcrMarks (s : ByteArray) (w : World) (hv : validCells s = true) (hT : Tab w) :
    Calls Tryz.prog 67 #[.string s] w fun e w' => ∃ n v, e = .returned v ∧ w'.ownsRow w.heap.size 51 3 v n ((gcrI s).flatMap MarkR.cells) ∧ Below w.heap.size w w' := by
  obtain ⟨i0, hti, hz0, hz1, hz2⟩ := info_parts Tryz.info_Mark
  obtain ⟨v1, v2, v3⟩ := valid_size hv
  have HMK := Hid.in_ (fun (k : Nat) (h1 : 1 ≤ k) (h2 : k ≤ 3) w hT => impl_mark 3 k rfl h1 h2 w hT)
  have HSY := Hid.in_ (fun w => impl_syncRuns s w hv)
  have HSL := Hid.in_ (fun q w (h1 : q < s.size) (h2 : 10 ≤ s.size) => impl_slice s q 10 w (by omega) h1 h2)
  have HSM := Hid.in_ (fun r (h : r ∈ syncV s) => syncV_mem hv h)
  have HTB := Hid.in_ hT
  have HVL := Hid.in_ (syncV_len s)
  obtain ⟨D, hD⟩ : ∃ D, (syncV s).length = D := ⟨_, rfl⟩
  rw [hD] at HSY HVL
  have HD := Hid.in_ hD
  clear hv v3 hT hD
  go_enter Tryz.func67, Tryz.ntmps67
  go_wp2_with (go_at_call 101; refine (HSY.out _).mono ?_; rintro e w1 ⟨v13, rfl, ho13, hb13⟩; obtain ⟨A13, c13, rfl, hl13, hn13, hA13⟩ := own_shape ho13)
  have HPL0 := Hid.in_ (show Places w1 (.slice none 0 0) A13 D ((syncV s).flatMap RunR.cells) from ⟨fun hc => by
    obtain ⟨g, rfl, _, h2, h3, _⟩ := hA13 hc
    exact ⟨g, rfl, h2, h3, fun e => by cases e⟩⟩)
  have HB1 := Hid.in_ hb13
  clear ho13 hb13 hA13 hl13
  go_loopg [4, 15] D (fun r v i wr => ∃ (j n : Nat) (v5 : Value), j + r = D ∧ i = .int .i64 j ∧ v = v5 ∧ Hid (wr.ownsRow w.heap.size 51 3 v5 n ((gTo s j).flatMap MarkR.cells)) ∧ Hid (Places wr v5 A13 D ((syncV s).flatMap RunR.cells)) ∧ Hid (Below w.heap.size w wr))
  case atStart => exact ⟨0, 0, _, by omega, rfl, rfl, World.ownsRow_nil _ _ _ _, HPL0, HB1⟩
  case round =>
    obtain ⟨j, n, v5, hjm, rfl, hvv, HO, HPL, HB⟩ := hrel
    subst hvv
    have HJ := Hid.in_ hjm
    have hvl := HVL.out
    have hjD : j ≤ D := by omega
    clear hjm
    by_cases hlt : j < D
    · obtain ⟨r, hr⟩ := get_lt (syncV s) j (by rw [HD.out]; exact hlt)
      have HG := Hid.in_ (gTo_succ hr)
      obtain ⟨i, q, rfl, his, hqs, h10⟩ := HSM.out _ (List.mem_of_getElem? hr)
      obtain ⟨g7, rfl, hg7, hx7, hne7⟩ := HPL.out.at_ (by omega)
      have hbx := Box.elem RunR.len hx7 hr
      have cx : wr.cell? ⟨g7, j * 2, none⟩ = some (.int .i64 (i : Int)) := by have := hbx 0 _ rfl; simpa using this
      have cy : wr.cell? ⟨g7, j * 2 + 1, none⟩ = some (.int .i64 (q : Int)) := hbx 1 _ rfl
      obtain ⟨e, he⟩ : ∃ e, i + q = e := ⟨_, rfl⟩
      obtain ⟨o, ho⟩ : ∃ o, e % s.size = o := ⟨_, rfl⟩
      have hos : o < s.size := by rw [← ho]; exact Nat.mod_lt _ v1
      have hm : ((i : Int) + (q : Int)) % (s.size : Int) = (o : Int) := by rw [← ho, ← he]; simp
      have hnz : ¬ (s.size : Int) = 0 := by omega
      have hnz2 : ¬ s.size = 0 := by omega
      have hnp : (0 : Int) < s.size := by omega
      have HHIT := Hid.in_ (show ∀ k : Nat, hitG s ⟨(i : Int), (q : Int)⟩ k = fitsB s (codeG k) o from fun k => by
        unfold hitG
        rw [← ho, fits_mod, show endG ⟨(i : Int), (q : Int)⟩ = e by unfold endG; show ((i : Int) + (q : Int)).toNat = e; omega])
      have HEND := Hid.in_ (show ((endG ⟨(i : Int), (q : Int)⟩ : Nat) + 10 : Int) % (s.size : Int) = ((o : Int) + 10) % (s.size : Int) by
        rw [show endG ⟨(i : Int), (q : Int)⟩ = e by unfold endG; show ((i : Int) + (q : Int)).toNat = e; omega, ← ho, Int.natCast_emod, Int.emod_add_emod])
      clear hr hbx hx7 he ho
      have HSL1 := HSL.out o (wr.alloc (.cells #[.int .i64 (i : Int), .int .i64 (q : Int)] 85)) hos h10
      have hYE := fun c => code_eqL (s := s) (c := c) (q := o)
      have hYN := fun c => code_neL (s := s) (c := c) (q := o)
      obtain ⟨y, hy⟩ : ∃ y, sliceS s o 10 = y := ⟨_, rfl⟩
      rw [hy] at HSL1 hYE hYN
      have HYE := Hid.in_ hYE
      have HYN := Hid.in_ hYN
      have HSL2 := Hid.in_ HSL1
      clear hy hYE hYN HSL1
      go_wp2_with fail
      rw [hm]
      refine HSL2.out.mono ?_
      rintro e w2 ⟨rfl, hb2⟩
      have HB2 := Hid.in_ ((balloc HB.out (.cells #[.int .i64 (i : Int), .int .i64 (q : Int)] 85)).trans (hb2.mono (balloc HB.out _).size))
      have HPB := Hid.in_ ((Places.fresh (t := 85) (a0 := .int .i64 (i : Int)) (a1 := .int .i64 (q : Int)) HO.out).below hb2)
      have HPL2 := Hid.in_ ((HPL.out.alloc (.cells #[.int .i64 (i : Int), .int .i64 (q : Int)] 85)).below hb2)
      have HO2 := Hid.in_ (show w2.ownsRow w.heap.size 51 3 u4 n ((gTo s j ++ oneTo s ⟨(i : Int), (q : Int)⟩ 1).flatMap MarkR.cells) by
        rw [show oneTo s ⟨(i : Int), (q : Int)⟩ 1 = [] from rfl, List.append_nil]
        exact own_below (HO.out.alloc _) hb2 (Nat.le_refl _))
      clear hb2 HB HPL HO cx cy
      go_wp2_with fail
      obtain ⟨gO, rfl⟩ : ∃ g, g = gk := ⟨_, rfl⟩
      obtain ⟨wo, rfl⟩ : ∃ wo : World, wo = wr := ⟨_, rfl⟩
      go_loopg [4, 9] 3 (fun r v x wi => ∃ (k n : Nat) (v5 : Value), 1 ≤ k ∧ k + r = 4 ∧ x = .int .i64 k ∧ v = v5 ∧ Hid (wi.ownsRow w.heap.size 51 3 v5 n ((gTo s j ++ oneTo s ⟨(i : Int), (q : Int)⟩ k).flatMap MarkR.cells)) ∧ Hid (Places wi v5 (some ⟨g7, 0, none⟩) D ((syncV s).flatMap RunR.cells)) ∧ Hid (Places wi v5 (some ⟨wo.heap.size, 0, none⟩) 1 [.int .i64 (i : Int), .int .i64 (q : Int)]) ∧ Hid (Below w.heap.size w wi))
      case atStart => exact ⟨1, n, u4, by omega, by omega, by go_num, rfl, HO2, HPL2, HPB, HB2⟩
      case round =>
        clear HO2 HPL2 HPB HB2
        obtain ⟨k, n5, v5, hk1, hkm, rfl, hvv, HO5, HPL, HPB, HB5⟩ := hrel
        subst hvv
        have HK := Hid.in_ hkm
        have hk4 : k ≤ 4 := by omega
        clear hkm
        have hn5 : n5 ≤ 100000 := by
          rw [own_n HO5.out, List.length_append]
          have := gTo_len s j
          have := oneTo_len s ⟨(i : Int), (q : Int)⟩ k
          omega
        by_cases hlt2 : k ≤ 3
        · have hp20 := pat3_size hk1 hlt2
          have hex := code_pat hk1 hlt2
          have HM := Hid.in_ (HMK.out k hk1 hlt2)
          have HONE := Hid.in_ (oneTo_succ (s := s) (r := ⟨(i : Int), (q : Int)⟩) hk1)
          have hhit := HHIT.out k
          obtain ⟨p, hp⟩ : ∃ p, patM 3 k = p := ⟨_, rfl⟩
          obtain ⟨c, hc⟩ : ∃ c, codeG k = c := ⟨_, rfl⟩
          rw [hp, hc] at hp20 hex
          rw [hp] at HM
          rw [hc] at hhit
          obtain ⟨hps, hcs⟩ := hp20
          rw [hps] at hex
          have HC10 := Hid.in_ hcs
          clear hp hc hcs
          go_wp2_with fail
          refine (HM.out _ (HTB.out.step HB5.out)).mono ?_
          rintro e w3 ⟨rfl, hb3⟩
          have HB6 := Hid.in_ (HB5.out.trans (hb3.mono HB5.out.size))
          have HO6 := Hid.in_ (own_below HO5.out hb3 (Nat.le_refl _))
          have HPL6 := Hid.in_ (HPL.out.below hb3)
          have HPB6 := Hid.in_ (HPB.out.below hb3)
          clear hb3 HB5 HO5 HPL HPB
          cases hfit : fitsB s c o
          · have hne := HYN.out c HC10.out hfit
            have HN := Hid.in_ (show oneTo s ⟨(i : Int), (q : Int)⟩ (k + 1) = oneTo s ⟨(i : Int), (q : Int)⟩ k by rw [HONE.out, gcrOne_no (by rw [hhit]; exact hfit), List.append_nil])
            clear hhit hfit
            have hk := HK.out
            go_wp2
            go_roundg (gk - 1)
            case measure => omega
            case rel => exact ⟨k + 1, n5, u4, by omega, by omega, by go_num, rfl, by rw [HN.out]; exact HO6, HPL6, HPB6, HB6⟩
          · have hse := HYE.out c HC10.out hfit
            obtain ⟨bq, hbq⟩ : ∃ bq : Int, ((o : Int) + 10) % (s.size : Int) = bq := ⟨_, rfl⟩
            have HN := Hid.in_ (show oneTo s ⟨(i : Int), (q : Int)⟩ (k + 1) = oneTo s ⟨(i : Int), (q : Int)⟩ k ++ [⟨(k : Int), (i : Int), bq⟩] by
              rw [HONE.out, gcrOne_yes (by rw [hhit]; exact hfit), HEND.out, hbq])
            clear hhit hfit
            have hb1 : 0 ≤ bq := by rw [← hbq]; exact Int.emod_nonneg _ (by omega)
            have hb2 : bq < (s.size : Int) := by rw [← hbq]; exact Int.emod_lt_of_pos _ (by omega)
            have htm : ((o : Int) + 10).tmod (s.size : Int) = bq := by rw [Int.tmod_eq_emod_of_nonneg (by omega)]; exact hbq
            have hwr : IntKind.i64.wrap ((o : Int) + 10) = (o : Int) + 10 := by simp [IntKind.wrap, IntKind.bits, IntKind.signed]; omega
            have hwb : IntKind.i64.wrap bq = bq := by simp [IntKind.wrap, IntKind.bits, IntKind.signed]; omega
            obtain ⟨gB, hgB, hlB, hxB, _⟩ := HPB6.out.at_ (by decide)
            injection hgB with hgB
            injection hgB with hgB
            subst hgB
            have cB : w3.cell? ⟨wo.heap.size, 0, none⟩ = some (.int .i64 (i : Int)) := hxB 0 _ rfl
            clear hbq hxB
            go_wp2_with fail
            go_region_law (refine step_append_lies _ rfl (.tmp 38) (.tmp 47) 22 rfl w.heap.size 51 i0 (.agg #[.int .i64 0, .int .i64 0, .int .i64 0]) 3 24 Tryz.underlying22 hti hz0 hz1 hz2 rfl (by decide) _ _ _ (by simp [Act.eval, Act.put]) (own_drewN (HO6.out.alloc _) 1) ⟨w3.heap.size, 0, none⟩ 1 1 [.int .i64 k, .int .i64 i, .int .i64 bq] (by simp [Act.eval, Act.put]) rfl (cells3d rfl) (fun x hx => by simp at hx; rcases hx with rfl | rfl | rfl <;> rfl) (by decide) (by unfold maxLen; omega) (by omega) (balloc HB6.out _).size _ rfl ?_; intro g6 cp6 w6 ho6 hg6 hat6 hlt6)
            all_goals
              have HB8 := Hid.in_ (bgrown (balloc HB6.out _).drew (own_drewN (HO6.out.alloc _) 1) (Nat.le_refl _) hg6)
              have hat : (Value.slice (some ⟨g6, 0, none⟩) (n5 + 1) cp6).ownBlock = u4.ownBlock ∨ ∃ g, (Value.slice (some ⟨g6, 0, none⟩) (n5 + 1) cp6).ownBlock = some g ∧ w3.heap.size < g := by
                rcases hat6 with h | h
                · exact .inl h.symm
                · refine .inr ⟨g6, rfl, ?_⟩
                  rw [h]
                  simp [World.drewN, World.drew]
              have HPL8 := Hid.in_ (((HPL6.out.alloc (.cells #[.int .i64 k, .int .i64 i, .int .i64 bq] 51)).below (Below.refl _ _).drew).step (v' := .slice (some ⟨g6, 0, none⟩) (n5 + 1) cp6) hg6 (hat.imp id (fun ⟨g, a, b⟩ => ⟨g, a, by simp [World.drewN, World.drew]; omega⟩)))
              have HPB8 := Hid.in_ (((HPB6.out.alloc (.cells #[.int .i64 k, .int .i64 i, .int .i64 bq] 51)).below (Below.refl _ _).drew).step (v' := .slice (some ⟨g6, 0, none⟩) (n5 + 1) cp6) hg6 (hat.imp id (fun ⟨g, a, b⟩ => ⟨g, a, by simp [World.drewN, World.drew]; omega⟩)))
              have HO8 := Hid.in_ (show w6.ownsRow w.heap.size 51 3 (.slice (some ⟨g6, 0, none⟩) (n5 + 1) cp6) (n5 + 1) ((gTo s j ++ oneTo s ⟨(i : Int), (q : Int)⟩ (k + 1)).flatMap MarkR.cells) by
                rw [HN.out, ← List.append_assoc, List.flatMap_append]
                exact ho6)
              clear ho6 hg6 hat6 hat
              have hk := HK.out
              go_wp2
              go_roundg (gk - 1)
              case measure => omega
              case rel => exact ⟨k + 1, n5 + 1, _, by omega, by omega, by go_num, rfl, HO8, HPL8, HPB8, HB8⟩
        · have hk := HK.out
          obtain rfl : k = 4 := by omega
          have hj := HJ.out
          have HO6 := Hid.in_ (show wr.ownsRow w.heap.size 51 3 u4 n5 ((gTo s (j + 1)).flatMap MarkR.cells) by
            rw [HG.out, ← oneTo_all]
            exact HO5.out)
          go_wp2
          go_roundg (gO - 1)
          case measure => omega
          case rel => exact ⟨j + 1, n5, u4, by omega, by go_num, rfl, HO6, HPL, HB5⟩
    · have hj := HJ.out
      obtain rfl : j = D := by omega
      go_wp2
      go_ret
      exact ⟨n, _, rfl, by rw [← gTo_all (j := j) (by rw [HD.out]; omega)]; exact HO.out, HB.out⟩
end Go.Proofs.YtlelgpknkgjaeaaGreatDoor

/- 'FindMarks' of the reference. -/
namespace Go.Proofs.YtlelgpknkgjaeaaGreatDoor
open Go.ChangeShapes Go.WideShapes Go.ChangeAt Go.RowKit
set_option linter.unusedSimpArgs false
set_option linter.unusedVariables false
set_option maxRecDepth 4000

set_option maxHeartbeats 1000000 in
theorem spec_FindMarks (s : ByteArray) (f : Int) (w : World) (hs : s.size ≤ 1048576) :
    Calls Tryz.prog 7 #[.string s, .int .i64 f] w fun e w' => ∃ v, e = .returned (.tuple #[v, .int .i64 (fmCode s f)]) ∧ w'.ownsRow w.heap.size 51 3 v (fmVal s f).length ((fmVal s f).flatMap MarkR.cells) ∧ Below w.heap.size w w' := by
  have HC := Hid.in_ (fun w => spec_ValidCells s w (by omega))
  have HF := Hid.in_ (fun w => spec_l07Format f w)
  cases hv : validCells s
  · obtain ⟨e1, e2⟩ := fm_bad (s := s) (f := f) (by unfold fmOk; rw [hv]; rfl)
    have HE := Hid.in_ e1
    have HE2 := Hid.in_ e2
    rw [hv] at HC
    clear e1 e2 hv
    go_enter Tryz.func7, Tryz.ntmps7
    go_wp2_with (first | (go_at_call 33; refine (HC.out _).mono ?_; rintro e w0 ⟨rfl, rfl⟩) | (go_at_call 34; refine (HF.out _).mono ?_; rintro e w0 ⟨rfl, rfl⟩))
    go_ret2
    rw [HE.out, HE2.out]
    exact ⟨_, rfl, World.ownsRow_nil _ _ _ _, Below.refl _ _⟩
  · cases hf : inB f 1 3
    · obtain ⟨e1, e2⟩ := fm_bad (s := s) (f := f) (by unfold fmOk; rw [hv, hf]; rfl)
      have HE := Hid.in_ e1
      have HE2 := Hid.in_ e2
      rw [hv] at HC
      rw [hf] at HF
      clear e1 e2 hv hf
      go_enter Tryz.func7, Tryz.ntmps7
      go_wp2_with (first | (go_at_call 33; refine (HC.out _).mono ?_; rintro e w0 ⟨rfl, rfl⟩) | (go_at_call 34; refine (HF.out _).mono ?_; rintro e w0 ⟨rfl, rfl⟩))
      go_ret2
      rw [HE.out, HE2.out]
      exact ⟨_, rfl, World.ownsRow_nil _ _ _ _, Below.refl _ _⟩
    · have HM := Hid.in_ (fun w => spec_l07Marks s f w hv hf)
      have HOK := Hid.in_ (show fmOk s f = true by unfold fmOk; rw [hv, hf]; rfl)
      rw [hv] at HC
      rw [hf] at HF
      clear hv hf
      go_enter Tryz.func7, Tryz.ntmps7
      go_wp2_with (first | (go_at_call 33; refine (HC.out _).mono ?_; rintro e w0 ⟨rfl, rfl⟩) | (go_at_call 34; refine (HF.out _).mono ?_; rintro e w0 ⟨rfl, rfl⟩))
      refine (HM.out _).mono ?_
      rintro e w1 ⟨n, g, cap, rfl, ho1, hb1⟩
      have hn := own_n ho1
      have HO := Hid.in_ ho1
      have HB := Hid.in_ (show Below w.heap.size w w1 from hb1)
      clear ho1 hb1
      by_cases hl : n ≤ 64
      · obtain ⟨e1, e2⟩ := fm_good HOK.out (by rw [← hn]; exact hl)
        have HE := Hid.in_ e1
        have HE2 := Hid.in_ e2
        have HN := Hid.in_ hn
        clear e1 e2 hn
        go_wp2
        go_ret2
        rw [HE.out, HE2.out, ← HN.out]
        exact ⟨_, rfl, HO.out, HB.out⟩
      · obtain ⟨e1, e2⟩ := fm_full HOK.out (by rw [← hn]; exact hl)
        have HE := Hid.in_ e1
        have HE2 := Hid.in_ e2
        clear e1 e2 hn
        go_wp2
        go_ret2
        rw [HE.out, HE2.out]
        exact ⟨_, rfl, World.ownsRow_nil _ _ _ _, HB.out⟩
end Go.Proofs.YtlelgpknkgjaeaaGreatDoor

/- 'findMarks', 'FindMarks' of the program. -/
namespace Go.Proofs.YtlelgpknkgjaeaaGreatDoor
open Go.ChangeShapes Go.WideShapes Go.ChangeAt Go.RowKit
set_option linter.unusedSimpArgs false
set_option linter.unusedVariables false
set_option maxRecDepth 4000

set_option maxHeartbeats 1000000 in
theorem impl_findMarks (s : ByteArray) (f : Int) (w : World) (hv : validCells s = true) (hf : inB f 1 3 = true) (hT : Tab w) :
    Calls Tryz.prog 38 #[.string s, .int .i64 f] w fun e w' => ∃ n v, e = .returned v ∧ w'.ownsRow w.heap.size 51 3 v n ((marksV s f).flatMap MarkR.cells) ∧ Below w.heap.size w w' := by
  by_cases hf3 : f = 3
  · subst hf3
    have HG := Hid.in_ (impl_gcrMarks s w hv hT)
    have HE := Hid.in_ (show gcrI s = marksV s 3 by rw [gcr_eq hv]; rfl)
    clear hv hf hT
    go_enter Tryz.func38, Tryz.ntmps38
    go_wp2_with (go_at_call 67; refine HG.out.mono ?_; rintro e w1 ⟨n, v, rfl, ho, hb⟩)
    go_ret
    exact ⟨n, v, rfl, by rw [← HE.out]; exact ho, hb⟩
  · exact impl_findMarks_f s f w hv hf hf3 hT
set_option maxHeartbeats 1000000 in
theorem impl_FindMarks (s : ByteArray) (f : Int) (w : World) (hs : s.size ≤ 1048576) (hT : Tab w) :
    Calls Tryz.prog 8 #[.string s, .int .i64 f] w fun e w' => ∃ v, e = .returned (.tuple #[v, .int .i64 (fmCode s f)]) ∧ w'.ownsRow w.heap.size 51 3 v (fmVal s f).length ((fmVal s f).flatMap MarkR.cells) ∧ Below w.heap.size w w' := by
  have HC := Hid.in_ (fun w => impl_ValidCells s w (by omega))
  have HF := Hid.in_ (fun w => impl_isFormat f w)
  have HTB := Hid.in_ hT
  clear hT
  cases hv : validCells s
  · obtain ⟨e1, e2⟩ := fm_bad (s := s) (f := f) (by unfold fmOk; rw [hv]; rfl)
    have HE := Hid.in_ e1
    have HE2 := Hid.in_ e2
    rw [hv] at HC
    clear e1 e2 hv
    go_enter Tryz.func8, Tryz.ntmps8
    go_wp2_with (first | (go_at_call 36; refine (HC.out _).mono ?_; rintro e w0 ⟨rfl, hb0⟩; have HB0 := Hid.in_ hb0; clear hb0) | (go_at_call 37; refine (HF.out _).mono ?_; rintro e w3 ⟨rfl, rfl⟩))
    go_ret2
    rw [HE.out, HE2.out]
    exact ⟨_, rfl, World.ownsRow_nil _ _ _ _, HB0.out⟩
  · cases hf : inB f 1 3
    · obtain ⟨e1, e2⟩ := fm_bad (s := s) (f := f) (by unfold fmOk; rw [hv, hf]; rfl)
      have HE := Hid.in_ e1
      have HE2 := Hid.in_ e2
      rw [hv] at HC
      rw [hf] at HF
      clear e1 e2 hv hf
      go_enter Tryz.func8, Tryz.ntmps8
      go_wp2_with (first | (go_at_call 36; refine (HC.out _).mono ?_; rintro e w0 ⟨rfl, hb0⟩; have HB0 := Hid.in_ hb0; clear hb0) | (go_at_call 37; refine (HF.out _).mono ?_; rintro e w3 ⟨rfl, rfl⟩))
      go_ret2
      rw [HE.out, HE2.out]
      exact ⟨_, rfl, World.ownsRow_nil _ _ _ _, HB0.out⟩
    · have HM := Hid.in_ (fun w hT => impl_findMarks s f w hv hf hT)
      have HOK := Hid.in_ (show fmOk s f = true by unfold fmOk; rw [hv, hf]; rfl)
      have HLN := Hid.in_ (marksV_len (f := f) hv)
      rw [hv] at HC
      rw [hf] at HF
      clear hv hf
      go_enter Tryz.func8, Tryz.ntmps8
      go_wp2_with (first | (go_at_call 36; refine (HC.out _).mono ?_; rintro e w0 ⟨rfl, hb0⟩; have HB0 := Hid.in_ hb0; clear hb0) | (go_at_call 37; refine (HF.out _).mono ?_; rintro e w3 ⟨rfl, rfl⟩))
      refine (HM.out _ (HTB.out.step HB0.out)).mono ?_
      rintro e w1 ⟨n, v, rfl, ho1, hb1⟩
      obtain ⟨A, c, hv0, hlv, hnv, hAv⟩ := own_shape ho1
      subst hv0
      have hn := own_n ho1
      have HO := Hid.in_ (own_base ho1 HB0.out.size)
      have HB := Hid.in_ (HB0.out.trans (hb1.mono HB0.out.size))
      have hnb : n ≤ 24000 := by rw [hn]; exact HLN.out
      clear ho1 hb1 hlv hAv
      by_cases hl : n ≤ 64
      · obtain ⟨e1, e2⟩ := fm_good HOK.out (by rw [← hn]; exact hl)
        have HE := Hid.in_ e1
        have HE2 := Hid.in_ e2
        have HN := Hid.in_ hn
        clear e1 e2 hn
        go_wp2
        go_ret2
        rw [HE.out, HE2.out, ← HN.out]
        exact ⟨_, rfl, HO.out, HB.out⟩
      · obtain ⟨e1, e2⟩ := fm_full HOK.out (by rw [← hn]; exact hl)
        have HE := Hid.in_ e1
        have HE2 := Hid.in_ e2
        clear e1 e2 hn
        go_wp2
        go_ret2
        rw [HE.out, HE2.out]
        exact ⟨_, rfl, World.ownsRow_nil _ _ _ _, HB.out⟩
end Go.Proofs.YtlelgpknkgjaeaaGreatDoor

/- 'ReadTrack' of the reference and of the program. -/
namespace Go.Proofs.YtlelgpknkgjaeaaGreatDoor
open Go.ChangeShapes Go.WideShapes Go.ChangeAt Go.RowKit
set_option linter.unusedSimpArgs false
set_option linter.unusedVariables false
set_option maxRecDepth 4000

def kOf (l : List MarkR) (k : Nat) : Int := ((l[k]?).map MarkR.k).getD 0
def readL (s : ByteArray) (f : Int) (l : List MarkR) : Nat → List FndR
  | 0 => []
  | k + 1 => readL s f l k ++ (if kOf l k = 1 then [rsF f s l k] else [])
theorem readL_len (s : ByteArray) (f : Int) (l : List MarkR) : ∀ k, (readL s f l k).length ≤ k
  | 0 => Nat.le_refl _
  | k + 1 => by
    have := readL_len s f l k
    unfold readL
    split <;> simp <;> omega
theorem readL_yes {s : ByteArray} {f : Int} {l : List MarkR} {k : Nat} (h : kOf l k = 1) : readL s f l (k + 1) = readL s f l k ++ [rsF f s l k] := by
  show readL s f l k ++ (if kOf l k = 1 then _ else []) = _
  rw [if_pos h]
theorem readL_no {s : ByteArray} {f : Int} {l : List MarkR} {k : Nat} (h : ¬ kOf l k = 1) : readL s f l (k + 1) = readL s f l k := by
  show readL s f l k ++ (if kOf l k = 1 then _ else []) = _
  rw [if_neg h, List.append_nil]
def readV (s : ByteArray) (f : Int) : List FndR := readL s f (fmVal s f) (fmVal s f).length
theorem readV_len (s : ByteArray) (f : Int) : (readV s f).length ≤ 64 := Nat.le_trans (readL_len _ _ _ _) (fmVal_len s f)
theorem fm_split (s : ByteArray) (f : Int) : ((fmCode s f != 0) = true ∧ Hid (readV s f = [])) ∨ (fmCode s f = 0 ∧ validCells s = true ∧ inB f 1 3 = true ∧ validMarks (fmVal s f) s.size = true) := by
  cases h : fmOk s f
  · obtain ⟨a, b⟩ := fm_bad h
    left
    refine ⟨by rw [a]; rfl, ?_⟩
    unfold Hid readV; rw [b]; rfl
  · by_cases h2 : (marksV s f).length ≤ 64
    · obtain ⟨a, b⟩ := fm_good h h2
      right
      unfold fmOk at h
      rw [Bool.and_eq_true] at h
      refine ⟨a, h.1, h.2, ?_⟩
      rw [b]
      exact marks_valid h.1 h.2 h2
    · obtain ⟨a, b⟩ := fm_full h h2
      left
      refine ⟨by rw [a]; rfl, ?_⟩
      unfold Hid readV; rw [b]; rfl
theorem cells8f {w : World} {g : Nat} {a0 a1 a2 a3 a4 a5 a6 a7 : Value} {t : TypeId} (hg : g = w.heap.size) : ∀ j u, ([a0, a1, a2, a3, a4, a5, a6, a7] : List Value)[j]? = some u → (w.alloc (.cells #[a0, a1, a2, a3, a4, a5, a6, a7] t)).cell? ((⟨g, 0, none⟩ : Addr).add j) = some u := fun j u hu => by
  subst hg
  have h := World.ownsRow_lit (e := t) w #[a0, a1, a2, a3, a4, a5, a6, a7] 1 (base := w.heap.size) (size := 8) (Nat.le_refl _) (by decide) rfl
  exact h.cells (g := w.heap.size) rfl j u hu
theorem own_lit {w : World} {base : Nat} {e : TypeId} {size : Nat} {A : Option Addr} {n c : Nat} {xs : List Value} (h : w.ownsRow base e size (.slice A n c) n xs) (hn : 0 < n) : ∃ g, A = some ⟨g, 0, none⟩ ∧ g < w.heap.size ∧ Box w g xs := by
  obtain ⟨A', c', he, _, _, hA⟩ := own_shape h
  injection he with a b d
  subst a
  obtain ⟨g, e, _, h1, h2, _⟩ := hA hn
  exact ⟨g, e, h1, h2⟩
set_option maxHeartbeats 2000000 in
theorem spec_l09Read {v : Value} {n b : Nat} {l : List MarkR} (s : ByteArray) (f : Int) (w : World) (h : w.ownsRow b 51 3 v n (l.flatMap MarkR.cells)) (hf : inB f 1 3 = true) (hv : validCells s = true) (hM : validMarks l s.size = true) (hn64 : n ≤ 64) :
    Calls Tryz.prog 40 #[.string s, .int .i64 f, v] w fun e w' => ∃ v', e = .returned v' ∧ w'.ownsRow w.heap.size 63 8 v' (readL s f l n).length ((readL s f l n).flatMap FndR.cells) ∧ Below w.heap.size w w' := by
  obtain ⟨i0, hti, hz0, hz1, hz2⟩ := info_parts Tryz.info_Found
  have hln := own_n h
  have HW := Hid.in_ (fun w (h : w.ownsRow b 51 3 v n (l.flatMap MarkR.cells)) k (hk : k < n) => spec_l09Sector s f k w h hf hv hM (by omega) (by omega))
  have HO := Hid.in_ h
  obtain ⟨A, c, rfl, _, hn, hA⟩ := own_shape h
  have H1 := Hid.in_ hA
  have HL := Hid.in_ hln
  clear hA h hf hv hM hln
  go_enter Tryz.func40, Tryz.ntmps40
  go_wp2_with fail
  go_loopg [7, 8] n (fun r v i wr => ∃ k : Nat, k + r = n ∧ i = .int .i64 k ∧ Hid (wr.ownsRow w.heap.size 63 8 v (readL s f l k).length ((readL s f l k).flatMap FndR.cells)) ∧ Hid (Below w.heap.size w wr))
  case atStart => exact ⟨0, by omega, rfl, World.ownsRow_lit w #[] 0 (Nat.le_refl _) (by decide) (by decide), balloc (Below.refl _ _) _⟩
  case round =>
    obtain ⟨k, hkm, rfl, HI, HB⟩ := hrel
    have HK := Hid.in_ hkm
    clear hkm
    by_cases hlt : k < n
    · obtain ⟨g, rfl, _, hg, hx, _⟩ := H1.out (by omega)
      obtain ⟨m, hm⟩ := get_lt l k (by rw [← HL.out]; exact hlt)
      obtain ⟨c0, c1, c2⟩ := boxAt3 ((Box.elem MarkR.len hx hm).step HB.out)
      have hgw : g < wr.heap.size := Nat.lt_of_lt_of_le hg HB.out.size
      have HKO := Hid.in_ (show kOf l k = m.k by unfold kOf; rw [hm]; rfl)
      have HLL := Hid.in_ (readL_len s f l k)
      clear hx hm
      by_cases hk1 : m.k = 1
      · have HY := Hid.in_ (readL_yes (s := s) (f := f) (by rw [HKO.out]; exact hk1))
        have HOW := Hid.in_ (own_below HO.out HB.out (Nat.le_refl _))
        have HWK := HW.out wr HOW.out k hlt
        obtain ⟨r, hr⟩ : ∃ r, rsF f s l k = r := ⟨_, rfl⟩
        rw [hr] at HWK HY
        have HWK2 := Hid.in_ (show Calls Tryz.prog 71 #[.string s, .int .i64 f, .slice (some ⟨g, 0, none⟩) n c, .int .i64 k] wr fun e w' => e = .returned (.agg #[.int .i64 r.c, .int .i64 r.h, .int .i64 r.n, .int .i64 r.s, .string r.d, .int .i64 r.t, .bool r.l, .int .i64 r.p]) ∧ Below wr.heap.size wr w' from HWK)
        clear hr HWK HOW
        rw [hk1] at c0
        go_wp2_with fail
        refine HWK2.out.mono ?_
        rintro e w2 ⟨rfl, hb2⟩
        have HO2 := Hid.in_ (own_below HI.out hb2 (Nat.le_refl _))
        have HB2 := Hid.in_ (HB.out.trans (hb2.mono HB.out.size))
        clear hb2 HI HB c0 c1 c2
        go_wp2_with (at_builtin; refine wpList_append_own _ rfl _ _ 28 rfl w.heap.size 63 i0 (.agg #[.int .i64 0, .int .i64 0, .int .i64 0, .int .i64 0, .string ByteArray.empty, .int .i64 0, .bool false, .int .i64 0]) 8 72 Tryz.underlying28 hti hz0 hz1 hz2 rfl (by decide) _ _ _ rfl (HO2.out.alloc _) ⟨w2.heap.size, 0, none⟩ 1 1 [.int .i64 r.c, .int .i64 r.h, .int .i64 r.n, .int .i64 r.s, .string r.d, .int .i64 r.t, .bool r.l, .int .i64 r.p] rfl rfl (cells8f rfl) (fun x hx => by simp at hx; rcases hx with rfl | rfl | rfl | rfl | rfl | rfl | rfl | rfl <;> rfl) (by have := HLL.out; unfold maxLen; omega) (by have := HLL.out; omega) (balloc HB2.out _).size ?_; intro v4 w4 ho4 hg4 _)
        have HB4 := Hid.in_ (bgrown (balloc HB2.out _) (HO2.out.alloc _) (Nat.le_refl _) hg4)
        have HO4 := Hid.in_ (show w4.ownsRow w.heap.size 63 8 v4 (readL s f l (k + 1)).length ((readL s f l (k + 1)).flatMap FndR.cells) by
          rw [HY.out, List.length_append, List.flatMap_append]
          exact ho4)
        clear ho4 hg4
        have hk := HK.out
        go_roundg (gk - 1)
        case measure => omega
        case rel => exact ⟨k + 1, by omega, by go_num, HO4, HB4⟩
      · have HN := Hid.in_ (readL_no (s := s) (f := f) (by rw [HKO.out]; exact hk1))
        have hk1b : (m.k == 1) = false := by simpa using hk1
        go_wp2
        have hk := HK.out
        go_roundg (gk - 1)
        case measure => omega
        case rel => exact ⟨k + 1, by omega, by go_num, by rw [HN.out]; exact HI, HB⟩
    · have hk := HK.out
      obtain rfl : k = n := by omega
      go_wp2
      go_ret
      exact ⟨_, rfl, HI.out, HB.out⟩
set_option maxHeartbeats 1000000 in
theorem spec_ReadTrack (s : ByteArray) (f : Int) (w : World) (hs : s.size ≤ 1048576) :
    Calls Tryz.prog 12 #[.string s, .int .i64 f] w fun e w' => ∃ v, e = .returned (.tuple #[v, .int .i64 (fmCode s f)]) ∧ w'.ownsRow w.heap.size 63 8 v (readV s f).length ((readV s f).flatMap FndR.cells) ∧ Below w.heap.size w w' := by
  have HM := Hid.in_ (spec_FindMarks s f w hs)
  obtain ⟨h1, HV⟩ | ⟨h1, hv, hf, hM⟩ := fm_split s f
  · generalize fmCode s f = q at HM h1 ⊢
    go_enter Tryz.func12, Tryz.ntmps12
    go_wp2_with fail
    refine HM.out.mono ?_
    rintro e w1 ⟨v, rfl, ho1, hb1⟩
    have HB := Hid.in_ hb1
    clear ho1 hb1
    go_wp2
    go_ret2
    rw [show readV s f = [] from HV.out]
    exact ⟨_, rfl, World.ownsRow_nil _ _ _ _, HB.out⟩
  · rw [h1] at HM ⊢
    have HR := Hid.in_ (fun (v : Value) (b : Nat) (w : World) (h : w.ownsRow b 51 3 v (fmVal s f).length ((fmVal s f).flatMap MarkR.cells)) => spec_l09Read s f w h hf hv hM (fmVal_len s f))
    clear h1 hv hf hM
    go_enter Tryz.func12, Tryz.ntmps12
    go_wp2_with fail
    refine HM.out.mono ?_
    rintro e w1 ⟨v, rfl, ho1, hb1⟩
    have HO := Hid.in_ ho1
    have HB := Hid.in_ hb1
    clear ho1 hb1
    go_wp2_with fail
    refine (HR.out _ _ _ HO.out).mono ?_
    rintro e w2 ⟨v2, rfl, ho2, hb2⟩
    have HO2 := Hid.in_ (own_base ho2 HB.out.size)
    have HB2 := Hid.in_ (HB.out.trans (hb2.mono HB.out.size))
    clear ho2 hb2
    go_wp2
    go_ret2
    exact ⟨_, rfl, HO2.out, HB2.out⟩
set_option maxHeartbeats 4000000 in
theorem impl_ReadTrack (s : ByteArray) (f : Int) (w : World) (hs : s.size ≤ 1048576) (hT : Tab w) :
    Calls Tryz.prog 13 #[.string s, .int .i64 f] w fun e w' => ∃ v, e = .returned (.tuple #[v, .int .i64 (fmCode s f)]) ∧ w'.ownsRow w.heap.size 63 8 v (readV s f).length ((readV s f).flatMap FndR.cells) ∧ Below w.heap.size w w' := by
  have HM := Hid.in_ (impl_FindMarks s f w hs hT)
  have HTB := Hid.in_ hT
  clear hT
  obtain ⟨h1, HV⟩ | ⟨h1, hv, hf, hM⟩ := fm_split s f
  · generalize fmCode s f = q at HM h1 ⊢
    go_enter Tryz.func13, Tryz.ntmps13
    go_wp2_with fail
    refine HM.out.mono ?_
    rintro e w1 ⟨v, rfl, ho1, hb1⟩
    have HB := Hid.in_ hb1
    clear ho1 hb1
    go_wp2
    go_ret2
    rw [show readV s f = [] from HV.out]
    exact ⟨_, rfl, World.ownsRow_nil _ _ _ _, HB.out⟩
  · rw [h1] at HM ⊢
    obtain ⟨i0, hti, hz0, hz1, hz2⟩ := info_parts Tryz.info_Found
    have hn64 := fmVal_len s f
    have HRV := Hid.in_ (show readV s f = readL s f (fmVal s f) (fmVal s f).length from rfl)
    have HR := Hid.in_ (fun (v : Value) (b : Nat) (w : World) (hT : Tab w) (h : w.ownsRow b 51 3 v (fmVal s f).length ((fmVal s f).flatMap MarkR.cells)) k (hk : k < (fmVal s f).length) => impl_readSector s f k w hT h hf hv hM hk (by omega))
    obtain ⟨l, hl⟩ : ∃ l, fmVal s f = l := ⟨_, rfl⟩
    obtain ⟨n, hn⟩ : ∃ n, l.length = n := ⟨_, rfl⟩
    rw [hl] at HM HR HRV hn64
    rw [hn] at HM HR HRV hn64
    have HL := Hid.in_ hn
    clear h1 hv hf hM hl hn
    go_enter Tryz.func13, Tryz.ntmps13
    go_wp2_with fail
    refine HM.out.mono ?_
    rintro e w1 ⟨v, rfl, ho1, hb1⟩
    have HO := Hid.in_ ho1
    have HB1 := Hid.in_ hb1
    obtain ⟨A, c, rfl, _, hnn, hA⟩ := own_shape ho1
    have H1 := Hid.in_ hA
    clear ho1 hb1 hA
    go_wp2_with fail
    go_loopg [8, 22] n (fun r v i wr => ∃ (k : Nat) (v5 : Value), k + r = n ∧ i = .int .i64 k ∧ v = v5 ∧ Hid (wr.ownsRow w.heap.size 63 8 v5 (readL s f l k).length ((readL s f l k).flatMap FndR.cells)) ∧ Hid (wr.ownsRow w.heap.size 51 3 (.slice A n c) n (l.flatMap MarkR.cells)) ∧ Hid ((Value.slice A n c).ownBlock = none ∨ (Value.slice A n c).ownBlock ≠ v5.ownBlock) ∧ Hid (Below w.heap.size w wr))
    case atStart => exact ⟨0, _, by omega, rfl, rfl, World.ownsRow_nil _ _ _ _, HO, by cases A; exact .inl rfl; exact .inr (fun e => by cases e), HB1⟩
    case round =>
      obtain ⟨k, v5, hkm, rfl, hvv, HI, HO2, HNE, HB⟩ := hrel
      subst hvv
      by_cases hlt : k < n
      · obtain ⟨g, rfl, hgw, hx⟩ := own_lit HO2.out (by omega)
        obtain ⟨m, hm⟩ := get_lt l k (by rw [HL.out]; exact hlt)
        obtain ⟨c0, c1, c2⟩ := boxAt3 (Box.elem MarkR.len hx hm)
        have HK := Hid.in_ hkm
        have HKO := Hid.in_ (show kOf l k = m.k by unfold kOf; rw [hm]; rfl)
        have HLL := Hid.in_ (readL_len s f l k)
        clear hx hm hkm
        have HBA := Hid.in_ (balloc HB.out (.cells #[.int .i64 m.k, .int .i64 m.a, .int .i64 m.b] 51))
        have HOA := Hid.in_ (HO2.out.alloc (.cells #[.int .i64 m.k, .int .i64 m.a, .int .i64 m.b] 51))
        have HIA := Hid.in_ (HI.out.alloc (.cells #[.int .i64 m.k, .int .i64 m.a, .int .i64 m.b] 51))
        by_cases hk1 : m.k = 1
        · have HY := Hid.in_ (readL_yes (s := s) (f := f) (by rw [HKO.out]; exact hk1))
          have HWK := HR.out _ _ _ (HTB.out.step HBA.out) HOA.out k hlt
          obtain ⟨r, hr⟩ : ∃ r, rsF f s l k = r := ⟨_, rfl⟩
          rw [hr] at HWK HY
          have HWK2 := Hid.in_ (show Calls Tryz.prog 41 #[.string s, .int .i64 f, .slice (some ⟨g, 0, none⟩) n c, .int .i64 k] (wr.alloc (.cells #[.int .i64 m.k, .int .i64 m.a, .int .i64 m.b] 51)) fun e w' => e = .returned (.agg #[.int .i64 r.c, .int .i64 r.h, .int .i64 r.n, .int .i64 r.s, .string r.d, .int .i64 r.t, .bool r.l, .int .i64 r.p]) ∧ Below (wr.alloc (.cells #[.int .i64 m.k, .int .i64 m.a, .int .i64 m.b] 51)).heap.size (wr.alloc (.cells #[.int .i64 m.k, .int .i64 m.a, .int .i64 m.b] 51)) w' from HWK)
          have hkb : (m.k == 1) = true := by simpa using hk1
          clear hr HWK hk1
          go_wp2_with fail
          refine HWK2.out.mono ?_
          rintro e w2 ⟨rfl, hb2⟩
          have HI2 := Hid.in_ (own_below HIA.out hb2 (Nat.le_refl _))
          have HO3 := Hid.in_ (own_below HOA.out hb2 (Nat.le_refl _))
          have HB2 := Hid.in_ (HBA.out.trans (hb2.mono HBA.out.size))
          clear hb2 HI HB HO2 HBA HOA HIA c0 c1 c2
          go_wp2_with (at_builtin; refine wpList_append_lies _ rfl _ _ 28 rfl w.heap.size 63 i0 (.agg #[.int .i64 0, .int .i64 0, .int .i64 0, .int .i64 0, .string ByteArray.empty, .int .i64 0, .bool false, .int .i64 0]) 8 72 Tryz.underlying28 hti hz0 hz1 hz2 rfl (by decide) _ _ _ rfl (HI2.out.alloc _) ⟨w2.heap.size, 0, none⟩ 1 1 [.int .i64 r.c, .int .i64 r.h, .int .i64 r.n, .int .i64 r.s, .string r.d, .int .i64 r.t, .bool r.l, .int .i64 r.p] rfl rfl (cells8f rfl) (fun x hx => by simp at hx; rcases hx with rfl | rfl | rfl | rfl | rfl | rfl | rfl | rfl <;> rfl) (by decide) (by have := HLL.out; unfold maxLen; omega) (by have := HLL.out; omega) (balloc HB2.out _).size _ rfl ?_; intro g6 cp6 w6 ho6 hg6 hat6 hlt6)
          have HB6 := Hid.in_ (bgrown (balloc HB2.out _) (HI2.out.alloc _) (Nat.le_refl _) hg6)
          have HO6 := Hid.in_ ((HO3.out.alloc (.cells #[.int .i64 r.c, .int .i64 r.h, .int .i64 r.n, .int .i64 r.s, .string r.d, .int .i64 r.t, .bool r.l, .int .i64 r.p] 63)).kept hg6 HNE.out)
          have HNE6 := Hid.in_ (show (Value.slice (some ⟨g, 0, none⟩) n c).ownBlock = none ∨ (Value.slice (some ⟨g, 0, none⟩) n c).ownBlock ≠ some g6 from .inr (fun e => by
            have hgl := (HO3.out.lt g rfl).2
            injection e with e
            subst e
            rcases hat6 with h | h
            · rcases HNE.out with h2 | h2
              · cases h2
              · exact h2 h.symm
            · simp at h
              omega))
          have HI6 := Hid.in_ (show w6.ownsRow w.heap.size 63 8 (.slice (some ⟨g6, 0, none⟩) ((readL s f l k).length + 1) cp6) (readL s f l (k + 1)).length ((readL s f l (k + 1)).flatMap FndR.cells) by
            rw [HY.out, List.length_append, List.flatMap_append]
            exact ho6)
          clear ho6 hg6 hat6
          have hk := HK.out
          go_roundg (gk - 1)
          case measure => omega
          case rel => exact ⟨k + 1, _, by omega, by go_num, rfl, HI6, HO6, HNE6, HB6⟩
        · have HN := Hid.in_ (readL_no (s := s) (f := f) (by rw [HKO.out]; exact hk1))
          have hk1b : (m.k == 1) = false := by simpa using hk1
          go_wp2
          have hk := HK.out
          go_roundg (gk - 1)
          case measure => omega
          case rel => exact ⟨k + 1, u8, by omega, by go_num, rfl, by rw [HN.out]; exact HIA, HOA, HNE, HBA⟩
      · obtain rfl : k = n := by omega
        go_wp2
        go_ret2
        rw [HRV.out]
        exact ⟨_, rfl, HI.out, HB.out⟩
end Go.Proofs.YtlelgpknkgjaeaaGreatDoor

/- 'ValidRevolutions' of the program and of the reference: strings of cells, all of one length. -/
namespace Go.Proofs.YtlelgpknkgjaeaaGreatDoor
open Go.ChangeShapes Go.WideShapes Go.ChangeAt Go.RowKit
set_option linter.unusedSimpArgs false
set_option linter.unusedVariables false
set_option maxRecDepth 4000

def revOk (l : List ByteArray) (s : ByteArray) : Bool := validCells s && decide (s.size = revLen l)
def revsOk (l : List ByteArray) : Bool := inB l.length 1 5 && l.all (revOk l)
theorem revs_no {l : List ByteArray} {k : Nat} {s : ByteArray} (h : l[k]? = some s) (hb : revOk l s = false) : revsOk l = false := by
  unfold revsOk
  have : l.all (revOk l) = false := by
    rw [List.all_eq_false]
    exact ⟨s, List.mem_of_getElem? h, by rw [hb]; decide⟩
  rw [this, Bool.and_false]
theorem revs_yes {l : List ByteArray} (h1 : inB l.length 1 5 = true) (h : ∀ (j : Nat) (s : ByteArray), l[j]? = some s → revOk l s = true) : revsOk l = true := by
  unfold revsOk
  rw [h1, Bool.true_and, List.all_eq_true]
  intro s hs
  obtain ⟨i, hi, rfl⟩ := List.mem_iff_getElem.1 hs
  exact h i _ (List.getElem?_eq_getElem hi)
theorem revs_at {l : List ByteArray} (h : revsOk l = true) : 1 ≤ l.length ∧ l.length ≤ 5 ∧ 1 ≤ revLen l ∧ revLen l ≤ 8000 ∧ ∀ s ∈ l, s.size = revLen l ∧ allBits s = true := by
  unfold revsOk at h
  rw [Bool.and_eq_true, List.all_eq_true] at h
  obtain ⟨a1, a2⟩ := inB_t h.1
  have hall : ∀ s ∈ l, s.size = revLen l ∧ validCells s = true := fun s hs => by
    have := h.2 s hs
    unfold revOk at this
    rw [Bool.and_eq_true, decide_eq_true_eq] at this
    exact ⟨this.2, this.1⟩
  obtain ⟨s0, hs0⟩ := get_lt l 0 (by omega)
  have h0 := hall s0 (List.mem_of_getElem? hs0)
  have hv := valid_size h0.2
  exact ⟨by omega, by omega, by omega, by omega, fun s hs => ⟨(hall s hs).1, (valid_size (hall s hs).2).2.2⟩⟩
theorem rev_cases (l : List ByteArray) (s : ByteArray) : (validCells s = false ∧ Hid (revOk l s = false)) ∨ (validCells s = true ∧ (s.size : Int) ≠ (revLen l : Int) ∧ Hid (revOk l s = false)) ∨ (validCells s = true ∧ s.size = revLen l ∧ Hid (revOk l s = true)) := by
  unfold Hid revOk
  cases validCells s
  · exact .inl ⟨rfl, rfl⟩
  · by_cases h : s.size = revLen l
    · exact .inr (.inr ⟨rfl, h, by rw [decide_eq_true h]; rfl⟩)
    · exact .inr (.inl ⟨rfl, by omega, by rw [decide_eq_false h]; rfl⟩)
theorem rev_next {l : List ByteArray} {k : Nat} {s : ByteArray} (H : ∀ (j : Nat) (x : ByteArray), j < k → l[j]? = some x → revOk l x = true) (hs : l[k]? = some s) (hb : revOk l s = true) : ∀ (j : Nat) (x : ByteArray), j < k + 1 → l[j]? = some x → revOk l x = true := fun j x hj hx => by
  rcases Nat.lt_or_ge j k with h | h
  · exact H j x h hx
  · obtain rfl : j = k := by omega
    rw [hs] at hx
    injection hx with hx
    subst hx
    exact hb
theorem impl_sizeStr (A : Option Addr) (n c : Nat) (w : World) (hn : n ≤ 9223372036854775807) :
    Calls Tryz.prog 79 #[.slice A n c] w fun e w' => e = .returned (.int .i64 n) ∧ w = w' := by
  go_enter Tryz.func79, Tryz.ntmps79
  go_wp2
  go_ret
  exact ⟨rfl, rfl⟩
set_option maxHeartbeats 2000000 in
theorem impl_ValidRevolutions {v : Value} {n b : Nat} {l : List ByteArray} (w : World) (h : w.ownsRow b 9 1 v n (Strs l)) (hk : ∀ s ∈ l, s.size ≤ 9223372036854775807) :
    Calls Tryz.prog 46 #[v] w fun e w' => e = .returned (.bool (revsOk l)) ∧ Below w.heap.size w w' := by
  have hlx : l.length = n := by have := h.1; rw [Strs_len] at this; omega
  obtain ⟨A, c, rfl, _, hn, hA⟩ := own_shape h
  have HL := Hid.in_ hlx
  have H1 := Hid.in_ hA
  have HZ := Hid.in_ hk
  clear hA h hlx hk
  cases ht : inB (n : Int) 1 5
  · have HV : Hid (revsOk l = false) := by unfold Hid revsOk; rw [HL.out, ht]; rfl
    go_enter Tryz.func46, Tryz.ntmps46
    go_wp2_with (first | (go_at_call 56; refine (bool_is (impl_within _ _ _ _) (by assumption)).mono ?_; rintro e w' ⟨rfl, rfl⟩) | (go_at_call 79; refine (impl_sizeStr _ _ _ _ hn).mono ?_; rintro e w' ⟨rfl, rfl⟩))
    go_ret
    exact ⟨ret_bool HV.out.symm, Below.refl _ _⟩
  · obtain ⟨t1, t2⟩ := inB_t ht
    obtain ⟨s0, hs0, hz0⟩ := head_get (l := l) (by rw [HL.out]; omega)
    have HS0 := Hid.in_ hs0
    have hz1 := HZ.out s0 (List.mem_of_getElem? hs0)
    have HI := Hid.in_ (show inB (l.length : Int) 1 5 = true by rw [HL.out]; exact ht)
    clear hs0
    go_enter Tryz.func46, Tryz.ntmps46
    go_wp2_with (first | (go_at_call 56; refine (bool_is (impl_within _ _ _ _) (by assumption)).mono ?_; rintro e w' ⟨rfl, rfl⟩) | (go_at_call 79; refine (impl_sizeStr _ _ _ _ hn).mono ?_; rintro e w' ⟨rfl, rfl⟩))
    go_loopg [11] n (fun m i wr => ∃ k : Nat, k + m = n ∧ i = .int .i64 k ∧ Hid (∀ (j : Nat) (x : ByteArray), j < k → l[j]? = some x → revOk l x = true) ∧ Hid (Below w.heap.size w wr))
    case atStart => exact ⟨0, by omega, rfl, fun j x hj => by omega, Below.refl _ _⟩
    case round =>
      obtain ⟨k, hkm, rfl, HR, HB⟩ := hrel
      have HK := Hid.in_ hkm
      clear hkm
      obtain ⟨g, rfl, _, hg, hx, _⟩ := H1.out (by omega)
      by_cases hlt : k < n
      · obtain ⟨s, hs⟩ := get_lt l k (by rw [HL.out]; exact hlt)
        have c0 := hx.step HB.out k _ (Strs_get hs)
        have HX := Hid.in_ hx
        have hsz := HZ.out s (List.mem_of_getElem? hs)
        have HS := Hid.in_ hs
        have HC := Hid.in_ (fun w => impl_ValidCells s w hsz)
        clear hx hs
        obtain ⟨h1, HO⟩ | ⟨h1, h2, HO⟩ | ⟨h1, h2, HO⟩ := rev_cases l s
        all_goals
          rw [h1] at HC
          go_wp2_with fail
          refine (HC.out _).mono ?_
          rintro e w2 ⟨rfl, hb2⟩
          have HB2 := Hid.in_ (HB.out.trans (hb2.mono HB.out.size))
          have d0 := (HX.out.step HB2.out) 0 _ (Strs_get HS0.out)
          clear hb2
          go_wp2
        all_goals
          first
          | (go_ret; exact ⟨ret_bool (revs_no HS.out HO.out).symm, HB2.out⟩)
          | (have hk := HK.out
             go_roundg (gk - 1)
             case measure => omega
             case rel => exact ⟨_, by omega, by go_num, rev_next HR.out HS.out HO.out, HB2.out⟩)
      · have hk := HK.out
        obtain rfl : k = n := by omega
        go_wp2
        go_ret
        exact ⟨ret_bool (revs_yes HI.out fun j s hj => HR.out j s (by rw [← HL.out]; exact (List.getElem?_eq_some_iff.1 hj).1) hj).symm, HB.out⟩
set_option maxHeartbeats 2000000 in
theorem spec_l10Ok {v : Value} {n b : Nat} {l : List ByteArray} (w : World) (h : w.ownsRow b 9 1 v n (Strs l)) (hk : ∀ s ∈ l, s.size ≤ 9223372036854775807) :
    Calls Tryz.prog 44 #[v] w fun e w' => e = .returned (.bool (revsOk l)) ∧ Below w.heap.size w w' := by
  have hlx : l.length = n := by have := h.1; rw [Strs_len] at this; omega
  obtain ⟨A, c, rfl, _, hn, hA⟩ := own_shape h
  have HL := Hid.in_ hlx
  have H1 := Hid.in_ hA
  have HZ := Hid.in_ hk
  clear hA h hlx hk
  cases ht : inB (n : Int) 1 5
  · have HV : Hid (revsOk l = false) := by unfold Hid revsOk; rw [HL.out, ht]; rfl
    go_enter Tryz.func44, Tryz.ntmps44
    go_wp2_with (go_at_call 60; refine (bool_is (spec_l00In _ _ _ _) (by assumption)).mono ?_; rintro e w' ⟨rfl, rfl⟩)
    go_ret
    exact ⟨ret_bool HV.out.symm, Below.refl _ _⟩
  · obtain ⟨t1, t2⟩ := inB_t ht
    obtain ⟨s0, hs0, hz0⟩ := head_get (l := l) (by rw [HL.out]; omega)
    have HS0 := Hid.in_ hs0
    have hz1 := HZ.out s0 (List.mem_of_getElem? hs0)
    have HI := Hid.in_ (show inB (l.length : Int) 1 5 = true by rw [HL.out]; exact ht)
    clear hs0
    go_enter Tryz.func44, Tryz.ntmps44
    go_wp2_with (go_at_call 60; refine (bool_is (spec_l00In _ _ _ _) (by assumption)).mono ?_; rintro e w' ⟨rfl, rfl⟩)
    go_loopg [3] n (fun m i wr => ∃ k : Nat, k + m = n ∧ i = .int .i64 k ∧ Hid (∀ (j : Nat) (x : ByteArray), j < k → l[j]? = some x → revOk l x = true) ∧ Hid (Below w.heap.size w wr))
    case atStart => exact ⟨0, by omega, rfl, fun j x hj => by omega, Below.refl _ _⟩
    case round =>
      obtain ⟨k, hkm, rfl, HR, HB⟩ := hrel
      have HK := Hid.in_ hkm
      clear hkm
      obtain ⟨g, rfl, _, hg, hx, _⟩ := H1.out (by omega)
      by_cases hlt : k < n
      · obtain ⟨s, hs⟩ := get_lt l k (by rw [HL.out]; exact hlt)
        have c0 := hx.step HB.out k _ (Strs_get hs)
        have d0 := (hx.step HB.out) 0 _ (Strs_get HS0.out)
        have hsz := HZ.out s (List.mem_of_getElem? hs)
        have HS := Hid.in_ hs
        have HC := Hid.in_ (fun w => spec_ValidCells s w hsz)
        clear hx hs
        obtain ⟨h1, HO⟩ | ⟨h1, h2, HO⟩ | ⟨h1, h2, HO⟩ := rev_cases l s
        all_goals
          rw [h1] at HC
          go_wp2_with fail
          go_quiet ((go_at_call 33; first | exact quiet_left (HC.out _) | exact quiet_add_left (HC.out _)))
          go_wp2
        all_goals
          first
          | (go_ret; exact ⟨ret_bool (revs_no HS.out HO.out).symm, below_drewN HB.out _⟩)
          | (have hk := HK.out
             go_roundg (gk - 1)
             case measure => omega
             case rel => exact ⟨_, by omega, by go_num, rev_next HR.out HS.out HO.out, below_drewN HB.out _⟩)
      · have hk := HK.out
        obtain rfl : k = n := by omega
        go_wp2
        go_ret
        exact ⟨ret_bool (revs_yes HI.out fun j s hj => HR.out j s (by rw [← HL.out]; exact (List.getElem?_eq_some_iff.1 hj).1) hj).symm, HB.out⟩
end Go.Proofs.YtlelgpknkgjaeaaGreatDoor

/- What is read from a track is a good list; revolutions: plain laws. -/
namespace Go.Proofs.YtlelgpknkgjaeaaGreatDoor
set_option linter.unusedSimpArgs false
set_option linter.unusedVariables false

theorem rsSz_sizeBytes {z : Int} (h0 : 0 ≤ z) (h : z ≤ 2) : (rsSz z : Int) = sizeBytes z := by
  have : z = 0 ∨ z = 1 ∨ z = 2 := by omega
  rcases this with rfl | rfl | rfl <;> rfl
theorem rsF_good {f : Int} {s : ByteArray} {l : List MarkR} {k : Nat} : goodF (rsF f s l k) ∧ 1 ≤ (rsF f s l k).t ∧ (rsF f s l k).t ≤ 4 := by
  unfold rsF
  split
  · rename_i m q _ _
    split
    · split
      · split
        · exact ⟨fun h => by rcases h with h | h <;> (simp [rsId] at h), by show (1 : Int) ≤ 4; omega, by show (4 : Int) ≤ 4; omega⟩
        · split
          · rename_i h1 h2 h3
            rw [Bool.and_eq_true] at h1
            have hz := of_decide_eq_true h1.2
            refine ⟨fun _ => ?_, ?_, ?_⟩
            · have hs : (fldD f s q.b.toNat (rsSz (rsC f s m 3))).size = rsSz (rsC f s m 3) := by unfold fldD; rw [ByteArray.size_extract, fldS_size]; omega
              have h0 : 0 ≤ rsC f s m 3 := by unfold rsC; omega
              refine ⟨?_, ?_⟩
              · show ((fldD f s q.b.toNat (rsSz (rsC f s m 3))).size : Int) = sizeBytes (rsC f s m 3)
                rw [hs]
                exact rsSz_sizeBytes h0 hz
              · show (fldD f s q.b.toNat (rsSz (rsC f s m 3))).size ≤ 1024
                rw [hs]
                unfold rsSz
                split
                · omega
                · split <;> omega
            · show (1 : Int) ≤ if _ then 1 else 3
              split <;> omega
            · show (if _ then (1 : Int) else 3) ≤ 4
              split <;> omega
          · exact ⟨fun h => by rcases h with h | h <;> (simp [rsId] at h), by show (1 : Int) ≤ 4; omega, by show (4 : Int) ≤ 4; omega⟩
      · exact ⟨fun h => by rcases h with h | h <;> (simp [rsId] at h), by show (1 : Int) ≤ 2; omega, by show (2 : Int) ≤ 4; omega⟩
    · exact ⟨fun h => by rcases h with h | h <;> (simp at h), by show (1 : Int) ≤ 2; omega, by show (2 : Int) ≤ 4; omega⟩
  · exact ⟨fun h => by rcases h with h | h <;> (simp at h), by show (1 : Int) ≤ 2; omega, by show (2 : Int) ≤ 4; omega⟩
theorem readL_good {s : ByteArray} {f : Int} {l : List MarkR} : ∀ {k : Nat} {x : FndR}, x ∈ readL s f l k → goodF x ∧ 1 ≤ x.t ∧ x.t ≤ 4
  | 0, x, h => by cases h
  | k + 1, x, h => by
    by_cases hk : kOf l k = 1
    · rw [readL_yes hk] at h
      rcases List.mem_append.1 h with h | h
      · exact readL_good h
      · rw [List.mem_singleton] at h
        subst h
        exact rsF_good
    · rw [readL_no hk] at h
      exact readL_good h
def rrCode : List ByteArray → Int → Int
  | [], _ => 0
  | s :: l, f => if fmCode s f ≠ 0 then fmCode s f else rrCode l f
theorem rr_at {f : Int} : ∀ {l : List ByteArray} {k : Nat} {s : ByteArray}, (∀ j x, j < k → l[j]? = some x → fmCode x f = 0) → l[k]? = some s → fmCode s f ≠ 0 → rrCode l f = fmCode s f
  | [], k, s, _, h, _ => by simp at h
  | y :: l, 0, s, _, h, hne => by
    have : y = s := by simpa using h
    subst this
    exact if_pos hne
  | y :: l, k + 1, s, ha, h, hne => by
    have h0 := ha 0 y (Nat.succ_pos k) rfl
    show (if fmCode y f ≠ 0 then _ else rrCode l f) = _
    rw [if_neg (fun e => e h0)]
    exact rr_at (k := k) (fun j x hj hx => ha (j + 1) x (Nat.succ_lt_succ hj) (by simpa using hx)) (by simpa using h) hne
theorem rr_all {f : Int} : ∀ {l : List ByteArray}, (∀ s ∈ l, fmCode s f = 0) → rrCode l f = 0
  | [], _ => rfl
  | y :: l, h => by
    show (if fmCode y f ≠ 0 then _ else rrCode l f) = _
    rw [if_neg (fun e => e (h y List.mem_cons_self))]
    exact rr_all (fun s hs => h s (List.mem_cons_of_mem _ hs))
def rrOk (l : List ByteArray) (f : Int) : Bool := revsOk l && inB f 1 3
def rrC (l : List ByteArray) (f : Int) : Int := if rrOk l f = true then rrCode l f else 1
def rdsV (l : List ByteArray) (f : Int) : List (List FndR) := l.map (fun s => readV s f)
def rrV (l : List ByteArray) (f : Int) : List VotR := if rrOk l f = true ∧ rrCode l f = 0 then mgV (rdsV l f) else []
theorem rr_bad {l : List ByteArray} {f : Int} (h : rrOk l f = false) : rrC l f = 1 ∧ rrV l f = [] := by unfold rrC rrV; rw [h]; exact ⟨rfl, by rw [if_neg (fun e => by cases e.1)]⟩
theorem rr_code {l : List ByteArray} {f : Int} {k : Nat} {s : ByteArray} (h : rrOk l f = true) (ha : ∀ j x, j < k → l[j]? = some x → fmCode x f = 0) (hk : l[k]? = some s) (hne : fmCode s f ≠ 0) : rrC l f = fmCode s f ∧ rrV l f = [] := by
  have := rr_at ha hk hne
  unfold rrC rrV
  rw [if_pos h, this, if_neg (fun e => hne e.2)]
  exact ⟨rfl, rfl⟩
theorem rr_good {l : List ByteArray} {f : Int} {n : Nat} (hn : l.length = n) (h : rrOk l f = true) (ha : ∀ j x, j < n → l[j]? = some x → fmCode x f = 0) : rrC l f = 0 ∧ rrV l f = mgV (rdsV l f) := by
  have := rr_all (l := l) (f := f) (fun s hs => by
    obtain ⟨j, hj⟩ := List.getElem?_of_mem hs
    exact ha j s (by rw [← hn]; exact (List.getElem?_eq_some_iff.1 hj).1) hj)
  unfold rrC rrV
  rw [if_pos h, this, if_pos ⟨h, rfl⟩]
  exact ⟨rfl, rfl⟩
theorem rds_facts (l : List ByteArray) (f : Int) : (∀ fs ∈ rdsV l f, fs.length ≤ 64) ∧ (∀ x ∈ (rdsV l f).flatten, goodF x) ∧ (∀ x ∈ (rdsV l f).flatten, 1 ≤ x.t ∧ x.t ≤ 4) := by
  have key : ∀ x ∈ (rdsV l f).flatten, goodF x ∧ 1 ≤ x.t ∧ x.t ≤ 4 := fun x hx => by
    obtain ⟨fs, hfs, hx⟩ := List.mem_flatten.1 hx
    obtain ⟨s, _, rfl⟩ := List.mem_map.1 hfs
    exact readL_good hx
  refine ⟨fun fs hfs => ?_, fun x hx => (key x hx).1, fun x hx => (key x hx).2⟩
  obtain ⟨s, _, rfl⟩ := List.mem_map.1 hfs
  exact readV_len s f
end Go.Proofs.YtlelgpknkgjaeaaGreatDoor
