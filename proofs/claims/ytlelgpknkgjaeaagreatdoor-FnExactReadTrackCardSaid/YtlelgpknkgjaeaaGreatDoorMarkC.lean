/- 'FmMark' and 'MarkCells' of the program and of the reference: the cells of a mark. -/
import Derived.Test.YtlelgpknkgjaeaaGreatDoorMarkO
import Derived.Test.YtlelgpknkgjaeaaGreatDoorL05
import Derived.Test.YtlelgpknkgjaeaaGreatDoorEnc
import Derived.Test.YtlelgpknkgjaeaaGreatDoorMark
import Derived.Test.YtlelgpknkgjaeaaGreatDoorShelfR
import Derived.Lib.ConvBytes
namespace Go.Proofs.YtlelgpknkgjaeaaGreatDoor
open Go.ChangeShapes Go.WideShapes Go.ChangeAt Go.RowKit
set_option linter.unusedSimpArgs false
set_option linter.unusedVariables false
set_option maxRecDepth 20000

def fmMarkL (b : Nat) : List UInt8 := (((encS false false (oneB b)).data.toList.set 4 48).set 6 48).set 8 48
theorem fm_mark_all : ∀ b : Fin 256, fmMarkL b.val = (fmS markClk (oneB b.val)).data.toList := by decide +kernel
theorem fm_mark {b : Nat} (h : b ≤ 255) : (⟨(fmMarkL b).toArray⟩ : ByteArray) = fmMarkS b := by
  have := fm_mark_all ⟨b, by omega⟩
  unfold fmMarkS
  have h2 : fmMarkL b = (fmS markClk (oneB b)).data.toList := this
  rw [h2]
/-- A block whose first cells are bytes, none of them frozen. -/
def ByteRow (w : World) (g : Nat) (L : List UInt8) : Prop := (∀ j u, (Lib.byteCells L)[j]? = some u → w.cell? ⟨g, j, none⟩ = some u) ∧ ∀ j, j < L.length → w.frozen? ⟨g, j, none⟩ = false
theorem byteCells_set' (m : List UInt8) (k : Nat) (c : UInt8) : (Lib.byteCells m).set k (.int .u8 (c.toNat : Int)) = Lib.byteCells (m.set k c) := by unfold Lib.byteCells; rw [List.map_set]
theorem ByteRow.put {w : World} {g : Nat} {L : List UInt8} (h : ByteRow w g L) {k : Nat} (hk : k < L.length) (c : UInt8) : ByteRow (w.setCell ⟨g, k, none⟩ (.int .u8 (c.toNat : Int))) g (L.set k c) := by
  have hlen : (Lib.byteCells L).length = L.length := Lib.byteCells_length L
  refine ⟨fun j u hu => ?_, fun j hj => ?_⟩
  · rw [← byteCells_set'] at hu
    by_cases hjk : k = j
    · subst hjk
      rw [List.getElem?_set_self (by rw [hlen]; exact hk)] at hu
      injection hu with hu
      subst hu
      obtain ⟨x, hx⟩ := get_lt (Lib.byteCells L) k (by rw [hlen]; exact hk)
      exact World.cell?_setCell_same _ _ _ (h.1 k x hx)
    · rw [List.getElem?_set_ne hjk] at hu
      rw [World.cell?_setCell_other _ _ _ _ (by simp [hjk])]
      exact h.1 j u hu
  · rw [World.frozen?_setCell]
    exact h.2 j (by rw [List.length_set] at hj; exact hj)
theorem bytes_row (w : World) (s : ByteArray) : ByteRow (Lib.bytesWorld w 5 s) w.heap.size s.data.toList := by
  refine ⟨fun j u hu => ?_, fun j hj => ?_⟩
  · have hj : j < s.data.toList.length := by rw [← Lib.byteCells_length]; exact (List.getElem?_eq_some_iff.1 hu).1
    rw [Lib.bytesWorld_cell w 5 s j (by simpa using hj)]
    unfold Lib.byteCells at hu
    rw [List.getElem?_map, List.getElem?_eq_getElem hj] at hu
    rw [List.getD_eq_getElem?_getD, List.getElem?_eq_getElem hj]
    exact hu
  · have hb := Lib.bytesWorld_at_new w 5 s
    have hsz : s.data.toList.length ≤ (Lib.bytesCells w 5 s).size := by
      unfold Lib.bytesCells
      rw [Array.size_append, Array.size_map]
      simp
    unfold World.frozen?
    rw [hb]
    simp
    omega
theorem below_bytes {w0 w : World} (h : Below w0.heap.size w0 w) (s : ByteArray) : Below w0.heap.size w0 (Lib.bytesWorld w 5 s) := by
  refine h.trans ?_
  exact { os := rfl, tape := rfl, output := rfl, size := by rw [Lib.bytesWorld_size]; exact Nat.le_succ_of_le (Nat.le_refl _), block := fun k hk => Lib.bytesWorld_at_old w 5 s k (Nat.lt_of_lt_of_le hk h.size) }
theorem encS_one (b : Nat) (x y : Bool) : (encS x y (oneB b)).data.toList.length = 16 := by
  have : ((encL x y (bitsN (oneB b) 1)).map chr).length = 16 := by
    rw [List.length_map]
    have h : ∀ (l : List Bool) (last : Bool), (encL x last l).length = 2 * l.length := by
      intro l
      induction l with
      | nil => intro last; rfl
      | cons a l ih =>
        intro last
        show (clk x last a :: a :: encL x a l).length = _
        rw [List.length_cons, List.length_cons, ih, List.length_cons]
        omega
    rw [h, bitsN_len (by rw [oneB_size]; exact Nat.le_refl _)]
  exact this
def setTo (L : List UInt8) : Nat → List UInt8
  | 0 => L
  | k + 1 => (setTo L k).set (4 + 2 * k) 48
theorem setTo_len (L : List UInt8) : ∀ k, (setTo L k).length = L.length
  | 0 => rfl
  | k + 1 => by
    show ((setTo L k).set (4 + 2 * k) 48).length = _
    rw [List.length_set, setTo_len L k]
set_option maxHeartbeats 2000000 in
theorem spec_FmMark (b : Nat) (w : World) (h : b ≤ 255) :
    Calls Tryz.prog 97 #[.int .i64 b] w fun e w' => e = .returned (.string (fmMarkS b)) ∧ Below w.heap.size w w' := by
  have h1 : inB (b : Int) 0 255 = true := inB_mk (by omega) (by omega)
  have hc := conv_byte w h
  have HR := Hid.in_ (fm_mark h)
  have HEN := Hid.in_ (show ∀ w, Calls Tryz.prog 127 #[.string (oneB b)] w fun e w' => e = .returned (.string (encS false false (oneB b))) ∧ Below w.heap.size w w' from fun w => by
    have hv : encV05 false false (oneB b) = encS false false (oneB b) := if_neg (by rw [oneB_size]; decide)
    have hl := spec_l05Encode (oneB b) false false w (by rw [oneB_size]; decide)
    rw [hv] at hl
    have HL := Hid.in_ hl
    clear hl
    go_enter Tryz.func127, Tryz.ntmps127
    go_wp2_with (go_at_call 119; refine HL.out.mono ?_; rintro e w' ⟨rfl, hb⟩)
    go_ret
    exact ⟨rfl, hb⟩)
  have hx := encS_one b false false
  have HM := Hid.in_ (show fmMarkL b = (((encS false false (oneB b)).data.toList.set 4 48).set 6 48).set 8 48 from rfl)
  obtain ⟨X, hX⟩ : ∃ X, encS false false (oneB b) = X := ⟨_, rfl⟩
  rw [hX] at HEN hx HM
  have hxs : X.size = 16 := by rw [← hx]; simp
  clear hX
  generalize oneB b = S at *
  generalize fmMarkS b = Z at *
  go_enter Tryz.func97, Tryz.ntmps97
  go_wp2_with (go_at_call 60; refine (bool_is (spec_l00In _ _ _ _) (by assumption)).mono ?_; rintro e w' ⟨rfl, rfl⟩)
  refine (HEN.out _).mono ?_
  rintro e w1 ⟨rfl, hb1⟩
  have HB1 := Hid.in_ (bstep (balloc (Below.refl _ _) _) hb1)
  have kc := Lib.run_convert_string_bytes (P := Tryz.prog) w1 9 43 5 X Tryz.underlying9 Tryz.underlying43 Tryz.underlying5
  have HRW := Hid.in_ (bytes_row w1 X)
  have HBW := Hid.in_ (below_bytes HB1.out X)
  have HGE := Hid.in_ HB1.out.size
  clear hb1
  obtain ⟨g, hg⟩ : ∃ g, w1.heap.size = g := ⟨_, rfl⟩
  rw [hg] at kc HRW HGE
  obtain ⟨cp, hcp⟩ : ∃ cp, grownCap w1 X.size 0 5 = cp := ⟨_, rfl⟩
  rw [hcp] at kc
  generalize Lib.bytesWorld w1 5 X = w2 at *
  rw [hxs] at kc
  go_wp2
  go_loopg [4] 3 (fun m i wr => ∃ k : Nat, k + m = 3 ∧ i = .int .i64 (4 + 2 * (k : Int)) ∧ Hid (ByteRow wr g (setTo X.data.toList k)) ∧ Hid (Below w.heap.size w wr))
  case atStart => exact ⟨0, by omega, rfl, HRW.out, HBW.out⟩
  case round =>
    obtain ⟨k, hkm, rfl, HI, HB⟩ := hrel
    have HK := Hid.in_ hkm
    clear hkm
    by_cases hlt : k < 3
    · have hkl : 4 + 2 * k < (setTo X.data.toList k).length := by rw [setTo_len, hx]; omega
      obtain ⟨x, hx1⟩ := get_lt (Lib.byteCells (setTo X.data.toList k)) (4 + 2 * k) (by rw [Lib.byteCells_length]; exact hkl)
      have f1 := HI.out.1 _ _ hx1
      have f2 := HI.out.2 _ hkl
      have HN := Hid.in_ (show ByteRow (wr.setCell ⟨g, 4 + 2 * k, none⟩ (.int .u8 48)) g (setTo X.data.toList (k + 1)) from HI.out.put hkl 48)
      have HBN := Hid.in_ (HB.out.setCell (p := ⟨g, 4 + 2 * k, none⟩) HGE.out (.int .u8 48))
      clear hx1 hkl
      go_wp2
      have hk := HK.out
      go_roundg (gk - 1)
      case measure => omega
      case rel => exact ⟨k + 1, by omega, by go_num, HN, HBN⟩
    · have hk := HK.out
      obtain rfl : k = 3 := by omega
      have hl : (setTo X.data.toList 3).length = 16 := by rw [setTo_len, hx]
      have hcv := run_convert_bytes_back (P := Tryz.prog) wr 43 9 5 ⟨g, 0, none⟩ cp (setTo X.data.toList 3) Tryz.underlying43 Tryz.underlying5 Tryz.underlying9 (fun j hj => by
        rw [addr_add, Nat.zero_add]
        exact HI.out.1 j _ (by unfold Lib.byteCells; rw [List.getElem?_map, List.getElem?_eq_getElem hj]; rfl))
      rw [hl] at hcv
      have HE := Hid.in_ (show (⟨(setTo X.data.toList 3).toArray⟩ : ByteArray) = Z by rw [← HR.out, HM.out]; rfl)
      rw [HE.out] at hcv
      go_wp2
      go_ret
      exact ⟨rfl, HB.out⟩
end Go.Proofs.YtlelgpknkgjaeaaGreatDoor
