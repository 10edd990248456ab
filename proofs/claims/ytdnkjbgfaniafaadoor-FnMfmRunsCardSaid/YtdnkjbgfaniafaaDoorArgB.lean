/- Laws over drawn data: arguments of bytes, 'a2Long', 'a2Byte' (XGrepW without RepairI, for other seats). -/
import Derived.Test.YtdnkjbgfaniafaaDoorSrc
import Derived.Lib.ConvBytes
import Derived.Deep.QuietTactic
namespace Go.Proofs.YtdnkjbgfaniafaaDoor
open Go.ChangeShapes Go.WideShapes Go.ChangeAt Go.RowKit
set_option linter.unusedSimpArgs false
set_option linter.unusedVariables false
set_option maxRecDepth 4000

def U8C (c : UInt8) : List Value := [.int .u8 (c.toNat : Int)]
theorem U8C.len (c : UInt8) : (U8C c).length = 1 := rfl
theorem u8_flat (l : List UInt8) : l.flatMap U8C = Lib.byteCells l := by
  induction l with
  | nil => rfl
  | cons x l ih => rw [List.flatMap_cons, ih]; rfl
section
variable {H : Type} {enc : TypeId × Value → H} {w : World} {base : Nat} {held : Bool}
theorem open_U8C {spare : Nat → Bool} {m : Nat} {cs : List Value} {y : DataW H × List MemPlace} (h : DataW.trod enc Tryd.prog w base spare held m 5 cs = some y) : ∃ c : UInt8, cs = U8C c ∧ True := by
  obtain ⟨n, h, _, hw⟩ := DataW.trod_int Tryd.underlying5 h
  have hb : 0 ≤ n ∧ n ≤ 255 := by
    have hw' : IntKind.u8.min ≤ n ∧ n ≤ IntKind.u8.max := by simpa [Lit.wf] using hw
    have e1 : IntKind.u8.min = 0 := by decide
    have e2 : IntKind.u8.max = 255 := by decide
    rw [e1, e2] at hw'
    exact hw'
  refine ⟨UInt8.ofNat n.toNat, ?_, trivial⟩
  rw [h]
  unfold U8C
  congr 2
  rw [UInt8.toNat_ofNat']
  omega
theorem slice_U8 {r0 : Reach} {b0 : Nat} {v : Value} {d : DataW H} {p : List MemPlace} (hv : Value.okWide Tryd.prog w r0 b0 22 v) (h : DataW.Trod enc Tryd.prog w base (fun _ => true) held 22 v d p) :
    ∃ (A : Option Addr) (cap : Nat) (l : List UInt8), v = .slice A l.length cap ∧ ArgS w A l.length cap 1 (Lib.byteCells l) := by
  obtain ⟨A, n, cap, rfl⟩ := okWide_slice Tryd.underlying22 hv
  obtain ⟨fuel, hf⟩ := h
  obtain ⟨A', cap', l, hcs, hA, hok⟩ := open_rows U8C.len Tryd.underlying22 (by kernel_rfl) (fun _ _ _ h => open_U8C h) hf
  obtain ⟨rfl, rfl, rfl⟩ : A = A' ∧ n = l.length ∧ cap = cap' := by simpa [Value.cells] using hcs
  rw [u8_flat] at hA
  exact ⟨_, _, l, rfl, hA⟩
end
def ByteRow (w : World) (g : Nat) (L : List UInt8) : Prop := (∀ j u, (Lib.byteCells L)[j]? = some u → w.cell? ⟨g, j, none⟩ = some u) ∧ ∀ j, j < L.length → w.frozen? ⟨g, j, none⟩ = false
theorem byteCells_set' (m : List UInt8) (k : Nat) (c : UInt8) : (Lib.byteCells m).set k (.int .u8 (c.toNat : Int)) = Lib.byteCells (m.set k c) := by unfold Lib.byteCells; rw [List.map_set]
theorem ByteRow.put {w : World} {g : Nat} {L : List UInt8} (h : ByteRow w g L) {k : Nat} (hk : k < L.length) (c : UInt8) : ByteRow (w.setCell ⟨g, k, none⟩ (.int .u8 (c.toNat : Int))) g (L.set k c) := by
  have hlen : (Lib.byteCells L).length = L.length := Lib.byteCells_length L
  refine ⟨fun j u hu => ?_, fun j hj => ?_⟩
  · rw [← byteCells_set'] at hu
    by_cases hjk : k = j
    · subst hjk
      rw [List.getElem?_set_self (by rw [hlen]; exact hk)] at hu
      injection hu with hu
      subst hu
      obtain ⟨x, hx⟩ := get_lt (Lib.byteCells L) k (by rw [hlen]; exact hk)
      exact World.cell?_setCell_same _ _ _ (h.1 k x hx)
    · rw [List.getElem?_set_ne hjk] at hu
      rw [World.cell?_setCell_other _ _ _ _ (by simp [hjk])]
      exact h.1 j u hu
  · rw [World.frozen?_setCell]
    exact h.2 j (by rw [List.length_set] at hj; exact hj)
theorem bytes_row (w : World) (s : ByteArray) : ByteRow (Lib.bytesWorld w 5 s) w.heap.size s.data.toList := by
  refine ⟨fun j u hu => ?_, fun j hj => ?_⟩
  · have hj : j < s.data.toList.length := by rw [← Lib.byteCells_length]; exact (List.getElem?_eq_some_iff.1 hu).1
    rw [Lib.bytesWorld_cell w 5 s j (by simpa using hj)]
    unfold Lib.byteCells at hu
    rw [List.getElem?_map, List.getElem?_eq_getElem hj] at hu
    rw [List.getD_eq_getElem?_getD, List.getElem?_eq_getElem hj]
    exact hu
  · have hb := Lib.bytesWorld_at_new w 5 s
    have hsz : s.data.toList.length ≤ (Lib.bytesCells w 5 s).size := by
      unfold Lib.bytesCells
      rw [Array.size_append, Array.size_map]
      simp
    unfold World.frozen?
    rw [hb]
    simp
    omega
theorem below_bytes {w0 w : World} (h : Below w0.heap.size w0 w) (s : ByteArray) : Below w0.heap.size w0 (Lib.bytesWorld w 5 s) := by
  refine h.trans ?_
  exact { os := rfl, tape := rfl, output := rfl, size := by rw [Lib.bytesWorld_size]; exact Nat.le_succ_of_le (Nat.le_refl _), block := fun k hk => Lib.bytesWorld_at_old w 5 s k (Nat.lt_of_lt_of_le hk h.size) }
def a2R (n m : Nat) (x : Bool) : Prop := x = false → n ≤ 3000 ∧ m ≤ 3000
theorem a2R_true (n m : Nat) : a2R n m true := fun h => by cases h
theorem laws_a2Long {A B : Option Addr} {n m c1 c2 : Nat} (w : World) :
    Calls Tryd.prog 5 #[.slice A n c1, .slice B m c2] w fun e w' => ∃ x : Bool, e = .returned (.bool x) ∧ a2R n m x ∧ w = w' := by
  by_cases h : (3000 : Int) < (n : Int)
  · go_enter Tryd.func5, Tryd.ntmps5
    go_wp2
    go_ret
    first | exact ⟨true, rfl, a2R_true _ _, rfl⟩ | exact .inr ⟨rfl, a2R_true _ _, rfl⟩ | exact ⟨a2R_true _ _, rfl⟩
  · by_cases hm : (3000 : Int) < (m : Int)
    · go_enter Tryd.func5, Tryd.ntmps5
      go_wp2
      go_ret
      first | exact ⟨true, rfl, a2R_true _ _, rfl⟩ | exact .inr ⟨rfl, a2R_true _ _, rfl⟩ | exact ⟨a2R_true _ _, rfl⟩
    · have HV := Hid.in_ (show n ≤ 3000 ∧ m ≤ 3000 by omega)
      go_enter Tryd.func5, Tryd.ntmps5
      go_wp2
      go_ret
      first | exact ⟨false, rfl, fun _ => HV.out, rfl⟩ | exact .inl ⟨rfl, fun _ => HV.out, rfl⟩
set_option maxHeartbeats 1000000 in
theorem laws_a2Byte {A : Option Addr} {n c1 L : Nat} {bs : List UInt8} (w : World) (hA : ArgS w A n c1 1 (Lib.byteCells bs)) (hn : n ≤ 1048576) (hL0 : 0 < L) (hL : L ≤ 1048576) :
    Calls Tryd.prog 10 #[.slice A n c1, .int .i64 0, .int .i64 L] w fun e w' => ∃ a : Nat, e = .returned (.int .i64 a) ∧ a < L ∧ w = w' := by
  have hl : bs.length = n := by have := hA.1; rw [Lib.byteCells_length] at this; omega
  have hL' : ¬ ((L : Int) < 1) := by omega
  rcases Nat.eq_zero_or_pos n with h0 | h0
  · subst h0
    go_enter Tryd.func10, Tryd.ntmps10
    go_wp2
    go_ret
    exact ⟨0, rfl, hL0, rfl⟩
  · obtain ⟨g, o, rfl, hlt, hbx⟩ := hA.2.2.2 h0 (by decide)
    have hcell : ∀ k (hk : k < bs.length), w.cell? ⟨g, o + k, none⟩ = some (.int .u8 (bs[k].toNat : Int)) := fun k hk => hbx k _ (by unfold Lib.byteCells; rw [List.getElem?_map, List.getElem?_eq_getElem hk]; rfl)
    have c0 := hcell 0 (by omega)
    obtain ⟨x, hx⟩ : ∃ x, bs[0]'(by omega) = x := ⟨_, rfl⟩
    rw [hx, Nat.add_zero] at c0
    have hx8 := x.toNat_lt
    have u0 : IntKind.i64.wrap (x.toNat : Int) = (x.toNat : Int) := u8_i64 x
    have h0' : (0 : Int) < (n : Int) := by omega
    by_cases h1 : 1 < n
    · have c1 := hcell 1 (by omega)
      obtain ⟨y, hy⟩ : ∃ y, bs[1]'(by omega) = y := ⟨_, rfl⟩
      rw [hy] at c1
      have hy8 := y.toNat_lt
      have u1 : IntKind.i64.wrap (y.toNat : Int) = (y.toNat : Int) := u8_i64 y
      have h1' : (1 : Int) < (n : Int) := by omega
      have u2 : IntKind.i64.wrap (256 * (x.toNat : Int)) = 256 * (x.toNat : Int) := IntWalk.i64_in _ (by omega)
      have u3 : IntKind.i64.wrap (256 * (x.toNat : Int) + (y.toNat : Int)) = 256 * (x.toNat : Int) + (y.toNat : Int) := IntWalk.i64_in _ (by omega)
      have r1 : (256 * (x.toNat : Int) + (y.toNat : Int)).tmod (L : Int) = (((256 * x.toNat + y.toNat) % L : Nat) : Int) := by rw [Int.tmod_eq_emod_of_nonneg (by omega)]; push_cast; rfl
      have r2 : (256 * (x.toNat : Int) + (y.toNat : Int)) % (L : Int) = (((256 * x.toNat + y.toNat) % L : Nat) : Int) := by push_cast; rfl
      have r3 : (256 * x.toNat + y.toNat) % L < L := Nat.mod_lt _ hL0
      generalize (256 * x.toNat + y.toNat) % L = r at *
      have r4 : IntKind.i64.wrap (r : Int) = (r : Int) := IntWalk.i64_in _ (by omega)
      clear hcell hbx hx hy hA hl
      go_enter Tryd.func10, Tryd.ntmps10
      go_wp2
      go_ret
      exact ⟨r, rfl, r3, rfl⟩
    · obtain rfl : n = 1 := by omega
      have r1 : (x.toNat : Int).tmod (L : Int) = ((x.toNat % L : Nat) : Int) := by rw [Int.tmod_eq_emod_of_nonneg (by omega)]; push_cast; rfl
      have r2 : (x.toNat : Int) % (L : Int) = ((x.toNat % L : Nat) : Int) := by push_cast; rfl
      have r3 : x.toNat % L < L := Nat.mod_lt _ hL0
      generalize x.toNat % L = r at *
      have r4 : IntKind.i64.wrap (r : Int) = (r : Int) := IntWalk.i64_in _ (by omega)
      clear hcell hbx hx hA hl
      go_enter Tryd.func10, Tryd.ntmps10
      go_wp2
      go_ret
      exact ⟨r, rfl, r3, rfl⟩
end Go.Proofs.YtdnkjbgfaniafaaDoor
