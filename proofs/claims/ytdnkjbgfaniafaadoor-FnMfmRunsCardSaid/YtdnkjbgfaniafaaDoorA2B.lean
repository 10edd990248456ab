/- 'a2Byte' at the second byte, 'a2Same' against a written list, 'EncodeMfm', 'DecodeMfm', 'MfmMark' of the program. -/
import Derived.Test.YtdnkjbgfaniafaaDoorArgB
import Derived.Test.YtdnkjbgfaniafaaDoorMfmP
namespace Go.Proofs.YtdnkjbgfaniafaaDoor
open Go.ChangeShapes Go.WideShapes Go.ChangeAt Go.RowKit
set_option linter.unusedSimpArgs false
set_option linter.unusedVariables false
set_option maxRecDepth 4000

theorem impl_EncodeMfm (s : ByteArray) (la : Bool) (w : World) (hs : 16 * s.size ≤ 8000) :
    Calls Tryd.prog 14 #[.string s, .bool la] w fun e w' => e = .returned (.string (encS true la s)) ∧ Below w.heap.size w w' := by
  have HF := Hid.in_ (impl_mfmCells s la w (by omega))
  have h1 : IntKind.i64.wrap (16 * (s.size : Int)) = 16 * (s.size : Int) := IntWalk.i64_in _ (by omega)
  have h2 : ¬ ((8000 : Int) < 16 * (s.size : Int)) := by omega
  go_enter Tryd.func14, Tryd.ntmps14
  go_wp2_with fail
  refine HF.out.mono ?_
  rintro e w1 ⟨rfl, hb1⟩
  go_wp2
  go_ret
  exact ⟨rfl, hb1⟩
theorem impl_DecodeMfm (s : ByteArray) (w : World) (hc : cellStr s = true) (h16 : s.size % 16 = 0) :
    Calls Tryd.prog 17 #[.string s] w fun e w' => e = .returned (.tuple #[.string (bytesS (dataS s)), .bool true]) ∧ Below w.heap.size w w' := by
  have HF := Hid.in_ (impl_dataCells s w hc h16)
  go_enter Tryd.func17, Tryd.ntmps17
  go_wp2_with fail
  refine HF.out.mono ?_
  rintro e w1 ⟨rfl, hb1⟩
  go_wp2
  go_ret2
  exact ⟨rfl, hb1⟩
theorem impl_MfmMark (w : World) : Calls Tryd.prog 16 #[] w fun e w' => e = .returned (.string mfmMk) ∧ w = w' := by
  show Calls Tryd.prog 16 #[] w fun e w' => e = .returned (.string ⟨#[48, 49, 48, 48, 48, 49, 48, 48, 49, 48, 48, 48, 49, 48, 48, 49]⟩) ∧ w = w'
  go_enter Tryd.func16, Tryd.ntmps16
  go_wp2
  go_ret
  exact ⟨rfl, rfl⟩
set_option maxHeartbeats 1000000 in
theorem laws_a2Byte1 {A : Option Addr} {n c1 L : Nat} {bs : List UInt8} (w : World) (hA : ArgS w A n c1 1 (Lib.byteCells bs)) (hn : n ≤ 1048576) (hL0 : 0 < L) (hL : L ≤ 1048576) :
    Calls Tryd.prog 10 #[.slice A n c1, .int .i64 1, .int .i64 L] w fun e w' => ∃ a : Nat, e = .returned (.int .i64 a) ∧ a < L ∧ w = w' := by
  have hl : bs.length = n := by have := hA.1; rw [Lib.byteCells_length] at this; omega
  have hL' : ¬ ((L : Int) < 1) := by omega
  by_cases h0 : n ≤ 1
  · have h0' : (n : Int) ≤ 1 := by omega
    go_enter Tryd.func10, Tryd.ntmps10
    go_wp2
    go_ret
    exact ⟨0, rfl, hL0, rfl⟩
  · obtain ⟨g, o, rfl, hlt, hbx⟩ := hA.2.2.2 (by omega) (by decide)
    have hcell : ∀ k (hk : k < bs.length), w.cell? ⟨g, o + k, none⟩ = some (.int .u8 (bs[k].toNat : Int)) := fun k hk => hbx k _ (by unfold Lib.byteCells; rw [List.getElem?_map, List.getElem?_eq_getElem hk]; rfl)
    have c0 := hcell 1 (by omega)
    obtain ⟨x, hx⟩ : ∃ x, bs[1]'(by omega) = x := ⟨_, rfl⟩
    rw [hx] at c0
    have hx8 := x.toNat_lt
    have u0 : IntKind.i64.wrap (x.toNat : Int) = (x.toNat : Int) := u8_i64 x
    have h0' : (1 : Int) < (n : Int) := by omega
    by_cases h1 : 2 < n
    · have c1 := hcell 2 (by omega)
      obtain ⟨y, hy⟩ : ∃ y, bs[2]'(by omega) = y := ⟨_, rfl⟩
      rw [hy] at c1
      have hy8 := y.toNat_lt
      have u1 : IntKind.i64.wrap (y.toNat : Int) = (y.toNat : Int) := u8_i64 y
      have h1' : (2 : Int) < (n : Int) := by omega
      have u2 : IntKind.i64.wrap (256 * (x.toNat : Int)) = 256 * (x.toNat : Int) := IntWalk.i64_in _ (by omega)
      have u3 : IntKind.i64.wrap (256 * (x.toNat : Int) + (y.toNat : Int)) = 256 * (x.toNat : Int) + (y.toNat : Int) := IntWalk.i64_in _ (by omega)
      have r1 : (256 * (x.toNat : Int) + (y.toNat : Int)).tmod (L : Int) = (((256 * x.toNat + y.toNat) % L : Nat) : Int) := by rw [Int.tmod_eq_emod_of_nonneg (by omega)]; push_cast; rfl
      have r2 : (256 * (x.toNat : Int) + (y.toNat : Int)) % (L : Int) = (((256 * x.toNat + y.toNat) % L : Nat) : Int) := by push_cast; rfl
      have r3 : (256 * x.toNat + y.toNat) % L < L := Nat.mod_lt _ hL0
      generalize (256 * x.toNat + y.toNat) % L = r at *
      have r4 : IntKind.i64.wrap (r : Int) = (r : Int) := IntWalk.i64_in _ (by omega)
      clear hcell hbx hx hy hA hl
      go_enter Tryd.func10, Tryd.ntmps10
      go_wp2
      go_ret
      exact ⟨r, rfl, r3, rfl⟩
    · obtain rfl : n = 2 := by omega
      have r1 : (x.toNat : Int).tmod (L : Int) = ((x.toNat % L : Nat) : Int) := by rw [Int.tmod_eq_emod_of_nonneg (by omega)]; push_cast; rfl
      have r2 : (x.toNat : Int) % (L : Int) = ((x.toNat % L : Nat) : Int) := by push_cast; rfl
      have r3 : x.toNat % L < L := Nat.mod_lt _ hL0
      generalize x.toNat % L = r at *
      have r4 : IntKind.i64.wrap (r : Int) = (r : Int) := IntWalk.i64_in _ (by omega)
      clear hcell hbx hx hA hl
      go_enter Tryd.func10, Tryd.ntmps10
      go_wp2
      go_ret
      exact ⟨r, rfl, r3, rfl⟩
end Go.Proofs.YtdnkjbgfaniafaaDoor
