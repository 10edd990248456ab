/- Arguments of bytes; 'd8At' of the laws. -/
import Derived.Test.YtlelgpknkgjaeaaDoorMem
import Derived.Lib.UnsafeStr
import Derived.Lib.AppendStr
namespace Go.Proofs.YtlelgpknkgjaeaaDoor
open Go.ChangeShapes Go.WideShapes Go.ChangeAt Go.RowKit
set_option linter.unusedSimpArgs false
set_option linter.unusedVariables false
set_option maxRecDepth 4000

def U8C (c : UInt8) : List Value := [.int .u8 (c.toNat : Int)]
theorem U8C.len (c : UInt8) : (U8C c).length = 1 := rfl
theorem u8_flat (l : List UInt8) : l.flatMap U8C = Lib.byteCells l := by
  induction l with
  | nil => rfl
  | cons x l ih => rw [List.flatMap_cons, ih]; rfl
section
variable {H : Type} {enc : TypeId × Value → H} {w : World} {base : Nat} {held : Bool}
theorem open_U8C {spare : Nat → Bool} {m : Nat} {cs : List Value} {y : DataW H × List MemPlace} (h : DataW.trod enc Tryd.prog w base spare held m 5 cs = some y) : ∃ c : UInt8, cs = U8C c ∧ True := by
  obtain ⟨n, h, _, hw⟩ := DataW.trod_int Tryd.underlying5 h
  have hb : 0 ≤ n ∧ n ≤ 255 := by
    have hw' : IntKind.u8.min ≤ n ∧ n ≤ IntKind.u8.max := by simpa [Lit.wf] using hw
    have e1 : IntKind.u8.min = 0 := by decide
    have e2 : IntKind.u8.max = 255 := by decide
    rw [e1, e2] at hw'
    exact hw'
  refine ⟨UInt8.ofNat n.toNat, ?_, trivial⟩
  rw [h]
  unfold U8C
  congr 2
  rw [UInt8.toNat_ofNat']
  omega
theorem slice_U8 {r0 : Reach} {b0 : Nat} {v : Value} {d : DataW H} {p : List MemPlace} (hv : Value.okWide Tryd.prog w r0 b0 22 v) (h : DataW.Trod enc Tryd.prog w base (fun _ => true) held 22 v d p) :
    ∃ (A : Option Addr) (cap : Nat) (l : List UInt8), v = .slice A l.length cap ∧ ArgS w A l.length cap 1 (Lib.byteCells l) := by
  obtain ⟨A, n, cap, rfl⟩ := okWide_slice Tryd.underlying22 hv
  obtain ⟨fuel, hf⟩ := h
  obtain ⟨A', cap', l, hcs, hA, hok⟩ := open_rows U8C.len Tryd.underlying22 (by kernel_rfl) (fun _ _ _ h => open_U8C h) hf
  obtain ⟨rfl, rfl, rfl⟩ : A = A' ∧ n = l.length ∧ cap = cap' := by simpa [Value.cells] using hcs
  rw [u8_flat] at hA
  exact ⟨_, _, l, rfl, hA⟩
end
theorem mod_to (x n : Nat) (h : 0 < n) : (x : Int).tmod (n : Int) = ((x % n : Nat) : Int) := by
  rw [Int.tmod_eq_emod_of_nonneg (by omega)]
  omega
set_option maxHeartbeats 1000000 in
theorem laws_d8At {A : Option Addr} {n cap : Nat} {bs : List UInt8} (k m : Nat) (w : World) (hA : ArgS w A n cap 1 (Lib.byteCells bs)) (hn : n ≤ 1048576) (hk : k ≤ 1000) (hm : 1 ≤ m) (hm2 : m ≤ 1048576) :
    Calls Tryd.prog 6 #[.slice A n cap, .int .i64 k, .int .i64 m] w fun e w' => ∃ x : Nat, e = .returned (.int .i64 x) ∧ x < m ∧ w = w' := by
  have hl : bs.length = n := by have := hA.1; rw [Lib.byteCells_length] at this; omega
  by_cases h1 : (m : Int) ≤ 1
  · go_enter Tryd.func6, Tryd.ntmps6
    go_wp2
    go_ret
    exact ⟨0, rfl, by omega, rfl⟩
  by_cases h2 : (n : Int) ≤ (k : Int)
  · go_enter Tryd.func6, Tryd.ntmps6
    go_wp2
    go_ret
    exact ⟨0, rfl, by omega, rfl⟩
  obtain ⟨g, o, rfl, hlt, hbx⟩ := hA.2.2.2 (by omega) (by decide)
  obtain ⟨c, hc⟩ := get_lt bs k (by omega)
  have c0 : w.cell? ⟨g, o + k, none⟩ = some (.int .u8 (c.toNat : Int)) := hbx k _ (by unfold Lib.byteCells; rw [List.getElem?_map, hc]; rfl)
  have hcb := c.toNat_lt
  have hw1 : IntKind.i64.wrap (c.toNat : Int) = (c.toNat : Int) := IntWalk.i64_in _ (by omega)
  obtain ⟨q, hq⟩ : ∃ q, k + 1 = q := ⟨_, rfl⟩
  have hqk : (k : Int) + 1 = (q : Int) := by omega
  by_cases h3 : (q : Int) < (n : Int)
  · obtain ⟨d, hd⟩ := get_lt bs q (by omega)
    have c1 : w.cell? ⟨g, o + q, none⟩ = some (.int .u8 (d.toNat : Int)) := hbx q _ (by unfold Lib.byteCells; rw [List.getElem?_map, hd]; rfl)
    have hdb := d.toNat_lt
    have hw2 : IntKind.i64.wrap (d.toNat : Int) = (d.toNat : Int) := IntWalk.i64_in _ (by omega)
    have hx := mod_to (256 * c.toNat + d.toNat) m (by omega)
    have hr := Nat.mod_lt (256 * c.toNat + d.toNat) (show 0 < m by omega)
    have hxs : (256 : Int) * (c.toNat : Int) + (d.toNat : Int) = ((256 * c.toNat + d.toNat : Nat) : Int) := by omega
    have hxb : 256 * c.toNat + d.toNat ≤ 65535 := by omega
    have hp1 : (0 : Int) ≤ 256 * (c.toNat : Int) := by omega
    have hp2 : 256 * (c.toNat : Int) ≤ 65280 := by omega
    generalize c.toNat = C at *
    generalize d.toNat = D at *
    generalize hX : 256 * C + D = X at *
    have hx2 : (X : Int) % (m : Int) = ((X % m : Nat) : Int) := by omega
    generalize X % m = r at *
    have hr4 : IntKind.i64.wrap (r : Int) = (r : Int) := IntWalk.i64_in _ (by omega)
    clear hX hbx hd hc hA hq
    go_enter Tryd.func6, Tryd.ntmps6
    go_wp2
    go_ret
    exact ⟨r, rfl, hr, rfl⟩
  · have hx := mod_to c.toNat m (by omega)
    have hx2 : (c.toNat : Int) % (m : Int) = ((c.toNat % m : Nat) : Int) := by omega
    have hr := Nat.mod_lt c.toNat (show 0 < m by omega)
    generalize c.toNat = C at *
    generalize C % m = r at *
    have hr4 : IntKind.i64.wrap (r : Int) = (r : Int) := IntWalk.i64_in _ (by omega)
    clear hbx hc hA hq
    go_enter Tryd.func6, Tryd.ntmps6
    go_wp2
    go_ret
    exact ⟨r, rfl, hr, rfl⟩
end Go.Proofs.YtlelgpknkgjaeaaDoor
