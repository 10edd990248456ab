/- Several texts in one: ArgU, Rot, Rec1, RecF, Sync, I64, Places, Find, FdP, Marks, FdV, MkP, SortM, PutM, MksS, MksI, MksG, FmS, FmI, Door. -/
import Derived.Test.YtlelgpknkgjaeaaGreatDoorMem
import Derived.Lib.UnsafeStr
import Derived.Lib.AppendStr
import Derived.Test.YtlelgpknkgjaeaaGreatDoorAlign
import Derived.Test.YtlelgpknkgjaeaaGreatDoorInt
import Derived.Test.YtlelgpknkgjaeaaGreatDoorRow
import Derived.StillTailTactics
import Derived.Test.YtlelgpknkgjaeaaGreatDoorSlice
import Derived.Shelf.Strings.Prefix
import Derived.Test.YtlelgpknkgjaeaaGreatDoorMarkD
import Derived.Test.YtlelgpknkgjaeaaGreatDoorMark
import Derived.Test.YtlelgpknkgjaeaaGreatDoorShelfQ
import Derived.Shelf.SlSortCmp.WholeK
import Derived.Shelf.SlSortCmp.NoneTotal
import Derived.Shelf.SlicesG.Cmp
import Derived.Test.YtlelgpknkgjaeaaGreatDoorLaw
import Derived.LaidSub
import Derived.Lib.LaidTab
import Derived.Deep.DeepHandedRow
import Derived.SevenTiedAt
import GoSem.ClaimSeven
/- Arguments of bytes; 'd8At' of the laws. -/
namespace Go.Proofs.YtlelgpknkgjaeaaGreatDoor
open Go.ChangeShapes Go.WideShapes Go.ChangeAt Go.RowKit
set_option linter.unusedSimpArgs false
set_option linter.unusedVariables false
set_option maxRecDepth 4000

def U8C (c : UInt8) : List Value := [.int .u8 (c.toNat : Int)]
theorem U8C.len (c : UInt8) : (U8C c).length = 1 := rfl
theorem u8_flat (l : List UInt8) : l.flatMap U8C = Lib.byteCells l := by
  induction l with
  | nil => rfl
  | cons x l ih => rw [List.flatMap_cons, ih]; rfl
section
variable {H : Type} {enc : TypeId × Value → H} {w : World} {base : Nat} {held : Bool}
theorem open_U8C {spare : Nat → Bool} {m : Nat} {cs : List Value} {y : DataW H × List MemPlace} (h : DataW.trod enc Tryz.prog w base spare held m 5 cs = some y) : ∃ c : UInt8, cs = U8C c ∧ True := by
  obtain ⟨n, h, _, hw⟩ := DataW.trod_int Tryz.underlying5 h
  have hb : 0 ≤ n ∧ n ≤ 255 := by
    have hw' : IntKind.u8.min ≤ n ∧ n ≤ IntKind.u8.max := by simpa [Lit.wf] using hw
    have e1 : IntKind.u8.min = 0 := by decide
    have e2 : IntKind.u8.max = 255 := by decide
    rw [e1, e2] at hw'
    exact hw'
  refine ⟨UInt8.ofNat n.toNat, ?_, trivial⟩
  rw [h]
  unfold U8C
  congr 2
  rw [UInt8.toNat_ofNat']
  omega
theorem slice_U8 {r0 : Reach} {b0 : Nat} {v : Value} {d : DataW H} {p : List MemPlace} (hv : Value.okWide Tryz.prog w r0 b0 43 v) (h : DataW.Trod enc Tryz.prog w base (fun _ => true) held 43 v d p) :
    ∃ (A : Option Addr) (cap : Nat) (l : List UInt8), v = .slice A l.length cap ∧ ArgS w A l.length cap 1 (Lib.byteCells l) := by
  obtain ⟨A, n, cap, rfl⟩ := okWide_slice Tryz.underlying43 hv
  obtain ⟨fuel, hf⟩ := h
  obtain ⟨A', cap', l, hcs, hA, hok⟩ := open_rows U8C.len Tryz.underlying43 (by kernel_rfl) (fun _ _ _ h => open_U8C h) hf
  obtain ⟨rfl, rfl, rfl⟩ : A = A' ∧ n = l.length ∧ cap = cap' := by simpa [Value.cells] using hcs
  rw [u8_flat] at hA
  exact ⟨_, _, l, rfl, hA⟩
end
theorem mod_to (x n : Nat) (h : 0 < n) : (x : Int).tmod (n : Int) = ((x % n : Nat) : Int) := by
  rw [Int.tmod_eq_emod_of_nonneg (by omega)]
  omega
set_option maxHeartbeats 1000000 in
theorem laws_d8At {A : Option Addr} {n cap : Nat} {bs : List UInt8} (k m : Nat) (w : World) (hA : ArgS w A n cap 1 (Lib.byteCells bs)) (hn : n ≤ 1048576) (hk : k ≤ 1000) (hm : 1 ≤ m) (hm2 : m ≤ 1048576) :
    Calls Tryz.prog 27 #[.slice A n cap, .int .i64 k, .int .i64 m] w fun e w' => ∃ x : Nat, e = .returned (.int .i64 x) ∧ x < m ∧ w = w' := by
  have hl : bs.length = n := by have := hA.1; rw [Lib.byteCells_length] at this; omega
  by_cases h1 : (m : Int) ≤ 1
  · go_enter Tryz.func27, Tryz.ntmps27
    go_wp2
    go_ret
    exact ⟨0, rfl, by omega, rfl⟩
  by_cases h2 : (n : Int) ≤ (k : Int)
  · go_enter Tryz.func27, Tryz.ntmps27
    go_wp2
    go_ret
    exact ⟨0, rfl, by omega, rfl⟩
  obtain ⟨g, o, rfl, hlt, hbx⟩ := hA.2.2.2 (by omega) (by decide)
  obtain ⟨c, hc⟩ := get_lt bs k (by omega)
  have c0 : w.cell? ⟨g, o + k, none⟩ = some (.int .u8 (c.toNat : Int)) := hbx k _ (by unfold Lib.byteCells; rw [List.getElem?_map, hc]; rfl)
  have hcb := c.toNat_lt
  have hw1 : IntKind.i64.wrap (c.toNat : Int) = (c.toNat : Int) := IntWalk.i64_in _ (by omega)
  obtain ⟨q, hq⟩ : ∃ q, k + 1 = q := ⟨_, rfl⟩
  have hqk : (k : Int) + 1 = (q : Int) := by omega
  by_cases h3 : (q : Int) < (n : Int)
  · obtain ⟨d, hd⟩ := get_lt bs q (by omega)
    have c1 : w.cell? ⟨g, o + q, none⟩ = some (.int .u8 (d.toNat : Int)) := hbx q _ (by unfold Lib.byteCells; rw [List.getElem?_map, hd]; rfl)
    have hdb := d.toNat_lt
    have hw2 : IntKind.i64.wrap (d.toNat : Int) = (d.toNat : Int) := IntWalk.i64_in _ (by omega)
    have hx := mod_to (256 * c.toNat + d.toNat) m (by omega)
    have hr := Nat.mod_lt (256 * c.toNat + d.toNat) (show 0 < m by omega)
    have hxs : (256 : Int) * (c.toNat : Int) + (d.toNat : Int) = ((256 * c.toNat + d.toNat : Nat) : Int) := by omega
    have hxb : 256 * c.toNat + d.toNat ≤ 65535 := by omega
    have hp1 : (0 : Int) ≤ 256 * (c.toNat : Int) := by omega
    have hp2 : 256 * (c.toNat : Int) ≤ 65280 := by omega
    generalize c.toNat = C at *
    generalize d.toNat = D at *
    generalize hX : 256 * C + D = X at *
    have hx2 : (X : Int) % (m : Int) = ((X % m : Nat) : Int) := by omega
    generalize X % m = r at *
    have hr4 : IntKind.i64.wrap (r : Int) = (r : Int) := IntWalk.i64_in _ (by omega)
    clear hX hbx hd hc hA hq
    go_enter Tryz.func27, Tryz.ntmps27
    go_wp2
    go_ret
    exact ⟨r, rfl, hr, rfl⟩
  · have hx := mod_to c.toNat m (by omega)
    have hx2 : (c.toNat : Int) % (m : Int) = ((c.toNat % m : Nat) : Int) := by omega
    have hr := Nat.mod_lt c.toNat (show 0 < m by omega)
    generalize c.toNat = C at *
    generalize C % m = r at *
    have hr4 : IntKind.i64.wrap (r : Int) = (r : Int) := IntWalk.i64_in _ (by omega)
    clear hbx hc hA hq
    go_enter Tryz.func27, Tryz.ntmps27
    go_wp2
    go_ret
    exact ⟨r, rfl, hr, rfl⟩
end Go.Proofs.YtlelgpknkgjaeaaGreatDoor

/- 'RotateCells' of the reference: the cells of a track that begins at another cell. -/
namespace Go.Proofs.YtlelgpknkgjaeaaGreatDoor
open Go.ChangeShapes Go.WideShapes Go.ChangeAt Go.RowKit
set_option linter.unusedSimpArgs false
set_option linter.unusedVariables false
set_option maxRecDepth 20000

set_option maxHeartbeats 1000000 in
theorem spec_l02Rotate (s : ByteArray) (k : Nat) (w : World) (hk : k < s.size) (hs : s.size ≤ 8000) :
    Calls Tryz.prog 55 #[.string s, .int .i64 k] w fun e w' => e = .returned (.string (sliceS s k s.size)) ∧ Below w.heap.size w w' := by
  have HE := Hid.in_ (rot_cut hk)
  have h1 : (k : Int).tmod (s.size : Int) = (k : Int) := by rw [Int.tmod_eq_emod_of_nonneg (by omega)]; exact Int.emod_eq_of_lt (by omega) (by omega)
  have h1' : (k : Int) % (s.size : Int) = (k : Int) := Int.emod_eq_of_lt (by omega) (by omega)
  have h2 : ((k : Int) + (s.size : Int)) % (s.size : Int) = (k : Int) := by rw [Int.add_emod_right]; exact h1'
  have hno : ¬ ((s.extract k s.size).size + (s.extract 0 k).size > 9223372036854775807) := by rw [ByteArray.size_extract, ByteArray.size_extract]; omega
  go_enter Tryz.func55, Tryz.ntmps55
  go_wp2_with fail
  go_quiet (fail)
  go_wp2
  go_ret
  exact ⟨ret_str' HE.out, below_drewN (Below.refl _ _) _⟩
theorem spec_RotateCells (s : ByteArray) (k : Nat) (w : World) (hv : validCells s = true) (hk : k < s.size) :
    Calls Tryz.prog 28 #[.string s, .int .i64 k] w fun e w' => e = .returned (.tuple #[.string (sliceS s k s.size), .bool true]) ∧ Below w.heap.size w w' := by
  obtain ⟨v1, v2, _⟩ := valid_size hv
  have HC := Hid.in_ (fun w => spec_l02Cells s w (by omega))
  have HR := Hid.in_ (fun w => spec_l02Rotate s k w hk (by omega))
  rw [hv] at HC
  clear hv
  generalize sliceS s k s.size = Z at *
  go_enter Tryz.func28, Tryz.ntmps28
  go_wp2_with (first | (go_at_call 54; refine (HC.out _).mono ?_; rintro e w' ⟨rfl, rfl⟩) | (go_at_call 55; refine (HR.out _).mono ?_; rintro e w2 ⟨rfl, hb2⟩))
  go_ret2
  exact ⟨rfl, hb2⟩
end Go.Proofs.YtlelgpknkgjaeaaGreatDoor

/- The laws' helpers over one record: 'to..', 'sz..'. -/
namespace Go.Proofs.YtlelgpknkgjaeaaGreatDoor
open Go.ChangeShapes Go.WideShapes Go.ChangeAt Go.RowKit
set_option linter.unusedVariables false
set_option linter.unusedSimpArgs false

end Go.Proofs.YtlelgpknkgjaeaaGreatDoor

/- The laws' helpers over records of one-cell fields: 'to..', 'to..S', 'sz..S', 'eq..', 'eq..S', 'mark..S', 'held..S'. -/
namespace Go.Proofs.YtlelgpknkgjaeaaGreatDoor
open Go.ChangeShapes Go.WideShapes Go.ChangeAt Go.RowKit
set_option linter.unusedVariables false
set_option linter.unusedSimpArgs false
set_option maxRecDepth 4000

def FeatR.zero : FeatR := ⟨0, 0, 0⟩
def FeatR.mark (k : Int) : FeatR := ⟨k, k + 1, k + 2⟩
def FeatR.marks (k : Int) (n : Nat) : List FeatR := (List.range n).map fun (i : Nat) => FeatR.mark (k + 3 * (i : Int))
theorem FeatR.marks_len (k : Int) (n : Nat) : (FeatR.marks k n).length = n := by simp [FeatR.marks]
theorem FeatR.marks_get (k : Int) (n i : Nat) (h : i < n) : (FeatR.marks k n)[i]? = some (FeatR.mark (k + 3 * (i : Int))) := by simp [FeatR.marks, h]
theorem FeatR.marks_succ (k : Int) (n : Nat) : FeatR.marks k (n + 1) = FeatR.marks k n ++ [FeatR.mark (k + 3 * (n : Int))] := by simp [FeatR.marks, List.range_succ]
theorem FeatR.marks_step (m : Int) (k : Nat) (l : List FeatR) (hk : k < l.length) : (FeatR.marks m k ++ l.drop k).set k (FeatR.mark (m + 3 * (k : Int))) = FeatR.marks m (k + 1) ++ l.drop (k + 1) := by
  have h3 : l.drop k = l[k] :: l.drop (k + 1) := List.drop_eq_getElem_cons hk
  rw [FeatR.marks_succ, h3, List.set_append_right _ _ (by rw [FeatR.marks_len]; omega), FeatR.marks_len, Nat.sub_self, List.set_cons_zero]
  simp only [List.append_assoc, List.cons_append, List.nil_append]

def MarkR.zero : MarkR := ⟨0, 0, 0⟩
theorem Tryz.info_Mark : (Tryz.prog.info? 51).map (fun i => (i.zero, i.size, i.bytes)) = some (some (.agg #[.int .i64 0, .int .i64 0, .int .i64 0]), 3, 24) := by kernel_rfl
theorem laws_eqMark (k : Int) (a : Int) (b : Int) (w : World) :
    Calls Tryz.prog 39 #[.agg #[.int .i64 k, .int .i64 a, .int .i64 b], .agg #[.int .i64 k, .int .i64 a, .int .i64 b]] w fun e w' => e = .returned (.bool true) ∧ Below w.heap.size w w' := by
  go_enter Tryz.func39, Tryz.ntmps39
  go_wp2
  go_ret
  exact ⟨rfl, by go_grown⟩
theorem laws_eqMarkS {v1 v2 : Value} {n b1 b2 : Nat} {l : List MarkR} (w : World) (h1 : w.ownsRow b1 51 3 v1 n (l.flatMap MarkR.cells)) (h2 : w.ownsRow b2 51 3 v2 n (l.flatMap MarkR.cells)) :
    Calls Tryz.prog 9 #[v1, v2] w fun e w' => e = .returned (.bool true) ∧ Below w.heap.size w w' := by
  obtain ⟨A1, c1, rfl, hl1, hn, hA1⟩ := own_shape h1
  obtain ⟨A2, c2, rfl, hl2, _, hA2⟩ := own_shape h2
  have HL : Hid (l.length = n) := by rw [flat_len MarkR.len] at hl1; unfold Hid; omega
  have H1 := Hid.in_ hA1
  have H2 := Hid.in_ hA2
  clear hA1 hA2 hl1 hl2 h1 h2
  go_enter Tryz.func9, Tryz.ntmps9
  go_wp2
  go_loopg [5] n (fun m i wr => ∃ k : Nat, k + m = n ∧ i = .int .i64 k ∧ Below w.heap.size w wr)
  case atStart => exact ⟨0, by omega, rfl, Below.refl _ _⟩
  case round =>
    obtain ⟨k, hkm, rfl, hbw⟩ := hrel
    have HK := Hid.in_ hkm
    have HB := Hid.in_ hbw
    clear hkm hbw
    by_cases hlt : k < n
    · obtain ⟨g1, rfl, _, hg1, hx1, _⟩ := H1.out (by omega)
      obtain ⟨g2, rfl, _, hg2, hx2, _⟩ := H2.out (by omega)
      obtain ⟨m, hm⟩ := get_lt l k (by rw [HL.out]; exact hlt)
      obtain ⟨c0, c1, c2⟩ := boxAt3 ((Box.elem MarkR.len hx1 hm).step HB.out)
      obtain ⟨d0, d1, d2⟩ := boxAt3 ((Box.elem MarkR.len hx2 hm).step HB.out)
      clear hx1 hx2 hm
      go_wp2_with fail
      go_still_tail 8, (by kernel_rfl)
      change wpList _ _ _ _ _ wr.drew
      have HB2 : Hid (Below w.heap.size w wr.drew) := HB.out.drew
      generalize wr.drew = w2 at *
      clear c0 c1 c2 d0 d1 d2
      go_wp2_with fail
      refine (laws_eqMark _ _ _ _).mono ?_
      rintro e w3 ⟨rfl, hb3⟩
      go_wp2
      have hk := HK.out
      go_roundg (gk - 1)
      case measure => omega
      case rel => exact ⟨k + 1, by omega, by go_num, bstep HB2.out hb3⟩
    · have hk := HK.out
      obtain rfl : k = n := by omega
      go_wp2
      go_ret
      exact ⟨rfl, HB.out⟩
def MarkR.mark (k : Int) : MarkR := ⟨k, k + 1, k + 2⟩
def MarkR.marks (k : Int) (n : Nat) : List MarkR := (List.range n).map fun (i : Nat) => MarkR.mark (k + 3 * (i : Int))
theorem MarkR.marks_len (k : Int) (n : Nat) : (MarkR.marks k n).length = n := by simp [MarkR.marks]
theorem MarkR.marks_get (k : Int) (n i : Nat) (h : i < n) : (MarkR.marks k n)[i]? = some (MarkR.mark (k + 3 * (i : Int))) := by simp [MarkR.marks, h]
theorem MarkR.marks_succ (k : Int) (n : Nat) : MarkR.marks k (n + 1) = MarkR.marks k n ++ [MarkR.mark (k + 3 * (n : Int))] := by simp [MarkR.marks, List.range_succ]
theorem MarkR.marks_step (m : Int) (k : Nat) (l : List MarkR) (hk : k < l.length) : (MarkR.marks m k ++ l.drop k).set k (MarkR.mark (m + 3 * (k : Int))) = MarkR.marks m (k + 1) ++ l.drop (k + 1) := by
  have h3 : l.drop k = l[k] :: l.drop (k + 1) := List.drop_eq_getElem_cons hk
  rw [MarkR.marks_succ, h3, List.set_append_right _ _ (by rw [MarkR.marks_len]; omega), MarkR.marks_len, Nat.sub_self, List.set_cons_zero]
  simp only [List.append_assoc, List.cons_append, List.nil_append]
theorem laws_heldMarkS {v : Value} {n b : Nat} (m : Int) (w : World) (h : w.ownsRow b 51 3 v n ((MarkR.marks m n).flatMap MarkR.cells)) (hm : 0 ≤ m) (hm2 : m ≤ 4294967296) (hn2 : n ≤ 4294967296) :
    Calls Tryz.prog 11 #[v, .int .i64 m] w fun e w' => e = .returned (.int .i64 (m + 3 * (n : Int))) ∧ w = w' := by
  obtain ⟨A, c, rfl, hl, hn, hA⟩ := own_shape h
  have H1 := Hid.in_ hA
  clear hA hl h
  go_enter Tryz.func11, Tryz.ntmps11
  go_wp2
  go_loopg [1, 5] n (fun r m' i wr => ∃ k : Nat, k + r = n ∧ i = .int .i64 k ∧ m' = .int .i64 (m + 3 * (k : Int)) ∧ w = wr)
  case atStart => exact ⟨0, by omega, rfl, by simp, rfl⟩
  case round =>
    obtain ⟨k, hkm, rfl, rfl, rfl⟩ := hrel
    have HK := Hid.in_ hkm
    clear hkm
    by_cases hlt : k < n
    · obtain ⟨g, rfl, _, _, hx, _⟩ := H1.out (by omega)
      obtain ⟨c0, c1, c2⟩ := boxAt3 (Box.elem MarkR.len hx (MarkR.marks_get m n k hlt))
      clear hx
      simp only [MarkR.mark] at c0 c1 c2
      go_wp2
      have hk := HK.out
      go_roundg (gk - 1)
      case measure => omega
      case rel => exact ⟨k + 1, by omega, by go_num, by go_num, rfl⟩
    · have hk := HK.out
      obtain rfl : k = n := by omega
      go_wp2
      go_ret
      exact ⟨rfl, rfl⟩
theorem laws_markMarkS {v : Value} {n b : Nat} {l : List MarkR} (m : Int) (w : World) (h : w.ownsRow b 51 3 v n (l.flatMap MarkR.cells)) (hm : 0 ≤ m) (hm2 : m ≤ 4294967296) (hn2 : n ≤ 4294967296) :
    Calls Tryz.prog 10 #[v, .int .i64 m] w fun e w' => e = .returned (.int .i64 (m + 3 * (n : Int))) ∧ w'.ownsRow b 51 3 v n ((MarkR.marks m n).flatMap MarkR.cells) ∧ w.grownBy w' v.ownBlock := by
  have hlx : l.length = n := by have := h.1; rw [flat_len MarkR.len] at this; omega
  obtain ⟨A, c, rfl, hl, hn, hA⟩ := own_shape h
  have HX := Hid.in_ hlx
  have H0 := Hid.in_ h
  clear hA hl h hlx
  go_enter Tryz.func10, Tryz.ntmps10
  go_wp2
  go_loopg [1, 5] n (fun r m' i wr => ∃ k : Nat, k + r = n ∧ i = .int .i64 k ∧ m' = .int .i64 (m + 3 * (k : Int)) ∧ Hid (wr.ownsRow b 51 3 (.slice A n c) n ((MarkR.marks m k ++ l.drop k).flatMap MarkR.cells) ∧ w.grownBy wr (Value.slice A n c).ownBlock))
  case atStart => exact ⟨0, by omega, rfl, by simp, by simpa [MarkR.marks] using H0.out, World.grownBy.refl _ _⟩
  case round =>
    obtain ⟨k, hkm, rfl, rfl, HO⟩ := hrel
    have HK := Hid.in_ hkm
    clear hkm
    by_cases hlt : k < n
    · obtain ⟨A', c', hv, hl', _, hA'⟩ := own_shape HO.out.1
      obtain ⟨g, hg, _, _, hx, hfz⟩ := hA' (by omega)
      obtain ⟨rfl, rfl⟩ : A = A' ∧ c = c' := by injection hv with h1 h2 h3; exact ⟨h1, h3⟩
      subst hg
      have hlen : k < (MarkR.marks m k ++ l.drop k).length := by rw [List.length_append, MarkR.marks_len, List.length_drop, HX.out]; omega
      obtain ⟨y, hy⟩ := get_lt _ k hlen
      obtain ⟨c0, c1, c2⟩ := boxAt3 (Box.elem MarkR.len hx hy)
      have f0 := hfz (k * 3)
      have f1 := hfz (k * 3 + 1)
      have f2 := hfz (k * 3 + 2)
      have hS := own_setRec MarkR.len (MarkR.mark (m + 3 * (k : Int))) hlen HO.out.1
      rw [MarkR.marks_step m k l (by rw [HX.out]; exact hlt)] at hS
      have HO2 := Hid.in_ (And.intro hS.1 (World.grownBy.trans (show w.grownBy wr (some g) from HO.out.2) hS.2))
      rw [show MarkR.mark (m + 3 * (k : Int)) = ⟨m + 3 * (k : Int), m + 3 * (k : Int) + 1, m + 3 * (k : Int) + 1 + 1⟩ from congrArg (MarkR.mk _ _) (by omega)] at HO2
      clear hx hfz hy hv hl' HO hS hA'
      go_wp2
      have hk := HK.out
      go_roundg (gk - 1)
      case measure => omega
      case rel => exact ⟨k + 1, by omega, by go_num, by go_num, HO2⟩
    · have hk := HK.out
      obtain rfl : k = n := by omega
      have HE : Hid (wr.ownsRow b 51 3 (.slice A k c) k ((MarkR.marks m k).flatMap MarkR.cells) ∧ w.grownBy wr (Value.slice A k c).ownBlock) := by
        have := HO.out
        rw [List.drop_of_length_le (by rw [HX.out]; exact Nat.le_refl _), List.append_nil] at this
        exact this
      clear HO
      go_wp2
      go_ret
      exact ⟨rfl, HE.out⟩

def RunR.zero : RunR := ⟨0, 0⟩
theorem Tryz.info_CellRun : (Tryz.prog.info? 85).map (fun i => (i.zero, i.size, i.bytes)) = some (some (.agg #[.int .i64 0, .int .i64 0]), 2, 16) := by kernel_rfl
def RunR.mark (k : Int) : RunR := ⟨k, k + 1⟩
def RunR.marks (k : Int) (n : Nat) : List RunR := (List.range n).map fun (i : Nat) => RunR.mark (k + 2 * (i : Int))
theorem RunR.marks_len (k : Int) (n : Nat) : (RunR.marks k n).length = n := by simp [RunR.marks]
theorem RunR.marks_get (k : Int) (n i : Nat) (h : i < n) : (RunR.marks k n)[i]? = some (RunR.mark (k + 2 * (i : Int))) := by simp [RunR.marks, h]
theorem RunR.marks_succ (k : Int) (n : Nat) : RunR.marks k (n + 1) = RunR.marks k n ++ [RunR.mark (k + 2 * (n : Int))] := by simp [RunR.marks, List.range_succ]
theorem RunR.marks_step (m : Int) (k : Nat) (l : List RunR) (hk : k < l.length) : (RunR.marks m k ++ l.drop k).set k (RunR.mark (m + 2 * (k : Int))) = RunR.marks m (k + 1) ++ l.drop (k + 1) := by
  have h3 : l.drop k = l[k] :: l.drop (k + 1) := List.drop_eq_getElem_cons hk
  rw [RunR.marks_succ, h3, List.set_append_right _ _ (by rw [RunR.marks_len]; omega), RunR.marks_len, Nat.sub_self, List.set_cons_zero]
  simp only [List.append_assoc, List.cons_append, List.nil_append]

def SecR.zero : SecR := ⟨0, 0, 0, 0, ByteArray.empty, false, false, false⟩

def FndR.zero : FndR := ⟨0, 0, 0, 0, ByteArray.empty, 0, false, 0⟩
theorem Tryz.info_Found : (Tryz.prog.info? 63).map (fun i => (i.zero, i.size, i.bytes)) = some (some (.agg #[.int .i64 0, .int .i64 0, .int .i64 0, .int .i64 0, .string ByteArray.empty, .int .i64 0, .bool false, .int .i64 0]), 8, 72) := by kernel_rfl
theorem laws_eqFound (c : Int) (h : Int) (n : Int) (s : Int) (d : ByteArray) (t : Int) (l : Bool) (p : Int) (w : World) :
    Calls Tryz.prog 42 #[.agg #[.int .i64 c, .int .i64 h, .int .i64 n, .int .i64 s, .string d, .int .i64 t, .bool l, .int .i64 p], .agg #[.int .i64 c, .int .i64 h, .int .i64 n, .int .i64 s, .string d, .int .i64 t, .bool l, .int .i64 p]] w fun e w' => e = .returned (.bool true) ∧ Below w.heap.size w w' := by
  go_enter Tryz.func42, Tryz.ntmps42
  go_wp2
  go_ret
  exact ⟨rfl, by go_grown⟩
theorem laws_eqFoundS {v1 v2 : Value} {n b1 b2 : Nat} {l : List FndR} (w : World) (h1 : w.ownsRow b1 63 8 v1 n (l.flatMap FndR.cells)) (h2 : w.ownsRow b2 63 8 v2 n (l.flatMap FndR.cells)) :
    Calls Tryz.prog 14 #[v1, v2] w fun e w' => e = .returned (.bool true) ∧ Below w.heap.size w w' := by
  obtain ⟨A1, c1, rfl, hl1, hn, hA1⟩ := own_shape h1
  obtain ⟨A2, c2, rfl, hl2, _, hA2⟩ := own_shape h2
  have HL : Hid (l.length = n) := by rw [flat_len FndR.len] at hl1; unfold Hid; omega
  have H1 := Hid.in_ hA1
  have H2 := Hid.in_ hA2
  clear hA1 hA2 hl1 hl2 h1 h2
  go_enter Tryz.func14, Tryz.ntmps14
  go_wp2
  go_loopg [5] n (fun m i wr => ∃ k : Nat, k + m = n ∧ i = .int .i64 k ∧ Below w.heap.size w wr)
  case atStart => exact ⟨0, by omega, rfl, Below.refl _ _⟩
  case round =>
    obtain ⟨k, hkm, rfl, hbw⟩ := hrel
    have HK := Hid.in_ hkm
    have HB := Hid.in_ hbw
    clear hkm hbw
    by_cases hlt : k < n
    · obtain ⟨g1, rfl, _, hg1, hx1, _⟩ := H1.out (by omega)
      obtain ⟨g2, rfl, _, hg2, hx2, _⟩ := H2.out (by omega)
      obtain ⟨m, hm⟩ := get_lt l k (by rw [HL.out]; exact hlt)
      obtain ⟨c0, c1, c2, c3, c4, c5, c6, c7⟩ := boxAt8 ((Box.elem FndR.len hx1 hm).step HB.out)
      obtain ⟨d0, d1, d2, d3, d4, d5, d6, d7⟩ := boxAt8 ((Box.elem FndR.len hx2 hm).step HB.out)
      clear hx1 hx2 hm
      go_wp2_with fail
      go_still_tail 8, (by kernel_rfl)
      change wpList _ _ _ _ _ wr.drew
      have HB2 : Hid (Below w.heap.size w wr.drew) := HB.out.drew
      generalize wr.drew = w2 at *
      clear c0 c1 c2 c3 c4 c5 c6 c7 d0 d1 d2 d3 d4 d5 d6 d7
      go_wp2_with fail
      refine (laws_eqFound _ _ _ _ _ _ _ _ _).mono ?_
      rintro e w3 ⟨rfl, hb3⟩
      go_wp2
      have hk := HK.out
      go_roundg (gk - 1)
      case measure => omega
      case rel => exact ⟨k + 1, by omega, by go_num, bstep HB2.out hb3⟩
    · have hk := HK.out
      obtain rfl : k = n := by omega
      go_wp2
      go_ret
      exact ⟨rfl, HB.out⟩

end Go.Proofs.YtlelgpknkgjaeaaGreatDoor

/- 'SyncRuns' of the program and of the reference: the runs of ten or more cells that are 1. -/
namespace Go.Proofs.YtlelgpknkgjaeaaGreatDoor
open Go.ChangeShapes Go.WideShapes Go.ChangeAt Go.RowKit
set_option linter.unusedSimpArgs false
set_option linter.unusedVariables false
set_option maxRecDepth 4000

/-- Is the cell 'c' places behind 'i' a 1? -/
def oneAt (s : ByteArray) (i c : Nat) : Bool := byteAt s ((i + c) % s.size) == 49
def cntF (p : Nat → Bool) : Nat → Nat → Nat
  | 0, c => c
  | f + 1, c => if p c = true then cntF p f (c + 1) else c
theorem cntF_stop {p : Nat → Bool} {d : Nat} (hd : p d = false) : ∀ (f c : Nat), c ≤ d → d - c < f → (∀ j, c ≤ j → j < d → p j = true) → cntF p f c = d
  | 0, c, _, h, _ => by omega
  | f + 1, c, hc, h, hp => by
    unfold cntF
    by_cases e : c = d
    · subst e
      rw [if_neg (by rw [hd]; decide)]
    · rw [if_pos (hp c (Nat.le_refl _) (by omega))]
      exact cntF_stop hd f (c + 1) (by omega) (by omega) (fun j h1 h2 => hp j (by omega) h2)
theorem cntF_le (p : Nat → Bool) : ∀ (f c : Nat), cntF p f c ≤ c + f
  | 0, c => Nat.le_refl _
  | f + 1, c => by
    unfold cntF
    split
    · have := cntF_le p f (c + 1)
      omega
    · omega
def cnt (s : ByteArray) (i : Nat) : Nat := cntF (oneAt s i) s.size 0
def startAt (s : ByteArray) (i : Nat) : Bool := (byteAt s i == 49) && !(byteAt s ((i + s.size - 1) % s.size) == 49)
theorem start_stop {s : ByteArray} {i : Nat} (h0 : 0 < s.size) (h : startAt s i = true) : oneAt s i (s.size - 1) = false := by
  unfold startAt at h
  simp only [Bool.and_eq_true, Bool.not_eq_true'] at h
  unfold oneAt
  rw [show i + (s.size - 1) = i + s.size - 1 by omega]
  exact h.2
theorem cnt_stop {s : ByteArray} {i d : Nat} (hd : d < s.size) (h : oneAt s i d = false) (hp : ∀ j, j < d → oneAt s i j = true) : cnt s i = d :=
  cntF_stop h s.size 0 (Nat.zero_le _) (by omega) (fun j _ hj => hp j hj)
theorem cnt_le (s : ByteArray) (i : Nat) : cnt s i ≤ s.size := by
  have := cntF_le (oneAt s i) s.size 0
  unfold cnt
  omega
def syncAt (s : ByteArray) (i : Nat) : Bool := startAt s i && decide (10 ≤ cnt s i)
def syncTo (s : ByteArray) : Nat → List RunR
  | 0 => []
  | k + 1 => syncTo s k ++ (if syncAt s k = true then [⟨(k : Int), (cnt s k : Nat)⟩] else [])
theorem syncTo_len (s : ByteArray) : ∀ k, (syncTo s k).length ≤ k
  | 0 => Nat.le_refl _
  | k + 1 => by
    have := syncTo_len s k
    unfold syncTo
    split <;> simp <;> omega
theorem syncTo_yes {s : ByteArray} {k : Nat} (h : syncAt s k = true) : syncTo s (k + 1) = syncTo s k ++ [⟨(k : Int), (cnt s k : Nat)⟩] := by
  show syncTo s k ++ (if syncAt s k = true then _ else []) = _
  rw [if_pos h]
theorem syncTo_no {s : ByteArray} {k : Nat} (h : syncAt s k = false) : syncTo s (k + 1) = syncTo s k := by
  show syncTo s k ++ (if syncAt s k = true then _ else []) = _
  rw [if_neg (by rw [h]; decide), List.append_nil]
def allOnes (s : ByteArray) : Bool := s.data.toList.all (· == 49)
def syncV (s : ByteArray) : List RunR :=
  if validCells s = true then (if allOnes s = true then (if 10 ≤ s.size then [⟨0, (s.size : Nat)⟩] else []) else syncTo s s.size) else []
theorem ones_at {s : ByteArray} (h : allOnes s = true) {k : Nat} (hk : k < s.size) : byteAt s k = 49 := by
  unfold allOnes at h
  rw [List.all_eq_true] at h
  have hk' : k < s.data.toList.length := by simpa using hk
  have := h s.data.toList[k] (List.getElem_mem _)
  unfold byteAt
  rw [List.getD_eq_getElem?_getD, List.getElem?_eq_getElem hk']
  simpa using this
theorem ones_none {s : ByteArray} (h : allOnes s = true) : ∀ k, k ≤ s.size → syncTo s k = []
  | 0, _ => rfl
  | k + 1, hk => by
    have hs : syncAt s k = false := by
      unfold syncAt startAt
      rw [ones_at h (k := (k + s.size - 1) % s.size) (Nat.mod_lt _ (by omega))]
      simp
    rw [syncTo_no hs, ones_none h k (by omega)]
theorem contains_zero {s : ByteArray} (h : allBits s = true) : decide (0 ≤ Lib.indexByte s.data.toList 48) = !allOnes s := by
  have hge := Lib.indexByte_ge s.data.toList 48
  by_cases hm : Lib.indexByte s.data.toList 48 = -1
  · have hn := Lib.indexByte_none hm
    rw [hm]
    have : allOnes s = true := by
      unfold allOnes
      rw [List.all_eq_true]
      intro x hx
      unfold allBits at h
      rw [List.all_eq_true] at h
      have hb := h x hx
      obtain ⟨i, hi, rfl⟩ := List.mem_iff_getElem.1 hx
      have := hn i
      rw [List.getElem?_eq_getElem hi] at this
      unfold isBit at hb
      simp at hb
      simp
      rcases hb with hb | hb
      · exact absurd (congrArg some hb) this
      · exact hb
    rw [this]
    rfl
  · obtain ⟨o, ho⟩ := Int.eq_ofNat_of_zero_le (show 0 ≤ Lib.indexByte s.data.toList 48 by omega)
    have h1 := (Lib.indexByte_some ho).1
    have : allOnes s = false := by
      unfold allOnes
      rw [List.all_eq_false]
      exact ⟨48, List.mem_of_getElem? h1, by decide⟩
    rw [this, decide_eq_true (by omega)]
    rfl
theorem run_cells {l : List RunR} {a c : Int} : l.flatMap RunR.cells ++ [.int .i64 a, .int .i64 c] = (l ++ [(⟨a, c⟩ : RunR)]).flatMap RunR.cells := (flat_snoc l (⟨a, c⟩ : RunR)).symm
theorem byte49 (c : UInt8) : (c = 49 ∧ (c == 49) = true) ∨ (((c.toNat : Int) != 49) = true ∧ ((c.toNat : Int) == 49) = false ∧ (c == 49) = false) := by
  by_cases h : c = 49
  · exact .inl ⟨h, by rw [h]; rfl⟩
  · have h2 : ¬ (c.toNat : Int) = 49 := fun e => h (UInt8.toNat_inj.1 (by simpa using (by omega : c.toNat = 49)))
    exact .inr ⟨bne_iff_ne.2 h2, beq_eq_false_iff_ne.2 h2, beq_eq_false_iff_ne.2 h⟩
theorem cellsTwo {w : World} {x y : Value} {t : TypeId} : ∀ j u, ([x, y] : List Value)[j]? = some u → (w.alloc (.cells #[x, y] t)).cell? ((⟨w.heap.size, 0, none⟩ : Addr).add j) = some u := fun j u hu => by
  rw [addr_add, Nat.zero_add]
  exact Box.new w [x, y] t j u hu
set_option maxHeartbeats 4000000 in
theorem impl_syncRuns (s : ByteArray) (w : World) (hv : validCells s = true) :
    Calls Tryz.prog 101 #[.string s] w fun e w' => ∃ v, e = .returned v ∧ w'.ownsRow w.heap.size 85 2 v (syncV s).length ((syncV s).flatMap RunR.cells) ∧ Below w.heap.size w w' := by
  obtain ⟨i0, hti, hz0, hz1, hz2⟩ := info_parts Tryz.info_CellRun
  obtain ⟨v1, v2, v3⟩ := valid_size hv
  have HC := Hid.in_ (fun w => Any.strings_Contains_one Tryz.lays144 s 48 w)
  rw [contains_zero v3] at HC
  change Hid (∀ w, Calls Tryz.prog 130 #[.string s, .string ⟨#[48]⟩] w fun e w' => e = .returned (.bool (!allOnes s)) ∧ w' = w) at HC
  cases ho : allOnes s
  · have HV := Hid.in_ (show syncV s = syncTo s s.size by unfold syncV; rw [hv, ho]; rfl)
    rw [ho] at HC
    obtain ⟨N, hN⟩ : ∃ N, s.size = N := ⟨_, rfl⟩
    have HST := Hid.in_ (fun i h => start_stop (s := s) (i := i) v1 h)
    have HCS := Hid.in_ (fun i d h1 h2 h3 => cnt_stop (s := s) (i := i) (d := d) h1 h2 h3)
    rw [hN] at v1 v2 HV HST HCS
    clear hv v3 ho
    go_enter Tryz.func101, Tryz.ntmps101
    go_wp2_with (go_at_call 130; refine (HC.out _).mono ?_; rintro e w' ⟨rfl, rfl⟩)
    go_loopg [4, 18] N (fun m v i wr => ∃ k : Nat, k + m = N ∧ i = .int .i64 k ∧ Hid (wr.ownsRow w'.heap.size 85 2 v (syncTo s k).length ((syncTo s k).flatMap RunR.cells)) ∧ Hid (Below w'.heap.size w' wr))
    case atStart => exact ⟨0, by omega, rfl, World.ownsRow_nil _ _ _ _, Below.refl _ _⟩
    case round =>
      obtain ⟨k, hkm, rfl, HI, HB⟩ := hrel
      have HK := Hid.in_ hkm
      clear hkm
      by_cases hlt : k < N
      · have HL := Hid.in_ (syncTo_len s k)
        have hks : k < s.size := by omega
        obtain ⟨q, hq⟩ : ∃ q, (k + N - 1) % N = q := ⟨_, rfl⟩
        have hqn : q < N := by rw [← hq]; exact Nat.mod_lt _ (by omega)
        have hqs : q < s.size := by omega
        have hm : ((k : Int) + (N : Int) - 1) % (N : Int) = (q : Int) := by
          rw [← hq, show (k : Int) + (N : Int) - 1 = ((k + N - 1 : Nat) : Int) by omega]
          simp
        obtain ⟨c, hc⟩ : ∃ c : UInt8, s[k] = c := ⟨_, rfl⟩
        obtain ⟨d, hd⟩ : ∃ d : UInt8, s[q] = d := ⟨_, rfl⟩
        have hst : startAt s k = ((c == 49) && !(d == 49)) := by
          unfold startAt
          rw [hN, hq, byteAt_eq hks, byteAt_eq hqs, hc, hd]
        obtain ⟨rfl, e1⟩ | ⟨n1, n2, e1⟩ := byte49 c
        · obtain ⟨rfl, e2⟩ | ⟨n3, n4, e2⟩ := byte49 d
          · have HS := Hid.in_ (syncTo_no (s := s) (k := k) (by unfold syncAt; rw [hst]; rfl))
            clear hst hq
            go_wp2
            have hk := HK.out
            go_roundg (gk - 1)
            case measure => omega
            case rel => exact ⟨k + 1, by omega, by go_num, by rw [HS.out]; exact HI.out, HB.out⟩
          · have hstt : startAt s k = true := by rw [hst, e2]; rfl
            have HSTT := Hid.in_ hstt
            have HSS := Hid.in_ (HST.out k hstt)
            clear hst hq hstt
            go_wp2
            obtain ⟨gO, rfl⟩ : ∃ g, g = gk := ⟨_, rfl⟩
            obtain ⟨wo, rfl⟩ : ∃ wo : World, wo = wr := ⟨_, rfl⟩
            go_loopg [6] N (fun m i wi => ∃ c : Nat, c + m = N ∧ i = .int .i64 c ∧ c < N ∧ Hid (∀ j, j < c → oneAt s k j = true) ∧ wo = wi)
            case atStart => exact ⟨0, by omega, rfl, by omega, fun j hj => by omega, rfl⟩
            case round =>
              obtain ⟨c, hcm, rfl, hcn, HP, rfl⟩ := hrel
              have HM := Hid.in_ hcm
              clear hcm
              obtain ⟨p, hp⟩ : ∃ p, (k + c) % N = p := ⟨_, rfl⟩
              have hpn : p < N := by rw [← hp]; exact Nat.mod_lt _ (by omega)
              have hps : p < s.size := by omega
              have hm2 : ((k : Int) + (c : Int)) % (N : Int) = (p : Int) := by rw [← hp]; simp
              obtain ⟨x, hx⟩ : ∃ x : UInt8, s[p] = x := ⟨_, rfl⟩
              have hone : oneAt s k c = (x == 49) := by
                unfold oneAt
                rw [hN, hp, byteAt_eq hps, hx]
              clear hp
              obtain ⟨rfl, e3⟩ | ⟨n5, n6, e3⟩ := byte49 x
              · have HP2 := Hid.in_ (show ∀ j, j < c + 1 → oneAt s k j = true from fun j hj => by
                  rcases Nat.lt_or_ge j c with h | h
                  · exact HP.out j h
                  · obtain rfl : j = c := by omega
                    rw [hone]; rfl)
                have hcl : c + 1 < N := by
                  rcases Nat.lt_or_ge (c + 1) N with h | h
                  · exact h
                  · have : c = N - 1 := by omega
                    have h2 := HSS.out
                    rw [← this, hone] at h2
                    cases h2
                clear hone
                go_wp2
                have hM := HM.out
                go_roundg (gk - 1)
                case measure => omega
                case rel => exact ⟨c + 1, by omega, by go_num, hcl, HP2, rfl⟩
              · have HCN := Hid.in_ (HCS.out k c hcn (by rw [hone]; exact e3) HP.out)
                clear hone
                by_cases h10 : 10 ≤ c
                · have HS := Hid.in_ (show syncTo s (k + 1) = syncTo s k ++ [⟨(k : Int), (c : Nat)⟩] by
                    have := syncTo_yes (s := s) (k := k) (by unfold syncAt; rw [HSTT.out, HCN.out, decide_eq_true h10]; rfl)
                    rw [HCN.out] at this
                    exact this)
                  go_wp2_with (at_builtin; refine wpList_append_own _ rfl _ _ 81 rfl w'.heap.size 85 i0 (.agg #[.int .i64 0, .int .i64 0]) 2 16 Tryz.underlying81 hti hz0 hz1 hz2 rfl (by decide) _ _ _ rfl (HI.out.alloc _) ⟨wo.heap.size, 0, none⟩ 1 1 [.int .i64 k, .int .i64 c] rfl rfl cellsTwo (fun x hx => by simp at hx; rcases hx with rfl | rfl <;> rfl) (by have := HL.out; unfold maxLen; omega) (by have := HL.out; omega) (balloc HB.out _).size ?_; intro v4 w4 ho4 hg4 _)
                  have HB4 := Hid.in_ (bgrown (balloc HB.out _) (HI.out.alloc _) (Nat.le_refl _) hg4)
                  have HO4 := Hid.in_ (show w4.ownsRow w'.heap.size 85 2 v4 (syncTo s (k + 1)).length ((syncTo s (k + 1)).flatMap RunR.cells) by rw [HS.out, List.length_append, ← run_cells]; exact ho4)
                  clear ho4 hg4
                  have hk := HK.out
                  go_roundg (gO - 1)
                  case measure => omega
                  case rel => exact ⟨k + 1, by omega, by go_num, HO4, HB4⟩
                · have HS := Hid.in_ (syncTo_no (s := s) (k := k) (by unfold syncAt; rw [HSTT.out, HCN.out, decide_eq_false h10]; rfl))
                  go_wp2
                  have hk := HK.out
                  go_roundg (gO - 1)
                  case measure => omega
                  case rel => exact ⟨k + 1, by omega, by go_num, by rw [HS.out]; exact HI.out, HB.out⟩
        · have HS := Hid.in_ (syncTo_no (s := s) (k := k) (by unfold syncAt; rw [hst, e1]; rfl))
          clear hst hq
          go_wp2
          have hk := HK.out
          go_roundg (gk - 1)
          case measure => omega
          case rel => exact ⟨k + 1, by omega, by go_num, by rw [HS.out]; exact HI.out, HB.out⟩
      · have hk := HK.out
        obtain rfl : k = N := by omega
        go_wp2
        go_ret
        rw [HV.out]
        exact ⟨_, rfl, HI.out, HB.out⟩
  · rw [ho] at HC
    by_cases h10 : 10 ≤ s.size
    · have HV := Hid.in_ (show syncV s = [⟨0, (s.size : Nat)⟩] by unfold syncV; rw [hv, ho, if_pos rfl, if_pos rfl, if_pos h10])
      clear hv ho v3
      go_enter Tryz.func101, Tryz.ntmps101
      go_wp2_with (go_at_call 130; refine (HC.out _).mono ?_; rintro e w' ⟨rfl, rfl⟩)
      go_ret
      rw [HV.out]
      exact ⟨_, rfl, World.ownsRow_lit _ #[.int .i64 0, .int .i64 (s.size : Nat)] 1 (Nat.le_refl _) (by decide) rfl, balloc (Below.refl _ _) _⟩
    · have HV := Hid.in_ (show syncV s = [] by unfold syncV; rw [hv, ho, if_pos rfl, if_pos rfl, if_neg h10])
      clear hv ho v3
      go_enter Tryz.func101, Tryz.ntmps101
      go_wp2_with (go_at_call 130; refine (HC.out _).mono ?_; rintro e w' ⟨rfl, rfl⟩)
      go_ret
      rw [HV.out]
      exact ⟨_, rfl, World.ownsRow_nil _ _ _ _, Below.refl _ _⟩
set_option maxHeartbeats 4000000 in
theorem spec_l07Syncs (s : ByteArray) (w : World) (v1 : 0 < s.size) (v2 : s.size ≤ 8000) :
    Calls Tryz.prog 61 #[.string s] w fun e w' => ∃ v, e = .returned v ∧ w'.ownsRow w.heap.size 85 2 v (syncTo s s.size).length ((syncTo s s.size).flatMap RunR.cells) ∧ Below w.heap.size w w' := by
  obtain ⟨i0, hti, hz0, hz1, hz2⟩ := info_parts Tryz.info_CellRun
  obtain ⟨N, hN⟩ : ∃ N, s.size = N := ⟨_, rfl⟩
  have HST := Hid.in_ (fun i h => start_stop (s := s) (i := i) v1 h)
  have HCS := Hid.in_ (fun i d h1 h2 h3 => cnt_stop (s := s) (i := i) (d := d) h1 h2 h3)
  have HAT := Hid.in_ (fun (k : Nat) (w : World) (h : k ≤ 4294967296) => spec_l07At s k w v1 (by omega) h)
  rw [hN] at v1 v2 HST HCS HAT ⊢
  go_enter Tryz.func61, Tryz.ntmps61
  go_wp2
  go_loopg [4, 5] N (fun m v i wr => ∃ k : Nat, k + m = N ∧ i = .int .i64 k ∧ Hid (wr.ownsRow w.heap.size 85 2 v (syncTo s k).length ((syncTo s k).flatMap RunR.cells)) ∧ Hid (Below w.heap.size w wr))
  case atStart => exact ⟨0, by omega, rfl, World.ownsRow_lit w #[] 0 (Nat.le_refl _) (by decide) (by decide), balloc (Below.refl _ _) _⟩
  case round =>
    obtain ⟨k, hkm, rfl, HI, HB⟩ := hrel
    have HK := Hid.in_ hkm
    clear hkm
    by_cases hlt : k < N
    · have HL := Hid.in_ (syncTo_len s k)
      have hks : k < s.size := by omega
      obtain ⟨q, hq⟩ : ∃ q, (k + N - 1) % N = q := ⟨_, rfl⟩
      have HA1 := Hid.in_ (show ∀ w, Calls Tryz.prog 95 #[.string s, .int .i64 ((k : Int) + (N : Int) - 1)] w fun e w' => e = .returned (.int .u8 ((byteAt s q).toNat : Int)) ∧ w = w' from fun w => by
        have := HAT.out (k + N - 1) w (by omega)
        rw [hq, show ((k + N - 1 : Nat) : Int) = (k : Int) + (N : Int) - 1 by omega] at this
        exact this)
      obtain ⟨c, hc⟩ : ∃ c : UInt8, s[k] = c := ⟨_, rfl⟩
      obtain ⟨d, hd⟩ : ∃ d : UInt8, byteAt s q = d := ⟨_, rfl⟩
      have hst : startAt s k = ((c == 49) && !(d == 49)) := by
        unfold startAt
        rw [hN, hq, byteAt_eq hks, hd, hc]
      rw [hd] at HA1
      clear hd
      obtain ⟨rfl, e1⟩ | ⟨n1, n2, e1⟩ := byte49 c
      · obtain ⟨rfl, e2⟩ | ⟨n3, n4, e2⟩ := byte49 d
        · have HS := Hid.in_ (syncTo_no (s := s) (k := k) (by unfold syncAt; rw [hst]; rfl))
          clear hst hq
          go_wp2_with (go_at_call 95; refine (HA1.out _).mono ?_; rintro e w' ⟨rfl, rfl⟩)
          have hk := HK.out
          go_roundg (gk - 1)
          case measure => omega
          case rel => exact ⟨k + 1, by omega, by go_num, by rw [HS.out]; exact HI.out, HB.out⟩
        · have hstt : startAt s k = true := by rw [hst, e2]; rfl
          have HSTT := Hid.in_ hstt
          have HSS := Hid.in_ (HST.out k hstt)
          clear hst hq hstt
          go_wp2_with (go_at_call 95; refine (HA1.out _).mono ?_; rintro e w' ⟨rfl, rfl⟩)
          obtain ⟨gO, rfl⟩ : ∃ g, g = gk := ⟨_, rfl⟩
          go_loopg [6] N (fun m i wi => ∃ c : Nat, c + m = N ∧ i = .int .i64 c ∧ c < N ∧ Hid (∀ j, j < c → oneAt s k j = true) ∧ wr = wi)
          case atStart => exact ⟨0, by omega, rfl, by omega, fun j hj => by omega, rfl⟩
          case round =>
            obtain ⟨c, hcm, rfl, hcn, HP, rfl⟩ := hrel
            have HM := Hid.in_ hcm
            clear hcm
            obtain ⟨p, hp⟩ : ∃ p, (k + c) % N = p := ⟨_, rfl⟩
            have HA2 := Hid.in_ (show ∀ w, Calls Tryz.prog 95 #[.string s, .int .i64 ((k : Int) + (c : Int))] w fun e w' => e = .returned (.int .u8 ((byteAt s p).toNat : Int)) ∧ w = w' from fun w => by
              have := HAT.out (k + c) w (by omega)
              rw [hp, show ((k + c : Nat) : Int) = (k : Int) + (c : Int) by omega] at this
              exact this)
            obtain ⟨x, hx⟩ : ∃ x : UInt8, byteAt s p = x := ⟨_, rfl⟩
            have hone : oneAt s k c = (x == 49) := by
              unfold oneAt
              rw [hN, hp, hx]
            rw [hx] at HA2
            clear hp hx
            obtain ⟨rfl, e3⟩ | ⟨n5, n6, e3⟩ := byte49 x
            · have HP2 := Hid.in_ (show ∀ j, j < c + 1 → oneAt s k j = true from fun j hj => by
                rcases Nat.lt_or_ge j c with h | h
                · exact HP.out j h
                · obtain rfl : j = c := by omega
                  rw [hone]; rfl)
              have hcl : c + 1 < N := by
                rcases Nat.lt_or_ge (c + 1) N with h | h
                · exact h
                · have : c = N - 1 := by omega
                  have h2 := HSS.out
                  rw [← this, hone] at h2
                  cases h2
              clear hone
              go_wp2_with (go_at_call 95; refine (HA2.out _).mono ?_; rintro e w'' ⟨rfl, rfl⟩)
              have hM := HM.out
              go_roundg (gk - 1)
              case measure => omega
              case rel => exact ⟨c + 1, by omega, by go_num, hcl, HP2, rfl⟩
            · have HCN := Hid.in_ (HCS.out k c hcn (by rw [hone]; exact e3) HP.out)
              clear hone
              by_cases h10 : 10 ≤ c
              · have HS := Hid.in_ (show syncTo s (k + 1) = syncTo s k ++ [⟨(k : Int), (c : Nat)⟩] by
                  have := syncTo_yes (s := s) (k := k) (by unfold syncAt; rw [HSTT.out, HCN.out, decide_eq_true h10]; rfl)
                  rw [HCN.out] at this
                  exact this)
                go_wp2_with (first | (go_at_call 95; refine (HA2.out _).mono ?_; rintro e w'' ⟨rfl, rfl⟩) | (at_builtin; refine wpList_append_own _ rfl _ _ 81 rfl w.heap.size 85 i0 (.agg #[.int .i64 0, .int .i64 0]) 2 16 Tryz.underlying81 hti hz0 hz1 hz2 rfl (by decide) _ _ _ rfl (HI.out.alloc _) ⟨wr.heap.size, 0, none⟩ 1 1 [.int .i64 k, .int .i64 c] rfl rfl cellsTwo (fun x hx => by simp at hx; rcases hx with rfl | rfl <;> rfl) (by have := HL.out; unfold maxLen; omega) (by have := HL.out; omega) (balloc HB.out _).size ?_; intro v4 w4 ho4 hg4 _))
                have HB4 := Hid.in_ (bgrown (balloc HB.out _) (HI.out.alloc _) (Nat.le_refl _) hg4)
                have HO4 := Hid.in_ (show w4.ownsRow w.heap.size 85 2 v4 (syncTo s (k + 1)).length ((syncTo s (k + 1)).flatMap RunR.cells) by rw [HS.out, List.length_append, ← run_cells]; exact ho4)
                clear ho4 hg4
                have hk := HK.out
                go_roundg (gO - 1)
                case measure => omega
                case rel => exact ⟨k + 1, by omega, by go_num, HO4, HB4⟩
              · have HS := Hid.in_ (syncTo_no (s := s) (k := k) (by unfold syncAt; rw [HSTT.out, HCN.out, decide_eq_false h10]; rfl))
                go_wp2_with (go_at_call 95; refine (HA2.out _).mono ?_; rintro e w'' ⟨rfl, rfl⟩)
                have hk := HK.out
                go_roundg (gO - 1)
                case measure => omega
                case rel => exact ⟨k + 1, by omega, by go_num, by rw [HS.out]; exact HI.out, HB.out⟩
      · have HS := Hid.in_ (syncTo_no (s := s) (k := k) (by unfold syncAt; rw [hst, e1]; rfl))
        clear hst hq
        go_wp2
        have hk := HK.out
        go_roundg (gk - 1)
        case measure => omega
        case rel => exact ⟨k + 1, by omega, by go_num, by rw [HS.out]; exact HI.out, HB.out⟩
    · have hk := HK.out
      obtain rfl : k = N := by omega
      go_wp2
      go_ret
      exact ⟨_, rfl, HI.out, HB.out⟩
theorem syncV_len (s : ByteArray) : (syncV s).length ≤ 8000 := by
  unfold syncV
  split
  · rename_i h
    have := valid_size h
    split
    · split
      · show 1 ≤ 8000; omega
      · exact Nat.zero_le _
    · have := syncTo_len s s.size
      omega
  · exact Nat.zero_le _
end Go.Proofs.YtlelgpknkgjaeaaGreatDoor

/- Rows of int64: 'eqInt64S', 'markInt64S', 'heldInt64S' of the laws over rows of the calls' own. -/
namespace Go.Proofs.YtlelgpknkgjaeaaGreatDoor
open Go.ChangeShapes Go.WideShapes Go.ChangeAt Go.RowKit
set_option linter.unusedSimpArgs false
set_option linter.unusedVariables false

def I64 (xs : List Int) : List Value := xs.map (Value.int .i64)
theorem I64_len (xs : List Int) : (I64 xs).length = xs.length := by simp [I64]
theorem I64_get {xs : List Int} {i : Nat} {x : Int} (h : xs[i]? = some x) : (I64 xs)[i]? = some (.int .i64 x) := by simp [I64, h]

/-- the marks k, k + 1, .. -/
def marks (k : Int) (n : Nat) : List Int := (List.range n).map fun (i : Nat) => k + (i : Int)
theorem marks_len (k : Int) (n : Nat) : (marks k n).length = n := by simp [marks]
theorem marks_get (k : Int) (n i : Nat) (h : i < n) : (marks k n)[i]? = some (k + i) := by simp [marks, h]

theorem laws_eqInt64S {v1 v2 : Value} {n b1 b2 : Nat} {xs : List Int} (w : World) (h1 : w.ownsRow b1 2 1 v1 n (I64 xs)) (h2 : w.ownsRow b2 2 1 v2 n (I64 xs)) :
    Calls Tryz.prog 85 #[v1, v2] w fun e w' => e = .returned (.bool true) ∧ Below w.heap.size w w' := by
  obtain ⟨A1, c1, rfl, hl1, hn, hA1⟩ := own_shape h1
  obtain ⟨A2, c2, rfl, hl2, _, hA2⟩ := own_shape h2
  have HL : Hid (xs.length = n) := by rw [I64_len] at hl1; unfold Hid; omega
  have H1 := Hid.in_ hA1
  have H2 := Hid.in_ hA2
  clear hA1 hA2 hl1 hl2 h1 h2
  go_enter Tryz.func85, Tryz.ntmps85
  go_wp2
  go_loopw [5] (fun i wr => ∃ k : Nat, k ≤ n ∧ i = .int .i64 k ∧ ∃ q, wr = w.drewN q) (fun i _ => n - (intOf i).toNat)
  case atStart => exact ⟨0, Nat.zero_le _, rfl, 0, rfl⟩
  case round =>
    obtain ⟨k, hk, rfl, q, rfl⟩ := hrel
    by_cases hlt : k < n
    · obtain ⟨g1, rfl, _, _, hc1, _⟩ := H1.out (by omega)
      obtain ⟨g2, rfl, _, _, hc2, _⟩ := H2.out (by omega)
      obtain ⟨x, hx⟩ := get_lt xs k (by rw [HL.out]; exact hlt)
      have f1 := hc1 k _ (I64_get hx)
      have f2 := hc2 k _ (I64_get hx)
      clear hc1 hc2 hx
      go_wp2
      go_quiet (fail)
      go_wp2
      go_roundw
      case rel => exact ⟨k + 1, by omega, by go_num, _, rfl⟩
      case measure => simp [intOf]; omega
    · go_wp2
      go_ret
      exact ⟨rfl, below_drewN (Below.refl _ _) _⟩
theorem laws_heldInt64S {v : Value} {n b : Nat} (m : Int) (w : World) (h : w.ownsRow b 2 1 v n (I64 (marks m n))) (hm : 0 ≤ m) (hm2 : m ≤ 4294967296) (hn2 : n ≤ 4294967296) :
    Calls Tryz.prog 50 #[v, .int .i64 m] w fun e w' => e = .returned (.int .i64 (m + n)) ∧ w = w' := by
  obtain ⟨A, c, rfl, hl, hn, hA⟩ := own_shape h
  have H1 := Hid.in_ hA
  clear hA hl h
  go_enter Tryz.func50, Tryz.ntmps50
  go_wp2
  go_loop [1, 5] (fun m' i => ∃ k : Nat, k ≤ n ∧ i = .int .i64 k ∧ m' = .int .i64 (m + k)) (fun _ i => n - (intOf i).toNat)
  case atStart => exact ⟨0, Nat.zero_le _, rfl, by simp⟩
  case round =>
    obtain ⟨k, hk, rfl, rfl⟩ := hrel
    by_cases hlt : k < n
    · obtain ⟨g, rfl, _, _, hc, _⟩ := H1.out (by omega)
      have f1 := hc k _ (I64_get (marks_get m n k hlt))
      clear hc
      go_wp2
      go_round
      case rel => exact ⟨k + 1, by omega, by go_num, by go_num⟩
      case measure => simp [intOf]; omega
    · obtain rfl : k = n := by omega
      go_wp2
      go_ret
      exact ⟨rfl, rfl⟩
theorem marked_step (m : Int) (n k : Nat) (xs : List Int) (hl : xs.length = n) (hk : k < n) : (I64 (marks m k ++ xs.drop k)).set k (.int .i64 (m + k)) = I64 (marks m (k + 1) ++ xs.drop (k + 1)) := by
  have h1 : marks m (k + 1) = marks m k ++ [m + (k : Int)] := by simp [marks, List.range_succ]
  have h3 : xs.drop k = xs[k] :: xs.drop (k + 1) := List.drop_eq_getElem_cons (by omega)
  have h2 : (I64 (marks m k)).length = k := by rw [I64_len, marks_len]
  rw [h1, h3]
  have e : I64 (marks m k ++ xs[k] :: xs.drop (k + 1)) = I64 (marks m k) ++ Value.int .i64 xs[k] :: I64 (xs.drop (k + 1)) := by simp only [I64, List.map_append, List.map_cons]
  rw [e, List.set_append_right _ _ (by omega), h2, Nat.sub_self, List.set_cons_zero]
  simp only [I64, List.map_append, List.map_cons, List.map_nil, List.append_assoc, List.cons_append, List.nil_append]
theorem laws_markInt64S {v : Value} {n b : Nat} {xs : List Int} (m : Int) (w : World) (h : w.ownsRow b 2 1 v n (I64 xs)) (hm : 0 ≤ m) (hm2 : m ≤ 4294967296) (hn2 : n ≤ 4294967296) :
    Calls Tryz.prog 49 #[v, .int .i64 m] w fun e w' => e = .returned (.int .i64 (m + n)) ∧ w'.ownsRow b 2 1 v n (I64 (marks m n)) ∧ w.grownBy w' v.ownBlock := by
  have hlx : xs.length = n := by have := h.1; rw [I64_len] at this; omega
  obtain ⟨A, c, rfl, hl, hn, hA⟩ := own_shape h
  have HX := Hid.in_ hlx
  have H0 := Hid.in_ h
  clear hA hl h hlx
  go_enter Tryz.func49, Tryz.ntmps49
  go_wp2
  go_loopw [1, 5] (fun m' i wr => ∃ k : Nat, k ≤ n ∧ i = .int .i64 k ∧ m' = .int .i64 (m + k) ∧ Hid (wr.ownsRow b 2 1 (.slice A n c) n (I64 (marks m k ++ xs.drop k)) ∧ w.grownBy wr (Value.slice A n c).ownBlock)) (fun _ i _ => n - (intOf i).toNat)
  case atStart => exact ⟨0, Nat.zero_le _, rfl, by simp, by simpa [marks] using H0.out, World.grownBy.refl _ _⟩
  case round =>
    obtain ⟨k, hk, rfl, rfl, HO⟩ := hrel
    by_cases hlt : k < n
    · obtain ⟨A', c', hv, hl', _, hA'⟩ := own_shape HO.out.1
      obtain ⟨g, hg, _, _, hc, hf⟩ := hA' (by omega)
      obtain ⟨rfl, rfl⟩ : A = A' ∧ c = c' := by injection hv with h1 h2 h3; exact ⟨h1, h3⟩
      subst hg
      obtain ⟨u, hu⟩ := get_lt (I64 (marks m k ++ xs.drop k)) k (by rw [I64_len, List.length_append, marks_len, List.length_drop, HX.out]; omega)
      have f1 := hc k _ hu
      have f2 := hf k
      have HO2 : Hid ((wr.setCell ⟨g, k, none⟩ (.int .i64 (m + k))).ownsRow b 2 1 (.slice (some ⟨g, 0, none⟩) n c) n (I64 (marks m (k + 1) ++ xs.drop (k + 1))) ∧ w.grownBy (wr.setCell ⟨g, k, none⟩ (.int .i64 (m + k))) (some g)) := by
        have h1 := (HO.out.1.stored k (.int .i64 (m + k)))
        rw [marked_step m n k xs HX.out hlt] at h1
        refine ⟨h1.1, World.grownBy.trans ?_ h1.2⟩
        exact HO.out.2
      clear hc hf hu hv hl' HO
      go_wp2
      go_roundw
      case rel => exact ⟨k + 1, by omega, by go_num, by go_num, HO2⟩
      case measure => simp [intOf]; omega
    · obtain rfl : k = n := by omega
      have HE : Hid (wr.ownsRow b 2 1 (.slice A k c) k (I64 (marks m k)) ∧ w.grownBy wr (Value.slice A k c).ownBlock) := by
        have := HO.out
        rw [List.drop_of_length_le (by rw [HX.out]; exact Nat.le_refl _), List.append_nil] at this
        exact this
      clear HO
      go_wp2
      go_ret
      exact ⟨rfl, HE.out⟩
end Go.Proofs.YtlelgpknkgjaeaaGreatDoor

/- The places, in rising order, at which a test holds. No program in sight but for the imports. -/
namespace Go.Proofs.YtlelgpknkgjaeaaGreatDoor
set_option linter.unusedSimpArgs false
set_option linter.unusedVariables false

def placesTo (q : Nat → Bool) : Nat → List Int
  | 0 => []
  | k + 1 => placesTo q k ++ (if q k = true then [(k : Int)] else [])
theorem placesTo_len (q : Nat → Bool) : ∀ k, (placesTo q k).length ≤ k
  | 0 => Nat.le_refl _
  | k + 1 => by
    have := placesTo_len q k
    unfold placesTo
    split <;> simp <;> omega
theorem placesTo_yes {q : Nat → Bool} {k : Nat} (h : q k = true) : placesTo q (k + 1) = placesTo q k ++ [(k : Int)] := by
  show placesTo q k ++ (if q k = true then [(k : Int)] else []) = _
  rw [if_pos h]
theorem placesTo_no {q : Nat → Bool} {k : Nat} (h : q k = false) : placesTo q (k + 1) = placesTo q k := by
  show placesTo q k ++ (if q k = true then [(k : Int)] else []) = _
  rw [if_neg (by rw [h]; decide), List.append_nil]
theorem I64_app (a b : List Int) : I64 (a ++ b) = I64 a ++ I64 b := by unfold I64; exact List.map_append
end Go.Proofs.YtlelgpknkgjaeaaGreatDoor

/- 'FindPattern' of the program and of the reference: where a pattern begins on a circular track. -/
namespace Go.Proofs.YtlelgpknkgjaeaaGreatDoor
open Go.ChangeShapes Go.WideShapes Go.ChangeAt Go.RowKit
set_option linter.unusedSimpArgs false
set_option linter.unusedVariables false
set_option maxRecDepth 4000

theorem Tryz.infoI64f : (Tryz.prog.info? 2).map (fun i => (i.zero, i.size, i.bytes)) = some (some (.int .i64 0), 1, 8) := by kernel_rfl
def fitsB (s p : ByteArray) (k : Nat) : Bool := decide (sliceL s.data.toList k p.size = p.data.toList)
theorem byteAt_get {s : ByteArray} {k : Nat} (h : k < s.size) : s.data.toList[k]? = some (byteAt s k) := by
  unfold byteAt
  rw [List.getD_eq_getElem?_getD, List.getElem?_eq_getElem (by rw [len_data]; exact h)]
  rfl
theorem sliceL_get {s : ByteArray} {a n i : Nat} (h : i < n) : (sliceL s.data.toList a n)[i]? = some (byteAt s ((a + i) % s.size)) := by
  unfold sliceL byteAt
  rw [List.getElem?_map, List.getElem?_range h, len_data]
  rfl
theorem fits_no {s p : ByteArray} {a k : Nat} (hk : k < p.size) (h : byteAt s ((a + k) % s.size) ≠ byteAt p k) : fitsB s p a = false := by
  refine decide_eq_false fun e => h ?_
  have h1 := sliceL_get (s := s) (a := a) hk
  rw [e, byteAt_get hk] at h1
  exact (Option.some.inj h1).symm
theorem fits_yes {s p : ByteArray} {a : Nat} (h : ∀ k, k < p.size → byteAt s ((a + k) % s.size) = byteAt p k) : fitsB s p a = true := by
  refine decide_eq_true (List.ext_getElem? fun k => ?_)
  by_cases hk : k < p.size
  · rw [sliceL_get hk, byteAt_get hk, h k hk]
  · rw [List.getElem?_eq_none (by rw [sliceL_len]; omega), List.getElem?_eq_none (by rw [len_data]; omega)]
theorem twice_list {L : List UInt8} {i p : Nat} (hi : i < L.length) (hp : p ≤ L.length) : ((L ++ L).drop i).take p = sliceL L i p := by
  by_cases h : i + p ≤ L.length
  · rw [← sliceL_one h, List.drop_append_of_le_length (by omega), List.take_append_of_le_length (by rw [List.length_drop]; omega)]
  · rw [← sliceL_two hi hp (by omega), List.drop_append_of_le_length (by omega), List.take_append, List.take_of_length_le (by rw [List.length_drop]; omega), List.length_drop]
    congr 2
    omega
theorem fits_twice {s p : ByteArray} {i : Nat} (hi : i < s.size) (hp : p.size ≤ s.size) : Lib.hasPrefix ((s ++ s).extract i (s ++ s).size).data.toList p.data.toList = fitsB s p i := by
  have hE : ((s ++ s).extract i (s ++ s).size).data.toList = (s.data.toList ++ s.data.toList).drop i := by
    rw [extract_list, ByteArray.data_append, Array.toList_append, List.take_of_length_le]
    rw [List.length_drop, List.length_append, len_data, ByteArray.size_append]
    omega
  have hT := twice_list (L := s.data.toList) (i := i) (p := p.size) (by rw [len_data]; exact hi) (by rw [len_data]; exact hp)
  rw [hE]
  unfold Lib.hasPrefix fitsB
  rw [← hT]
  rw [Bool.eq_iff_iff, List.isPrefixOf_iff_prefix, List.prefix_iff_eq_take, len_data, decide_eq_true_eq]
  exact eq_comm
theorem byte_cases (c d : UInt8) : (c = d) ∨ (((c.toNat : Int) != (d.toNat : Int)) = true ∧ c ≠ d) := by
  by_cases h : c = d
  · exact .inl h
  · exact .inr ⟨bne_iff_ne.2 fun e => h (UInt8.toNat_inj.1 (by omega)), h⟩
set_option maxHeartbeats 1000000 in
theorem spec_l07Fits (s p : ByteArray) (a : Nat) (w : World) (h0 : 0 < s.size) (hs : s.size ≤ 1048576) (hp : p.size ≤ 1048576) (ha : a ≤ 1048576) :
    Calls Tryz.prog 65 #[.string s, .string p, .int .i64 a] w fun e w' => e = .returned (.bool (fitsB s p a)) ∧ Below w.heap.size w w' := by
  go_enter Tryz.func65, Tryz.ntmps65
  go_wp2_with fail
  go_loopg [7] p.size (fun m i wr => ∃ k : Nat, k + m = p.size ∧ i = .int .i64 k ∧ Hid (∀ j, j < k → byteAt s ((a + j) % s.size) = byteAt p j) ∧ Hid (Below w.heap.size w wr))
  case atStart => exact ⟨0, by omega, rfl, fun j hj => by omega, Below.refl _ _⟩
  case round =>
    obtain ⟨k, hkm, rfl, HA, HB⟩ := hrel
    have HK := Hid.in_ hkm
    clear hkm
    by_cases hlt : k < p.size
    · have HC := Hid.in_ (fun w => spec_l07At s (a + k) w h0 hs (by omega))
      have HP := Hid.in_ (byteAt_eq hlt)
      have HNO := Hid.in_ (fits_no (s := s) (p := p) (a := a) hlt)
      have HYES := Hid.in_ (show byteAt s ((a + k) % s.size) = byteAt p k → ∀ j, j < k + 1 → byteAt s ((a + j) % s.size) = byteAt p j from fun e j hj => by
        rcases Nat.lt_or_ge j k with h | h
        · exact HA.out j h
        · obtain rfl : j = k := by omega
          exact e)
      obtain ⟨d, hd⟩ : ∃ d : UInt8, p[k] = d := ⟨_, rfl⟩
      have HD := Hid.in_ (HP.out.trans hd)
      obtain ⟨c, hc⟩ : ∃ c, byteAt s ((a + k) % s.size) = c := ⟨_, rfl⟩
      rw [hc] at HC HNO HYES
      rw [HD.out] at HNO HYES
      clear hc
      obtain rfl | ⟨h1, h2⟩ := byte_cases c d
      · go_wp2_with fail
        go_quiet ((go_at_call 95; first | exact quiet_left (show Calls Tryz.prog 95 #[.string s, .int .i64 ((a : Int) + (k : Int))] _ _ from HC.out _) | exact quiet_add_left (show Calls Tryz.prog 95 #[.string s, .int .i64 ((a : Int) + (k : Int))] _ _ from HC.out _)))
        go_wp2
        have hk := HK.out
        go_roundg (gk - 1)
        case measure => omega
        case rel => exact ⟨k + 1, by omega, by go_num, by first | exact HYES.out rfl | exact HYES.out trivial, below_drewN HB.out _⟩
      · have HN := Hid.in_ (HNO.out h2)
        go_wp2_with fail
        go_quiet ((go_at_call 95; first | exact quiet_left (show Calls Tryz.prog 95 #[.string s, .int .i64 ((a : Int) + (k : Int))] _ _ from HC.out _) | exact quiet_add_left (show Calls Tryz.prog 95 #[.string s, .int .i64 ((a : Int) + (k : Int))] _ _ from HC.out _)))
        go_wp2
        go_ret
        exact ⟨ret_bool HN.out.symm, below_drewN HB.out _⟩
    · have hk := HK.out
      obtain rfl : k = p.size := by omega
      have HY := Hid.in_ (fits_yes HA.out)
      go_wp2
      go_ret
      exact ⟨ret_bool HY.out.symm, HB.out⟩
def findOk (s p : ByteArray) : Bool := validCells s && (validCells p && decide (p.size ≤ s.size))
def findV (s p : ByteArray) : List Int := if findOk s p = true then placesTo (fitsB s p) s.size else []
theorem findV_len (s p : ByteArray) : (findV s p).length ≤ 8000 := by
  unfold findV
  split
  · rename_i h
    unfold findOk at h
    rw [Bool.and_eq_true] at h
    have := placesTo_len (fitsB s p) s.size
    have := (valid_size h.1).2.1
    omega
  · exact Nat.zero_le _
theorem find_cases (s p : ByteArray) :
    (validCells s = false ∧ Hid (findV s p = [])) ∨ (validCells s = true ∧ validCells p = false ∧ Hid (findV s p = [])) ∨ (validCells s = true ∧ validCells p = true ∧ s.size < p.size ∧ Hid (findV s p = [])) ∨
    (validCells s = true ∧ validCells p = true ∧ p.size ≤ s.size ∧ Hid (findV s p = placesTo (fitsB s p) s.size)) := by
  unfold Hid findV findOk
  cases validCells s
  · exact .inl ⟨rfl, rfl⟩
  cases validCells p
  · exact .inr (.inl ⟨rfl, rfl, rfl⟩)
  by_cases h : p.size ≤ s.size
  · exact .inr (.inr (.inr ⟨rfl, rfl, h, by rw [decide_eq_true h]; rfl⟩))
  · exact .inr (.inr (.inl ⟨rfl, rfl, by omega, by rw [decide_eq_false h]; rfl⟩))
set_option maxHeartbeats 1000000 in
theorem spec_l07Find (s p : ByteArray) (w : World) (h0 : 0 < s.size) (hs : s.size ≤ 1048576) (hp : p.size ≤ 1048576) :
    Calls Tryz.prog 63 #[.string s, .string p] w fun e w' => ∃ v, e = .returned v ∧ w'.ownsRow w.heap.size 2 1 v (placesTo (fitsB s p) s.size).length (I64 (placesTo (fitsB s p) s.size)) ∧ Below w.heap.size w w' := by
  obtain ⟨i0, hti, hz0, hz1, hz2⟩ := info_parts Tryz.infoI64f
  go_enter Tryz.func63, Tryz.ntmps63
  go_wp2_with fail
  go_loopg [5, 6] s.size (fun m v i wr => ∃ k : Nat, k + m = s.size ∧ i = .int .i64 k ∧ Hid (wr.ownsRow w.heap.size 2 1 v (placesTo (fitsB s p) k).length (I64 (placesTo (fitsB s p) k))) ∧ Hid (Below w.heap.size w wr))
  case atStart => exact ⟨0, by omega, rfl, World.ownsRow_lit w #[] 0 (Nat.le_refl _) (by decide) (by decide), balloc (Below.refl _ _) _⟩
  case round =>
    obtain ⟨k, hkm, rfl, HI, HB⟩ := hrel
    have HK := Hid.in_ hkm
    clear hkm
    by_cases hlt : k < s.size
    · have HL := Hid.in_ (placesTo_len (fitsB s p) k)
      go_wp2_with fail
      refine (spec_l07Fits s p k _ h0 hs hp (by omega)).mono ?_
      rintro e w2 ⟨rfl, hb2⟩
      have HO2 := Hid.in_ (own_below HI.out hb2 (Nat.le_refl _))
      have HB2 := Hid.in_ (HB.out.trans (hb2.mono HB.out.size))
      clear hb2 HI
      cases hq : fitsB s p k
      · have HN := Hid.in_ (placesTo_no hq)
        go_wp2
        have hk := HK.out
        go_roundg (gk - 1)
        case measure => omega
        case rel => exact ⟨k + 1, by omega, by go_num, by rw [HN.out]; exact HO2.out, HB2.out⟩
      · have HN := Hid.in_ (placesTo_yes hq)
        go_wp2_with (at_builtin; refine wpList_append_own _ rfl _ _ 54 rfl w.heap.size 2 i0 (.int .i64 0) 1 8 Tryz.underlying54 hti hz0 hz1 hz2 rfl (by decide) _ _ _ rfl (HO2.out.alloc _) ⟨w2.heap.size, 0, none⟩ 1 1 [.int .i64 k] rfl rfl (cell_one_new _ _ _) (fun x hx => by simp at hx; subst hx; rfl) (by have := HL.out; unfold maxLen; omega) (by have := HL.out; omega) (balloc HB2.out _).size ?_; intro v4 w4 ho4 hg4 _)
        have HB4 := Hid.in_ (bgrown (balloc HB2.out _) (HO2.out.alloc _) (Nat.le_refl _) hg4)
        have hk := HK.out
        go_roundg (gk - 1)
        case measure => omega
        case rel => exact ⟨k + 1, by omega, by go_num, by rw [HN.out, List.length_append, I64_app]; exact ho4, HB4.out⟩
    · have hk := HK.out
      obtain rfl : k = s.size := by omega
      go_wp2
      go_ret
      exact ⟨_, rfl, HI.out, HB.out⟩
set_option maxHeartbeats 1000000 in
theorem impl_findPattern (s p : ByteArray) (w : World) (hs : s.size ≤ 1048576) (hp : p.size ≤ s.size) :
    Calls Tryz.prog 59 #[.string s, .string p] w fun e w' => ∃ v, e = .returned v ∧ w'.ownsRow w.heap.size 2 1 v (placesTo (fitsB s p) s.size).length (I64 (placesTo (fitsB s p) s.size)) ∧ Below w.heap.size w w' := by
  obtain ⟨i0, hti, hz0, hz1, hz2⟩ := info_parts Tryz.infoI64f
  have hno : ¬ (s.size + s.size > 9223372036854775807) := by omega
  have hss : (s ++ s).size = s.size + s.size := ByteArray.size_append
  have HT := Hid.in_ (fun i (hi : i < s.size) => fits_twice (s := s) (p := p) hi hp)
  obtain ⟨t, ht⟩ : ∃ t, s ++ s = t := ⟨_, rfl⟩
  rw [ht] at HT hss
  rw [hss] at HT
  go_enter Tryz.func59, Tryz.ntmps59
  go_wp2_with fail
  try rw [ht]
  rw [show decide (s.size < p.size) = false from decide_eq_false (by omega)]
  clear ht
  go_loopg [6, 18] s.size (fun m v i wr => ∃ k : Nat, k + m = s.size ∧ i = .int .i64 k ∧ Hid (wr.ownsRow w.heap.size 2 1 v (placesTo (fitsB s p) k).length (I64 (placesTo (fitsB s p) k))) ∧ Hid (Below w.heap.size w wr))
  case atStart => exact ⟨0, by omega, rfl, World.ownsRow_nil _ _ _ _, Below.refl _ _⟩
  case round =>
    obtain ⟨k, hkm, rfl, HI, HB⟩ := hrel
    have HK := Hid.in_ hkm
    clear hkm
    by_cases hlt : k < s.size
    · have HL := Hid.in_ (placesTo_len (fitsB s p) k)
      have HTK := Hid.in_ (HT.out k hlt)
      go_wp2_with fail
      refine (Any.strings_HasPrefix Tryz.lays99 _ _ _).mono ?_
      rintro e w2 ⟨rfl, rfl⟩
      rw [HTK.out]
      cases hq : fitsB s p k
      · have HN := Hid.in_ (placesTo_no hq)
        go_wp2
        have hk := HK.out
        go_roundg (gk - 1)
        case measure => omega
        case rel => exact ⟨k + 1, by omega, by go_num, by rw [HN.out]; exact HI.out, HB.out⟩
      · have HN := Hid.in_ (placesTo_yes hq)
        go_wp2_with (at_builtin; refine wpList_append_own _ rfl _ _ 54 rfl w.heap.size 2 i0 (.int .i64 0) 1 8 Tryz.underlying54 hti hz0 hz1 hz2 rfl (by decide) _ _ _ rfl (HI.out.alloc _) ⟨w2.heap.size, 0, none⟩ 1 1 [.int .i64 k] rfl rfl (cell_one_new _ _ _) (fun x hx => by simp at hx; subst hx; rfl) (by have := HL.out; unfold maxLen; omega) (by have := HL.out; omega) (balloc HB.out _).size ?_; intro v4 w4 ho4 hg4 _)
        have HB4 := Hid.in_ (bgrown (balloc HB.out _) (HI.out.alloc _) (Nat.le_refl _) hg4)
        have hk := HK.out
        go_roundg (gk - 1)
        case measure => omega
        case rel => exact ⟨k + 1, by omega, by go_num, by rw [HN.out, List.length_append, I64_app]; exact ho4, HB4.out⟩
    · have hk := HK.out
      obtain rfl : k = s.size := by omega
      go_wp2
      go_ret
      exact ⟨_, rfl, HI.out, HB.out⟩
theorem impl_findPattern_long (s p : ByteArray) (w : World) (hs : s.size ≤ 1048576) (hp : s.size < p.size) (hp2 : p.size ≤ 1048576) :
    Calls Tryz.prog 59 #[.string s, .string p] w fun e w' => e = .returned (.slice none 0 0) ∧ Below w.heap.size w w' := by
  go_enter Tryz.func59, Tryz.ntmps59
  go_wp2
  go_ret
  exact ⟨rfl, Below.refl _ _⟩
set_option maxHeartbeats 1000000 in
theorem impl_FindPattern (s p : ByteArray) (w : World) (hs : s.size ≤ 1048576) (hp : p.size ≤ 1048576) :
    Calls Tryz.prog 32 #[.string s, .string p] w fun e w' => ∃ v, e = .returned v ∧ w'.ownsRow w.heap.size 2 1 v (findV s p).length (I64 (findV s p)) ∧ Below w.heap.size w w' := by
  have HC1 := Hid.in_ (impl_ValidCells s w (by omega))
  have HC2 := Hid.in_ (fun w => impl_ValidCells p w (by omega))
  obtain ⟨h1, HV⟩ | ⟨h1, h2, HV⟩ | ⟨h1, h2, h3, HV⟩ | ⟨h1, h2, h3, HV⟩ := find_cases s p
  all_goals rw [h1] at HC1
  · go_enter Tryz.func32, Tryz.ntmps32
    go_wp2_with fail
    refine HC1.out.mono ?_
    rintro e w1 ⟨rfl, hb1⟩
    go_wp2
    go_ret
    rw [HV.out]
    exact ⟨_, rfl, World.ownsRow_nil _ _ _ _, hb1⟩
  · rw [h2] at HC2
    go_enter Tryz.func32, Tryz.ntmps32
    go_wp2_with fail
    refine HC1.out.mono ?_
    rintro e w1 ⟨rfl, hb1⟩
    go_wp2_with fail
    refine (HC2.out _).mono ?_
    rintro e w2 ⟨rfl, hb2⟩
    have hb := bstep hb1 hb2
    go_wp2
    go_ret
    rw [HV.out]
    exact ⟨_, rfl, World.ownsRow_nil _ _ _ _, hb⟩
  · rw [h2] at HC2
    go_enter Tryz.func32, Tryz.ntmps32
    go_wp2_with fail
    refine HC1.out.mono ?_
    rintro e w1 ⟨rfl, hb1⟩
    go_wp2_with fail
    refine (HC2.out _).mono ?_
    rintro e w2 ⟨rfl, hb2⟩
    have hb := bstep hb1 hb2
    go_wp2_with fail
    refine (impl_findPattern_long s p _ hs h3 hp).mono ?_
    rintro e w3 ⟨rfl, hb3⟩
    have hb := bstep hb hb3
    go_wp2
    go_ret
    rw [HV.out]
    exact ⟨_, rfl, World.ownsRow_nil _ _ _ _, hb⟩
  · rw [h2] at HC2
    go_enter Tryz.func32, Tryz.ntmps32
    go_wp2_with fail
    refine HC1.out.mono ?_
    rintro e w1 ⟨rfl, hb1⟩
    go_wp2_with fail
    refine (HC2.out _).mono ?_
    rintro e w2 ⟨rfl, hb2⟩
    have hb := bstep hb1 hb2
    go_wp2_with fail
    refine (impl_findPattern s p _ hs h3).mono ?_
    rintro e w3 ⟨v3, rfl, ho3, hb3⟩
    have ho := own_base ho3 hb.size
    have hb := bstep hb hb3
    go_wp2
    go_ret
    rw [HV.out]
    exact ⟨_, rfl, ho, hb⟩
end Go.Proofs.YtlelgpknkgjaeaaGreatDoor

/- The marks of a track, plain law: lists with different places, put in order, are one list. No program in sight but for the imports. -/
namespace Go.Proofs.YtlelgpknkgjaeaaGreatDoor
set_option linter.unusedSimpArgs false
set_option linter.unusedVariables false
set_option maxRecDepth 4000

def putM : List MarkR → MarkR → List MarkR
  | [], m => [m]
  | x :: l, m => if x.a < m.a then x :: putM l m else m :: x :: l
def insM (l : List MarkR) : List MarkR := l.foldl putM []
theorem putM_perm : ∀ (l : List MarkR) (m : MarkR), (putM l m).Perm (m :: l)
  | [], m => .refl _
  | x :: l, m => by
    unfold putM
    split
    · exact ((putM_perm l m).cons x).trans (.swap m x l)
    · exact .refl _
theorem insM_perm_aux : ∀ (l acc : List MarkR), (l.foldl putM acc).Perm (l ++ acc)
  | [], acc => .refl _
  | m :: l, acc => by
    show (l.foldl putM (putM acc m)).Perm _
    refine (insM_perm_aux l (putM acc m)).trans ?_
    refine ((putM_perm acc m).append_left l).trans ?_
    exact List.perm_middle
theorem insM_perm (l : List MarkR) : (insM l).Perm l := by
  have := insM_perm_aux l []
  rw [List.append_nil] at this
  exact this
theorem putM_sorted : ∀ (l : List MarkR) (m : MarkR), l.Pairwise (fun x y => x.a ≤ y.a) → (putM l m).Pairwise (fun x y => x.a ≤ y.a)
  | [], m, _ => by simp [putM]
  | x :: l, m, h => by
    obtain ⟨h1, h2⟩ := List.pairwise_cons.1 h
    unfold putM
    split
    · rename_i hlt
      refine List.pairwise_cons.2 ⟨fun y hy => ?_, putM_sorted l m h2⟩
      rcases List.mem_cons.1 ((putM_perm l m).mem_iff.1 hy) with rfl | hy
      · omega
      · exact h1 y hy
    · rename_i hge
      refine List.pairwise_cons.2 ⟨fun y hy => ?_, h⟩
      rcases List.mem_cons.1 hy with rfl | hy
      · omega
      · have := h1 y hy; omega
theorem insM_sorted_aux : ∀ (l acc : List MarkR), acc.Pairwise (fun x y => x.a ≤ y.a) → (l.foldl putM acc).Pairwise (fun x y => x.a ≤ y.a)
  | [], acc, h => h
  | m :: l, acc, h => insM_sorted_aux l (putM acc m) (putM_sorted acc m h)
theorem insM_sorted (l : List MarkR) : (insM l).Pairwise (fun x y => x.a ≤ y.a) := insM_sorted_aux l [] .nil
theorem sorted_eq : ∀ (m l : List MarkR), l.Perm m → l.Pairwise (fun x y => x.a ≤ y.a) → m.Pairwise (fun x y => x.a < y.a) → l = m
  | [], l, h, _, _ => h.eq_nil
  | x :: m, [], h, _, _ => h.symm.eq_nil.symm
  | x :: m, y :: l, h, hl, hm => by
    obtain ⟨l1, l2⟩ := List.pairwise_cons.1 hl
    obtain ⟨m1, m2⟩ := List.pairwise_cons.1 hm
    have hxy : y = x := by
      rcases List.mem_cons.1 (h.mem_iff.1 (List.mem_cons_self)) with e | hy
      · exact e
      · rcases List.mem_cons.1 (h.mem_iff.2 (List.mem_cons_self)) with e | hx
        · exact e.symm
        · have a := m1 y hy
          have b := l1 x hx
          omega
    subst hxy
    rw [sorted_eq m l h.cons_inv l2 m2]
theorem strict_of {l : List MarkR} (h : l.Pairwise (fun x y => x.a ≤ y.a)) (hd : l.Pairwise (fun x y => x.a ≠ y.a)) : l.Pairwise (fun x y => x.a < y.a) := by
  refine (h.and hd).imp ?_
  rintro x y ⟨a, b⟩
  omega
theorem insM_eq {l d : List MarkR} (hp : d.Perm l) (hs : d.Pairwise (fun x y => x.a ≤ y.a)) (hd : l.Pairwise (fun x y => x.a ≠ y.a)) : d = insM l := by
  have hd2 : (insM l).Pairwise (fun x y => x.a ≠ y.a) := ((insM_perm l).pairwise_iff (fun h => Ne.symm h)).2 hd
  exact sorted_eq _ _ (hp.trans (insM_perm l).symm) hs (strict_of (insM_sorted l) hd2)
theorem insM_len (l : List MarkR) : (insM l).length = l.length := (insM_perm l).length_eq

/- FM, MFM -/
def patM (f k : Int) : ByteArray := markCS f (markByte f k).toNat
def mkAt (n : Nat) (p : ByteArray) (k a : Int) : MarkR := ⟨k, a, (a + p.size) % n⟩
def kindTo (s p : ByteArray) (k : Int) (j : Nat) : List MarkR := ((placesTo (fitsB s p) s.size).take j).map (mkAt s.size p k)
def kindL (s p : ByteArray) (k : Int) : List MarkR := if p.size ≤ s.size then (placesTo (fitsB s p) s.size).map (mkAt s.size p k) else []
theorem kindTo_all {s p : ByteArray} {k : Int} {j : Nat} (h : p.size ≤ s.size) (hj : (placesTo (fitsB s p) s.size).length ≤ j) : kindTo s p k j = kindL s p k := by
  unfold kindTo kindL; rw [if_pos h, List.take_of_length_le hj]
theorem kindL_long {s p : ByteArray} {k : Int} (h : s.size < p.size) : kindL s p k = [] := if_neg (by omega)
theorem kindTo_succ {s p : ByteArray} {k : Int} {j : Nat} {x : Int} (h : (placesTo (fitsB s p) s.size)[j]? = some x) : kindTo s p k (j + 1) = kindTo s p k j ++ [mkAt s.size p k x] := by
  unfold kindTo; rw [List.take_add_one, h, List.map_append]; rfl
def rawM (s : ByteArray) (f : Int) : List MarkR := kindL s (patM f 1) 1 ++ kindL s (patM f 2) 2 ++ kindL s (patM f 3) 3
theorem placesTo_mem {q : Nat → Bool} : ∀ {k : Nat} {x : Int}, x ∈ placesTo q k → ∃ j : Nat, x = j ∧ j < k ∧ q j = true
  | 0, x, h => by cases h
  | k + 1, x, h => by
    rcases List.mem_append.1 h with h | h
    · obtain ⟨j, a, b, c⟩ := placesTo_mem h
      exact ⟨j, a, by omega, c⟩
    · by_cases hq : q k = true
      · rw [if_pos hq, List.mem_singleton] at h
        exact ⟨k, h, by omega, hq⟩
      · rw [if_neg hq] at h; cases h
theorem placesTo_pair (q : Nat → Bool) : ∀ k : Nat, (placesTo q k).Pairwise (fun x y => x < y)
  | 0 => .nil
  | k + 1 => by
    refine List.pairwise_append.2 ⟨placesTo_pair q k, ?_, fun x hx y hy => ?_⟩
    · split
      · exact List.pairwise_singleton _ _
      · exact .nil
    · obtain ⟨j, rfl, hj, _⟩ := placesTo_mem hx
      by_cases hq : q k = true
      · rw [if_pos hq, List.mem_singleton] at hy; omega
      · rw [if_neg hq] at hy; cases hy
theorem kindL_mem {s p : ByteArray} {k : Int} {m : MarkR} (h : m ∈ kindL s p k) : ∃ j : Nat, m = mkAt s.size p k j ∧ j < s.size ∧ fitsB s p j = true := by
  unfold kindL at h
  split at h
  · obtain ⟨x, hx, rfl⟩ := List.mem_map.1 h
    obtain ⟨j, rfl, a, b⟩ := placesTo_mem hx
    exact ⟨j, rfl, a, b⟩
  · cases h
theorem kindL_pair (s p : ByteArray) (k : Int) : (kindL s p k).Pairwise (fun x y => x.a < y.a) := by
  unfold kindL
  split
  · refine List.pairwise_map.2 ((placesTo_pair _ _).imp ?_)
    intro x y h; exact h
  · exact .nil
theorem fits_one {s p q : ByteArray} {j : Nat} (hp : fitsB s p j = true) (hq : fitsB s q j = true) (hs : p.size = q.size) : p.data.toList = q.data.toList := by
  have a := of_decide_eq_true hp
  have b := of_decide_eq_true hq
  rw [← a, ← b, hs]
theorem kinds_apart {s p q : ByteArray} {i k : Int} (hs : p.size = q.size) (hne : p.data.toList ≠ q.data.toList) : ∀ x ∈ kindL s p i, ∀ y ∈ kindL s q k, x.a ≠ y.a := by
  intro x hx y hy e
  obtain ⟨j, rfl, _, a⟩ := kindL_mem hx
  obtain ⟨l, rfl, _, b⟩ := kindL_mem hy
  have : (j : Int) = l := e
  obtain rfl : j = l := by omega
  exact hne (fits_one a b hs)
def patFacts (f : Int) : Bool := let a := patM f 1; let b := patM f 2; let c := patM f 3
  decide (a.size = b.size) && decide (b.size = c.size) && decide (a.size ≤ 64) && !(a.data.toList == b.data.toList) && !(a.data.toList == c.data.toList) && !(b.data.toList == c.data.toList)
theorem patFacts_all : patFacts 1 = true ∧ patFacts 2 = true ∧ patFacts 3 = true := by decide +kernel
theorem pat_facts {f : Int} (h : inB f 1 3 = true) : (patM f 1).size = (patM f 2).size ∧ (patM f 2).size = (patM f 3).size ∧ (patM f 1).size ≤ 64 ∧ (patM f 1).data.toList ≠ (patM f 2).data.toList ∧ (patM f 1).data.toList ≠ (patM f 3).data.toList ∧ (patM f 2).data.toList ≠ (patM f 3).data.toList := by
  have hf : patFacts f = true := by
    have : f = 1 ∨ f = 2 ∨ f = 3 := by
      have := inB_t h
      omega
    rcases this with rfl | rfl | rfl
    · exact patFacts_all.1
    · exact patFacts_all.2.1
    · exact patFacts_all.2.2
  unfold patFacts at hf
  simp only [Bool.and_eq_true, decide_eq_true_eq, Bool.not_eq_true', beq_eq_false_iff_ne, ne_eq] at hf
  obtain ⟨⟨⟨⟨⟨a, b⟩, c⟩, d⟩, e⟩, g⟩ := hf
  exact ⟨a, b, c, d, e, g⟩
theorem rawM_apart {s : ByteArray} {f : Int} (h : inB f 1 3 = true) : (rawM s f).Pairwise (fun x y => x.a ≠ y.a) := by
  obtain ⟨h12, h23, _, n12, n13, n23⟩ := pat_facts h
  have P := fun p k => (kindL_pair s p k).imp (S := fun x y => x.a ≠ y.a) (fun hh => by omega)
  unfold rawM
  refine List.pairwise_append.2 ⟨List.pairwise_append.2 ⟨P _ _, P _ _, kinds_apart h12 n12⟩, P _ _, ?_⟩
  intro x hx y hy
  rcases List.mem_append.1 hx with hx | hx
  · exact kinds_apart (h12.trans h23) n13 x hx y hy
  · exact kinds_apart h23 n23 x hx y hy
theorem rawM_len (s : ByteArray) (f : Int) : (rawM s f).length ≤ s.size * 3 := by
  have h : ∀ p k, (kindL s p k).length ≤ s.size := by
    intro p k; unfold kindL; split
    · rw [List.length_map]; exact placesTo_len _ _
    · exact Nat.zero_le _
  unfold rawM
  rw [List.length_append, List.length_append]
  have := h (patM f 1) 1; have := h (patM f 2) 2; have := h (patM f 3) 3
  omega

/- the group code -/
def codeG (k : Int) : ByteArray := encode (oneB (9 - k).toNat)
def endG (r : RunR) : Nat := (r.a + r.c).toNat
def hitG (s : ByteArray) (r : RunR) (k : Int) : Bool := fitsB s (codeG k) (endG r)
def gcrOne (s : ByteArray) (r : RunR) (k : Int) : List MarkR := if hitG s r k = true then [⟨k, r.a, ((endG r : Nat) + 10) % s.size⟩] else []
def gcrAt (s : ByteArray) (r : RunR) : List MarkR := gcrOne s r 1 ++ gcrOne s r 2 ++ gcrOne s r 3
def gcrI (s : ByteArray) : List MarkR := (syncV s).flatMap (gcrAt s)
def gcrK (s : ByteArray) (k : Int) : List MarkR := (syncTo s s.size).flatMap (fun r => gcrOne s r k)
def gcrM (s : ByteArray) : List MarkR := gcrK s 1 ++ gcrK s 2 ++ gcrK s 3
def codeFacts : Bool := decide ((codeG 1).size = 10) && decide ((codeG 2).size = 10) && decide ((codeG 3).size = 10) && !((codeG 1).data.toList == (codeG 2).data.toList) && !((codeG 1).data.toList == (codeG 3).data.toList) && !((codeG 2).data.toList == (codeG 3).data.toList) && (codeG 1).data.toList.contains 48 && (codeG 2).data.toList.contains 48 && (codeG 3).data.toList.contains 48
theorem codeFacts_all : codeFacts = true := by decide +kernel
theorem code_facts : (∀ k : Int, (k = 1 ∨ k = 2 ∨ k = 3) → (codeG k).size = 10 ∧ 48 ∈ (codeG k).data.toList) ∧ (codeG 1).data.toList ≠ (codeG 2).data.toList ∧ (codeG 1).data.toList ≠ (codeG 3).data.toList ∧ (codeG 2).data.toList ≠ (codeG 3).data.toList := by
  have hf := codeFacts_all
  unfold codeFacts at hf
  simp only [Bool.and_eq_true, decide_eq_true_eq, Bool.not_eq_true', beq_eq_false_iff_ne, ne_eq, List.contains_iff_mem] at hf
  obtain ⟨⟨⟨⟨⟨⟨⟨⟨a, b⟩, c⟩, d⟩, e⟩, g⟩, x⟩, y⟩, z⟩ := hf
  refine ⟨?_, d, e, g⟩
  rintro k (rfl | rfl | rfl)
  · exact ⟨a, x⟩
  · exact ⟨b, y⟩
  · exact ⟨c, z⟩
theorem ones_no_hit {s : ByteArray} {r : RunR} {k : Int} (ho : allOnes s = true) (h0 : 0 < s.size) (hk : k = 1 ∨ k = 2 ∨ k = 3) : hitG s r k = false := by
  obtain ⟨hs, hm⟩ := code_facts.1 k hk
  refine decide_eq_false fun e => ?_
  obtain ⟨i, hi, hx⟩ := List.getElem_of_mem hm
  have hi' : i < (codeG k).size := by rw [← Array.size_eq_length_toList] at hi; exact hi
  have h1 := sliceL_get (s := s) (a := endG r) (n := (codeG k).size) hi'
  rw [e, List.getElem?_eq_getElem hi, hx, ones_at ho (Nat.mod_lt _ h0)] at h1
  cases h1
theorem gcrOne_no {s : ByteArray} {r : RunR} {k : Int} (h : hitG s r k = false) : gcrOne s r k = [] := by unfold gcrOne; rw [if_neg (by rw [h]; decide)]
theorem gcrOne_yes {s : ByteArray} {r : RunR} {k : Int} (h : hitG s r k = true) : gcrOne s r k = [⟨k, r.a, ((endG r : Nat) + 10) % s.size⟩] := if_pos h
theorem gcr_apart {s : ByteArray} {r : RunR} {i k : Int} (hi : i = 1 ∨ i = 2 ∨ i = 3) (hk : k = 1 ∨ k = 2 ∨ k = 3) (hne : (codeG i).data.toList ≠ (codeG k).data.toList) (h : hitG s r i = true) : hitG s r k = false := by
  cases h2 : hitG s r k
  · rfl
  · exact absurd (fits_one h h2 ((code_facts.1 i hi).1.trans (code_facts.1 k hk).1.symm)) hne
theorem gcrAt_len (s : ByteArray) (r : RunR) : gcrAt s r = [] ∨ ∃ m : MarkR, gcrAt s r = [m] ∧ m.a = r.a := by
  have n := code_facts.2
  unfold gcrAt
  cases h1 : hitG s r 1
  · rw [gcrOne_no h1]
    cases h2 : hitG s r 2
    · rw [gcrOne_no h2]
      cases h3 : hitG s r 3
      · rw [gcrOne_no h3]; exact .inl rfl
      · rw [gcrOne_yes h3]; exact .inr ⟨_, rfl, rfl⟩
    · rw [gcrOne_yes h2, gcrOne_no (gcr_apart (.inr (.inl rfl)) (.inr (.inr rfl)) n.2.2 h2)]; exact .inr ⟨_, rfl, rfl⟩
  · rw [gcrOne_yes h1, gcrOne_no (gcr_apart (.inl rfl) (.inr (.inl rfl)) n.1 h1), gcrOne_no (gcr_apart (.inl rfl) (.inr (.inr rfl)) n.2.1 h1)]; exact .inr ⟨_, rfl, rfl⟩
theorem gcr_flat_pair (s : ByteArray) : ∀ L : List RunR, L.Pairwise (fun x y => x.a < y.a) → (L.flatMap (gcrAt s)).Pairwise (fun x y => x.a < y.a) ∧ ∀ m ∈ L.flatMap (gcrAt s), ∃ r ∈ L, m.a = r.a
  | [], _ => ⟨.nil, fun m h => by cases h⟩
  | r :: L, h => by
    obtain ⟨h1, h2⟩ := List.pairwise_cons.1 h
    obtain ⟨i1, i2⟩ := gcr_flat_pair s L h2
    rw [List.flatMap_cons]
    rcases gcrAt_len s r with e | ⟨m, e, ha⟩
    · rw [e]
      exact ⟨i1, fun m hm => let ⟨q, hq, hx⟩ := i2 m hm; ⟨q, List.mem_cons_of_mem _ hq, hx⟩⟩
    · rw [e]
      refine ⟨List.pairwise_cons.2 ⟨fun y hy => ?_, i1⟩, fun y hy => ?_⟩
      · obtain ⟨q, hq, hx⟩ := i2 y hy
        rw [ha, hx]; exact h1 q hq
      · rcases List.mem_cons.1 hy with rfl | hy
        · exact ⟨r, List.mem_cons_self, ha⟩
        · obtain ⟨q, hq, hx⟩ := i2 y hy
          exact ⟨q, List.mem_cons_of_mem _ hq, hx⟩
theorem syncTo_mem {s : ByteArray} : ∀ {k : Nat} {r : RunR}, r ∈ syncTo s k → ∃ j : Nat, r = ⟨(j : Int), (cnt s j : Nat)⟩ ∧ j < k ∧ syncAt s j = true
  | 0, r, h => by cases h
  | k + 1, r, h => by
    rcases List.mem_append.1 h with h | h
    · obtain ⟨j, a, b, c⟩ := syncTo_mem h
      exact ⟨j, a, by omega, c⟩
    · by_cases hq : syncAt s k = true
      · rw [if_pos hq, List.mem_singleton] at h
        exact ⟨k, h, by omega, hq⟩
      · rw [if_neg hq] at h; cases h
theorem syncTo_pair (s : ByteArray) : ∀ k : Nat, (syncTo s k).Pairwise (fun x y => x.a < y.a)
  | 0 => .nil
  | k + 1 => by
    refine List.pairwise_append.2 ⟨syncTo_pair s k, ?_, fun x hx y hy => ?_⟩
    · split
      · exact List.pairwise_singleton _ _
      · exact .nil
    · obtain ⟨j, rfl, hj, _⟩ := syncTo_mem hx
      by_cases hq : syncAt s k = true
      · rw [if_pos hq, List.mem_singleton] at hy; subst hy; show (j : Int) < k; omega
      · rw [if_neg hq] at hy; cases hy
theorem perm4 (a A b B : List MarkR) : ((a ++ A) ++ (b ++ B)).Perm ((a ++ b) ++ (A ++ B)) := by
  rw [List.append_assoc, List.append_assoc]
  refine List.Perm.append_left a ?_
  rw [← List.append_assoc, ← List.append_assoc]
  exact (List.perm_append_comm).append_right B
theorem gcr_perm (s : ByteArray) : ∀ L : List RunR, ((L.flatMap (fun r => gcrOne s r 1) ++ L.flatMap (fun r => gcrOne s r 2)) ++ L.flatMap (fun r => gcrOne s r 3)).Perm (L.flatMap (gcrAt s))
  | [] => .refl _
  | r :: L => by
    rw [List.flatMap_cons, List.flatMap_cons, List.flatMap_cons, List.flatMap_cons]
    refine ((perm4 _ _ _ _).append_right _).trans ?_
    refine (perm4 _ _ _ _).trans ?_
    exact (gcr_perm s L).append_left _
theorem gcr_eq {s : ByteArray} (hv : validCells s = true) : gcrI s = insM (gcrM s) := by
  obtain ⟨v1, v2, v3⟩ := valid_size hv
  cases ho : allOnes s
  · have hV : syncV s = syncTo s s.size := by unfold syncV; rw [hv, ho]; rfl
    have hP := (gcr_flat_pair s _ (syncTo_pair s s.size)).1
    have h2 := gcr_perm s (syncTo s s.size)
    have hI : gcrI s = (syncTo s s.size).flatMap (gcrAt s) := by unfold gcrI; rw [hV]
    rw [hI]
    refine insM_eq h2.symm (hP.imp Int.le_of_lt) ?_
    exact (h2.pairwise_iff (fun h => Ne.symm h)).2 (hP.imp Int.ne_of_lt)
  · have hS : gcrM s = [] := by unfold gcrM gcrK; rw [ones_none ho s.size (Nat.le_refl _)]; rfl
    have hI : gcrI s = [] := by
      have hn : ∀ r, gcrAt s r = [] := fun r => by
        unfold gcrAt
        rw [gcrOne_no (ones_no_hit ho v1 (.inl rfl)), gcrOne_no (ones_no_hit ho v1 (.inr (.inl rfl))), gcrOne_no (ones_no_hit ho v1 (.inr (.inr rfl)))]; rfl
      unfold gcrI
      rw [List.flatMap_eq_nil_iff]
      exact fun r _ => hn r
    rw [hS, hI]; rfl
/- both -/
def marksV (s : ByteArray) (f : Int) : List MarkR := insM (if f = 3 then gcrM s else rawM s f)
theorem gcrM_len {s : ByteArray} (hv : validCells s = true) : (gcrM s).length ≤ 8000 := by
  have e : (gcrM s).length = (gcrI s).length := by rw [gcr_eq hv, insM_len]
  have h : ∀ L : List RunR, (L.flatMap (gcrAt s)).length ≤ L.length := by
    intro L
    induction L with
    | nil => exact Nat.le_refl _
    | cons r L ih =>
      rw [List.flatMap_cons, List.length_append, List.length_cons]
      rcases gcrAt_len s r with e | ⟨m, e, _⟩ <;> rw [e] <;> simp only [List.length_nil, List.length_singleton] <;> omega
  rw [e]
  exact Nat.le_trans (h _) (syncV_len s)
theorem marksV_len {s : ByteArray} {f : Int} (hv : validCells s = true) : (marksV s f).length ≤ 24000 := by
  obtain ⟨v1, v2, v3⟩ := valid_size hv
  unfold marksV
  rw [insM_len]
  split
  · have := gcrM_len hv; omega
  · have := rawM_len s f; omega
/- what FindMarks returns -/
def fmOk (s : ByteArray) (f : Int) : Bool := validCells s && inB f 1 3
def fmCode (s : ByteArray) (f : Int) : Int := if fmOk s f = true then (if (marksV s f).length ≤ 64 then 0 else 5) else 1
def fmVal (s : ByteArray) (f : Int) : List MarkR := if fmOk s f = true then (if (marksV s f).length ≤ 64 then marksV s f else []) else []
theorem fm_bad {s : ByteArray} {f : Int} (h : fmOk s f = false) : fmCode s f = 1 ∧ fmVal s f = [] := by
  unfold fmCode fmVal; rw [h]; exact ⟨rfl, rfl⟩
theorem fm_full {s : ByteArray} {f : Int} (h : fmOk s f = true) (h2 : ¬ (marksV s f).length ≤ 64) : fmCode s f = 5 ∧ fmVal s f = [] := by
  unfold fmCode fmVal; rw [if_pos h, if_pos h, if_neg h2, if_neg h2]; exact ⟨rfl, rfl⟩
theorem fm_good {s : ByteArray} {f : Int} (h : fmOk s f = true) (h2 : (marksV s f).length ≤ 64) : fmCode s f = 0 ∧ fmVal s f = marksV s f := by
  unfold fmCode fmVal; rw [if_pos h, if_pos h, if_pos h2, if_pos h2]; exact ⟨rfl, rfl⟩
theorem fmVal_len (s : ByteArray) (f : Int) : (fmVal s f).length ≤ 64 := by
  unfold fmVal
  split
  · split
    · assumption
    · exact Nat.zero_le _
  · exact Nat.zero_le _
end Go.Proofs.YtlelgpknkgjaeaaGreatDoor

/- 'ValidMarks' and 'NextMark' of the program and of the reference. -/
namespace Go.Proofs.YtlelgpknkgjaeaaGreatDoor
open Go.ChangeShapes Go.WideShapes Go.ChangeAt Go.RowKit
set_option linter.unusedSimpArgs false
set_option linter.unusedVariables false

/-- a test at every place below n. -/
def allTo (p : Nat → Bool) : Nat → Bool
  | 0 => true
  | n + 1 => allTo p n && p n
theorem allTo_no {p : Nat → Bool} {k : Nat} (h : p k = false) : ∀ {n : Nat}, k < n → allTo p n = false
  | 0, hk => by omega
  | n + 1, hk => by
    unfold allTo
    rcases Nat.lt_or_ge k n with hlt | hge
    · rw [allTo_no h hlt]; rfl
    · obtain rfl : k = n := by omega
      rw [h, Bool.and_false]
theorem allTo_yes {p : Nat → Bool} {k : Nat} (h : allTo p k = true) (hp : p k = true) : allTo p (k + 1) = true := by unfold allTo; rw [h, hp]; rfl
theorem allTo_at {p : Nat → Bool} {n : Nat} (h : allTo p n = true) : ∀ k, k < n → p k = true := by
  induction n with
  | zero => intro k hk; omega
  | succ n ih =>
    intro k hk
    unfold allTo at h
    rw [Bool.and_eq_true] at h
    rcases Nat.lt_or_ge k n with hlt | hge
    · exact ih h.1 k hlt
    · obtain rfl : k = n := by omega
      exact h.2

def markOk (l : List MarkR) (t : Int) (i : Nat) : Bool :=
  match l[i]? with
  | some m => inB m.k 1 3 && inB m.a 0 (t - 1) && inB m.b 0 (t - 1) && (i == 0 || decide (((l[i - 1]?).map MarkR.a).getD 0 < m.a))
  | none => true
def validMarks (l : List MarkR) (t : Int) : Bool := inB t 1 8000 && (decide (l.length ≤ 64) && allTo (markOk l t) l.length)

theorem markOk_cases {l : List MarkR} {t : Int} {i : Nat} {m : MarkR} (hm : l[i]? = some m) :
    (inB m.k 1 3 = false ∧ Hid (markOk l t i = false)) ∨
    (inB m.k 1 3 = true ∧ inB m.a 0 (t - 1) = false ∧ Hid (markOk l t i = false)) ∨
    (inB m.k 1 3 = true ∧ inB m.a 0 (t - 1) = true ∧ inB m.b 0 (t - 1) = false ∧ Hid (markOk l t i = false)) ∨
    (inB m.k 1 3 = true ∧ inB m.a 0 (t - 1) = true ∧ inB m.b 0 (t - 1) = true ∧ i = 0 ∧ Hid (markOk l t i = true)) ∨
    (inB m.k 1 3 = true ∧ inB m.a 0 (t - 1) = true ∧ inB m.b 0 (t - 1) = true ∧ ∃ j q, i = j + 1 ∧ l[j]? = some q ∧ ((m.a ≤ q.a ∧ Hid (markOk l t i = false)) ∨ (q.a < m.a ∧ Hid (markOk l t i = true)))) := by
  have hv : markOk l t i = (inB m.k 1 3 && inB m.a 0 (t - 1) && inB m.b 0 (t - 1) && (i == 0 || decide (((l[i - 1]?).map MarkR.a).getD 0 < m.a))) := by unfold markOk; rw [hm]
  unfold Hid
  rw [hv]
  cases inB m.k 1 3 <;> cases inB m.a 0 (t - 1) <;> cases inB m.b 0 (t - 1) <;> simp
  rcases i with _ | j
  · exact .inl (by simp)
  · right
    have hj : j < l.length := by have := (List.getElem?_eq_some_iff.1 hm).1; omega
    refine ⟨j, rfl, l[j], List.getElem?_eq_getElem hj, ?_⟩
    simp [List.getElem?_eq_getElem hj]
    omega

set_option maxHeartbeats 2000000 in
theorem impl_ValidMarks {v : Value} {n b : Nat} {l : List MarkR} (t : Int) (w : World) (h : w.ownsRow b 51 3 v n (l.flatMap MarkR.cells)) :
    Calls Tryz.prog 29 #[v, .int .i64 t] w fun e w' => e = .returned (.bool (validMarks l t)) ∧ Below w.heap.size w w' := by
  have hlx : l.length = n := by have := h.1; rw [flat_len MarkR.len] at this; omega
  obtain ⟨A, c, rfl, _, hn, hA⟩ := own_shape h
  have HL := Hid.in_ hlx
  have H1 := Hid.in_ hA
  clear hA h hlx
  cases ht : inB t 1 8000
  · have HV : Hid (validMarks l t = false) := by unfold Hid validMarks; rw [ht]; rfl
    go_enter Tryz.func29, Tryz.ntmps29
    go_wp2_with (go_at_call 56; refine (bool_is (impl_within _ _ _ _) (by assumption)).mono ?_; rintro e w' ⟨rfl, rfl⟩)
    go_ret
    exact ⟨ret_bool HV.out.symm, Below.refl _ _⟩
  · obtain ⟨t1, t2⟩ := inB_t ht
    by_cases h64 : 64 < n
    · have HV : Hid (validMarks l t = false) := by unfold Hid validMarks; rw [ht, HL.out, decide_eq_false (by omega)]; rfl
      have h64' : (64 : Int) < (n : Int) := by omega
      go_enter Tryz.func29, Tryz.ntmps29
      go_wp2_with (go_at_call 56; refine (bool_is (impl_within _ _ _ _) (by assumption)).mono ?_; rintro e w' ⟨rfl, rfl⟩)
      go_ret
      exact ⟨ret_bool HV.out.symm, Below.refl _ _⟩
    · have HV : Hid (validMarks l t = allTo (markOk l t) n) := by unfold Hid validMarks; rw [ht, HL.out, decide_eq_true (by omega)]; simp
      have h64' : (n : Int) ≤ 64 := by omega
      go_enter Tryz.func29, Tryz.ntmps29
      go_wp2_with (go_at_call 56; refine (bool_is (impl_within _ _ _ _) (by assumption)).mono ?_; rintro e w' ⟨rfl, rfl⟩)
      go_loopg [17] n (fun m i wr => ∃ k : Nat, k + m = n ∧ i = .int .i64 k ∧ Hid (allTo (markOk l t) k = true ∧ Below w.heap.size w wr))
      case atStart => exact ⟨0, by omega, rfl, rfl, Below.refl _ _⟩
      case round =>
        obtain ⟨k, hkm, rfl, HB⟩ := hrel
        have HK := Hid.in_ hkm
        clear hkm
        by_cases hlt : k < n
        · obtain ⟨g, rfl, _, hg, hx, _⟩ := H1.out (by omega)
          obtain ⟨m, hm⟩ := get_lt l k (by rw [HL.out]; exact hlt)
          obtain ⟨c0, c1, c2⟩ := boxAt3 ((Box.elem MarkR.len hx hm).step HB.out.2)
          have hgw : g < wr.heap.size := Nat.lt_of_lt_of_le hg HB.out.2.size
          have HX := Hid.in_ hx
          have hcs := markOk_cases (t := t) hm
          clear hx hm
          obtain ⟨h1, HO⟩ | ⟨h1, h2, HO⟩ | ⟨h1, h2, h3, HO⟩ | ⟨h1, h2, h3, rfl, HO⟩ | ⟨h1, h2, h3, j, q, rfl, hq, ⟨h4, HO⟩ | ⟨h4, HO⟩⟩ := hcs
          case' inr.inr.inr.inr.inl | inr.inr.inr.inr.inr =>
            obtain ⟨d0, d1, d2⟩ := boxAt3 ((Box.elem MarkR.len HX.out hq).step HB.out.2)
            clear hq
          all_goals
            go_wp2_with fail
            go_quiet ((first | (go_at_call 57; first | exact quiet_left (bool_is (impl_isMarkKind _ _) (by assumption)) | exact quiet_add_left (bool_is (impl_isMarkKind _ _) (by assumption))) | (go_at_call 56; first | exact quiet_left (bool_is (impl_within _ _ _ _) (by assumption)) | exact quiet_add_left (bool_is (impl_within _ _ _ _) (by assumption)))))
            go_wp2
          all_goals
            first
            | (go_ret; exact ⟨ret_bool (by rw [HV.out, allTo_no HO.out hlt]), below_drewN (balloc HB.out.2 _) _⟩)
            | (have hk := HK.out
               go_roundg (gk - 1)
               case measure => omega
               case rel => exact ⟨_, by omega, by go_num, allTo_yes HB.out.1 HO.out, below_drewN (balloc HB.out.2 _) _⟩)
        · have hk := HK.out
          obtain rfl : k = n := by omega
          go_wp2
          go_ret
          exact ⟨ret_bool (by rw [HV.out, HB.out.1]), HB.out.2⟩

def before (l : List MarkR) (a : Int) (i : Nat) : Bool := match l[i]? with | some m => decide (m.a < a) | none => true
def firstNo (p : Nat → Bool) (n : Nat) : Nat := ((List.range n).find? fun i => !p i).getD 0
theorem firstNo_at {p : Nat → Bool} {n k : Nat} (h : allTo p k = true) (hp : p k = false) (hk : k < n) : firstNo p n = k := by
  unfold firstNo
  have : (List.range n).find? (fun i => !p i) = some k := by
    rw [List.find?_range_eq_some]
    exact ⟨by rw [hp]; rfl, List.mem_range.2 hk, fun j hj => by rw [allTo_at h j hj]; rfl⟩
  rw [this]; rfl
theorem firstNo_none {p : Nat → Bool} {n : Nat} (h : allTo p n = true) : firstNo p n = 0 := by
  unfold firstNo
  have : (List.range n).find? (fun i => !p i) = none := by
    rw [List.find?_eq_none]
    intro x hx
    rw [allTo_at h x (List.mem_range.1 hx)]
    decide
  rw [this]; rfl
def nextOk (l : List MarkR) (a : Int) : Bool := !(l.length == 0) && validMarks l 8000 && inB a 0 7999
def nextIdx (l : List MarkR) (a : Int) : Int := if nextOk l a = true then (firstNo (before l a) l.length : Int) else 0
theorem next_cases (l : List MarkR) (a : Int) :
    (l.length = 0 ∧ Hid (nextOk l a = false ∧ nextIdx l a = 0)) ∨
    (0 < l.length ∧ validMarks l 8000 = false ∧ Hid (nextOk l a = false ∧ nextIdx l a = 0)) ∨
    (0 < l.length ∧ validMarks l 8000 = true ∧ inB a 0 7999 = false ∧ Hid (nextOk l a = false ∧ nextIdx l a = 0)) ∨
    (0 < l.length ∧ validMarks l 8000 = true ∧ inB a 0 7999 = true ∧ Hid (nextOk l a = true ∧ nextIdx l a = (firstNo (before l a) l.length : Int))) := by
  unfold Hid nextIdx nextOk
  rcases Nat.eq_zero_or_pos l.length with h | h
  · left; simp [h]
  · right
    have h0 : (l.length == 0) = false := beq_eq_false_iff_ne.2 (by omega)
    rw [h0]
    cases validMarks l 8000 <;> cases inB a 0 7999 <;> simp [h]
theorem before_cases {l : List MarkR} {a : Int} {i : Nat} {m : MarkR} (hm : l[i]? = some m) : (a ≤ m.a ∧ Hid (before l a i = false)) ∨ (m.a < a ∧ Hid (before l a i = true)) := by
  unfold Hid before
  rw [hm]
  simp
  omega
theorem ret2_ib {k : IntKind} {a b : Int} {c d : Bool} (h : a = b) (h' : c = d) : Ending.returned (.tuple #[.int k a, .bool c]) = .returned (.tuple #[.int k b, .bool d]) := by rw [h, h']
theorem bool_isB {P : Program} {f : FuncId} {args : Array Value} {w : World} {b c : Bool} (h : Calls P f args w fun e w' => e = .returned (.bool b) ∧ Below w.heap.size w w') (hb : b = c) :
    Calls P f args w fun e w' => e = .returned (.bool c) ∧ Below w.heap.size w w' := by subst hb; exact h

end Go.Proofs.YtlelgpknkgjaeaaGreatDoor

/- The marks that are found are marks of the track: in order, within the track. No program in sight but for the imports. -/
namespace Go.Proofs.YtlelgpknkgjaeaaGreatDoor
set_option linter.unusedSimpArgs false
set_option linter.unusedVariables false

theorem gcrM_apart (s : ByteArray) : (gcrM s).Pairwise (fun x y => x.a ≠ y.a) :=
  ((gcr_perm s (syncTo s s.size)).pairwise_iff (fun h => Ne.symm h)).2 ((gcr_flat_pair s _ (syncTo_pair s s.size)).1.imp Int.ne_of_lt)
theorem marksV_strict {s : ByteArray} {f : Int} (hf : inB f 1 3 = true) : (marksV s f).Pairwise (fun x y => x.a < y.a) := by
  have hd : (if f = 3 then gcrM s else rawM s f).Pairwise (fun x y => x.a ≠ y.a) := by
    split
    · exact gcrM_apart s
    · exact rawM_apart hf
  exact strict_of (insM_sorted _) (((insM_perm _).pairwise_iff (fun h => Ne.symm h)).2 hd)
theorem gcrK_mem {s : ByteArray} {k : Int} {m : MarkR} (h0 : 0 < s.size) (h : m ∈ gcrK s k) : m.k = k ∧ 0 ≤ m.a ∧ m.a < s.size ∧ 0 ≤ m.b ∧ m.b < s.size := by
  unfold gcrK at h
  obtain ⟨r, hr, hm⟩ := List.mem_flatMap.1 h
  obtain ⟨j, rfl, hj, _⟩ := syncTo_mem hr
  unfold gcrOne at hm
  split at hm
  · rw [List.mem_singleton] at hm
    subst hm
    exact ⟨rfl, by show (0 : Int) ≤ (j : Int); omega, by show (j : Int) < _; omega, Int.emod_nonneg _ (by omega), Int.emod_lt_of_pos _ (by omega)⟩
  · cases hm
theorem kindL_mem2 {s p : ByteArray} {k : Int} {m : MarkR} (h0 : 0 < s.size) (h : m ∈ kindL s p k) : m.k = k ∧ 0 ≤ m.a ∧ m.a < s.size ∧ 0 ≤ m.b ∧ m.b < s.size := by
  obtain ⟨j, rfl, hj, _⟩ := kindL_mem h
  exact ⟨rfl, by show (0 : Int) ≤ (j : Int); omega, by show (j : Int) < _; omega, Int.emod_nonneg _ (by omega), Int.emod_lt_of_pos _ (by omega)⟩
theorem marksV_mem {s : ByteArray} {f : Int} {m : MarkR} (h0 : 0 < s.size) (h : m ∈ marksV s f) : 1 ≤ m.k ∧ m.k ≤ 3 ∧ 0 ≤ m.a ∧ m.a < s.size ∧ 0 ≤ m.b ∧ m.b < s.size := by
  unfold marksV at h
  have h := (insM_perm _).mem_iff.1 h
  have key : ∃ k : Int, 1 ≤ k ∧ k ≤ 3 ∧ (m.k = k ∧ 0 ≤ m.a ∧ m.a < s.size ∧ 0 ≤ m.b ∧ m.b < s.size) := by
    split at h
    · unfold gcrM at h
      rcases List.mem_append.1 h with h | h
      · rcases List.mem_append.1 h with h | h
        · exact ⟨1, by omega, by omega, gcrK_mem h0 h⟩
        · exact ⟨2, by omega, by omega, gcrK_mem h0 h⟩
      · exact ⟨3, by omega, by omega, gcrK_mem h0 h⟩
    · unfold rawM at h
      rcases List.mem_append.1 h with h | h
      · rcases List.mem_append.1 h with h | h
        · exact ⟨1, by omega, by omega, kindL_mem2 h0 h⟩
        · exact ⟨2, by omega, by omega, kindL_mem2 h0 h⟩
      · exact ⟨3, by omega, by omega, kindL_mem2 h0 h⟩
  obtain ⟨k, h1, h2, rfl, h3⟩ := key
  exact ⟨h1, h2, h3⟩
theorem allTo_of {p : Nat → Bool} : ∀ {n : Nat}, (∀ k, k < n → p k = true) → allTo p n = true
  | 0, _ => rfl
  | n + 1, h => allTo_yes (allTo_of (fun k hk => h k (by omega))) (h n (by omega))
theorem marks_valid {s : ByteArray} {f : Int} (hv : validCells s = true) (hf : inB f 1 3 = true) (hl : (marksV s f).length ≤ 64) : validMarks (marksV s f) s.size = true := by
  obtain ⟨v1, v2, v3⟩ := valid_size hv
  unfold validMarks
  rw [inB_mk (by omega) (by omega), Bool.true_and, decide_eq_true hl, Bool.true_and]
  refine allTo_of fun i hi => ?_
  obtain ⟨m, hm⟩ : ∃ m, (marksV s f)[i]? = some m := ⟨_, List.getElem?_eq_getElem hi⟩
  obtain ⟨a1, a2, a3, a4, a5, a6⟩ := marksV_mem v1 (List.mem_of_getElem? hm)
  unfold markOk
  rw [hm]
  show (inB m.k 1 3 && inB m.a 0 ((s.size : Int) - 1) && inB m.b 0 ((s.size : Int) - 1) && _) = true
  rw [inB_mk a1 a2, inB_mk a3 (by omega), inB_mk a5 (by omega)]
  cases i with
  | zero => rfl
  | succ j =>
    have hj : j < (marksV s f).length := by omega
    have hp := List.pairwise_iff_getElem.1 (marksV_strict (s := s) hf) j (j + 1) hj hi (by omega)
    have e1 : (marksV s f)[j]? = some (marksV s f)[j] := List.getElem?_eq_getElem hj
    have e2 : (marksV s f)[j + 1] = m := by
      have := List.getElem?_eq_getElem hi
      rw [hm] at this
      injection this with this
      exact this.symm
    rw [e2] at hp
    show (true && true && true && (j + 1 == 0 || decide (((marksV s f)[j + 1 - 1]?.map MarkR.a).getD 0 < m.a))) = true
    rw [show j + 1 - 1 = j by omega, e1]
    show (true && true && true && (j + 1 == 0 || decide ((marksV s f)[j].a < m.a))) = true
    rw [decide_eq_true hp]
    simp
end Go.Proofs.YtlelgpknkgjaeaaGreatDoor

/- The marks of a track that begins at another cell: plain laws for 'FnMarks'. No program in sight but for the imports. -/
namespace Go.Proofs.YtlelgpknkgjaeaaGreatDoor
set_option linter.unusedSimpArgs false
set_option linter.unusedVariables false

/-- t is the track s that begins at the cell k. -/
structure Turn (s t : ByteArray) (n k : Nat) : Prop where
  ss : s.size = n
  ts : t.size = n
  kn : k < n
  at_ : ∀ j, j < n → byteAt t j = byteAt s ((k + j) % n)
theorem Turn.any {s t : ByteArray} {n k : Nat} (h : Turn s t n k) (j : Nat) : byteAt t (j % n) = byteAt s ((k + j) % n) := by
  rw [h.at_ _ (Nat.mod_lt _ (by have := h.kn; omega)), Nat.add_mod_mod]
theorem fits_modM (s p : ByteArray) (e : Nat) : fitsB s p (e % s.size) = fitsB s p e := by
  have h : sliceL s.data.toList (e % s.size) p.size = sliceL s.data.toList e p.size := by
    apply List.ext_getElem?
    intro i
    by_cases hi : i < p.size
    · rw [sliceL_get hi, sliceL_get hi, Nat.mod_add_mod]
    · rw [List.getElem?_eq_none (by rw [sliceL_len]; omega), List.getElem?_eq_none (by rw [sliceL_len]; omega)]
  unfold fitsB
  rw [h]
theorem Turn.fits {s t : ByteArray} {n k : Nat} (h : Turn s t n k) (p : ByteArray) (j : Nat) : fitsB t p j = fitsB s p (k + j) := by
  have e : sliceL t.data.toList j p.size = sliceL s.data.toList (k + j) p.size := by
    apply List.ext_getElem?
    intro i
    by_cases hi : i < p.size
    · rw [sliceL_get hi, sliceL_get hi, h.ts, h.ss, h.any, Nat.add_assoc]
    · rw [List.getElem?_eq_none (by rw [sliceL_len]; omega), List.getElem?_eq_none (by rw [sliceL_len]; omega)]
  unfold fitsB
  rw [e]
theorem Turn.one {s t : ByteArray} {n k : Nat} (h : Turn s t n k) (j c : Nat) : oneAt t j c = oneAt s ((k + j) % n) c := by
  unfold oneAt
  rw [h.ts, h.ss, h.any, Nat.mod_add_mod, Nat.add_assoc]
theorem Turn.cntE {s t : ByteArray} {n k : Nat} (h : Turn s t n k) (j : Nat) : cnt t j = cnt s ((k + j) % n) := by
  unfold cnt
  rw [h.ts, h.ss, show oneAt t j = oneAt s ((k + j) % n) from funext (h.one j)]
theorem Turn.start {s t : ByteArray} {n k : Nat} (h : Turn s t n k) {j : Nat} (hj : j < n) : startAt t j = startAt s ((k + j) % n) := by
  have hn : 0 < n := by omega
  unfold startAt
  rw [h.ts, h.ss, h.at_ j hj, h.any, show k + (j + n - 1) = k + j + (n - 1) by omega, show (k + j) % n + n - 1 = (k + j) % n + (n - 1) by omega, Nat.mod_add_mod]
theorem Turn.sync {s t : ByteArray} {n k : Nat} (h : Turn s t n k) {j : Nat} (hj : j < n) : syncAt t j = syncAt s ((k + j) % n) := by
  unfold syncAt
  rw [h.start hj, h.cntE]
theorem Turn.back {s t : ByteArray} {n k : Nat} (h : Turn s t n k) : Turn t s n ((n - k) % n) := by
  have hn : 0 < n := by have := h.kn; omega
  refine ⟨h.ts, h.ss, Nat.mod_lt _ hn, fun j hj => ?_⟩
  rw [Nat.mod_add_mod, h.any]
  have : (k + (n - k + j)) % n = j := by
    rw [show k + (n - k + j) = j + n by have := h.kn; omega, Nat.add_mod_right, Nat.mod_eq_of_lt hj]
  rw [this]
theorem placesTo_in {q : Nat → Bool} {j : Nat} (h : q j = true) : ∀ {k : Nat}, j < k → (j : Int) ∈ placesTo q k
  | 0, hk => by omega
  | k + 1, hk => by
    show (j : Int) ∈ placesTo q k ++ (if q k = true then [(k : Int)] else [])
    rcases Nat.lt_or_ge j k with hlt | hge
    · exact List.mem_append.2 (.inl (placesTo_in h hlt))
    · obtain rfl : j = k := by omega
      rw [if_pos h]
      exact List.mem_append.2 (.inr (List.mem_singleton.2 rfl))
theorem syncTo_in {s : ByteArray} {j : Nat} (h : syncAt s j = true) : ∀ {k : Nat}, j < k → (⟨(j : Int), (cnt s j : Nat)⟩ : RunR) ∈ syncTo s k
  | 0, hk => by omega
  | k + 1, hk => by
    show _ ∈ syncTo s k ++ (if syncAt s k = true then [⟨(k : Int), (cnt s k : Nat)⟩] else [])
    rcases Nat.lt_or_ge j k with hlt | hge
    · exact List.mem_append.2 (.inl (syncTo_in h hlt))
    · obtain rfl : j = k := by omega
      rw [if_pos h]
      exact List.mem_append.2 (.inr (List.mem_singleton.2 rfl))

def turnM (n k : Nat) (m : MarkR) : MarkR := ⟨m.k, (m.a - k + n) % n, (m.b - k + n) % n⟩
def bk (n k j : Nat) : Nat := (j + (n - k)) % n
theorem bk_lt {n k : Nat} (h : k < n) (j : Nat) : bk n k j < n := Nat.mod_lt _ (by omega)
theorem bk_back {n k j : Nat} (h : k < n) (hj : j < n) : (k + bk n k j) % n = j := by
  unfold bk
  rw [Nat.add_mod_mod, show k + (j + (n - k)) = j + n by omega, Nat.add_mod_right, Nat.mod_eq_of_lt hj]
theorem bk_add {n k j c : Nat} (h : k < n) : (k + (bk n k j + c)) % n = (j + c) % n := by
  unfold bk
  rw [show k + ((j + (n - k)) % n + c) = (j + (n - k)) % n + (k + c) by omega, Nat.mod_add_mod, show j + (n - k) + (k + c) = j + c + n by omega, Nat.add_mod_right]
theorem turn_a {n k j : Nat} (h : k < n) : ((j : Int) - k + n) % n = (bk n k j : Nat) := by
  unfold bk
  rw [show (j : Int) - k + n = ((j + (n - k) : Nat) : Int) by omega]
  rfl
theorem turn_b {n k j c : Nat} (h : k < n) : ((((j + c : Nat) : Int) % n) - k + n) % n = ((bk n k j + c : Nat) : Int) % n := by
  unfold bk
  rw [show (((j + c : Nat) : Int) % n) - k + n = (((j + c) % n + (n - k) : Nat) : Int) by have e := Int.natCast_emod (j + c) n; rw [← e]; omega, ← Int.natCast_emod, ← Int.natCast_emod, Nat.mod_add_mod, Nat.mod_add_mod, show j + c + (n - k) = j + (n - k) + c by omega]
theorem Turn.kind {s t : ByteArray} {n k : Nat} (h : Turn s t n k) {p : ByteArray} {i : Int} {m : MarkR} (hm : m ∈ kindL s p i) : turnM n k m ∈ kindL t p i := by
  obtain ⟨j, rfl, hj, hf⟩ := kindL_mem hm
  rw [h.ss] at hj
  by_cases hp : p.size ≤ s.size
  · unfold kindL
    rw [if_pos (by rw [h.ts, ← h.ss]; exact hp)]
    have hf2 : fitsB t p (bk n k j) = true := by
      rw [h.fits, ← fits_modM, h.ss, bk_back h.kn hj]; exact hf
    refine List.mem_map.2 ⟨((bk n k j : Nat) : Int), placesTo_in hf2 (by rw [h.ts]; exact bk_lt h.kn j), ?_⟩
    unfold mkAt turnM
    rw [h.ts, h.ss]
    show (⟨i, _, _⟩ : MarkR) = ⟨i, ((j : Int) - k + n) % n, (((j : Int) + p.size) % n - k + n) % n⟩
    rw [turn_a h.kn, show (j : Int) + p.size = ((j + p.size : Nat) : Int) by omega, turn_b h.kn]
    rw [Int.natCast_add]
  · rw [kindL_long (by omega)] at hm
    cases hm
theorem Turn.gcr {s t : ByteArray} {n k : Nat} (h : Turn s t n k) {i : Int} {m : MarkR} (hm : m ∈ gcrK s i) : turnM n k m ∈ gcrK t i := by
  unfold gcrK at hm
  obtain ⟨r, hr, hg⟩ := List.mem_flatMap.1 hm
  obtain ⟨j, rfl, hj, hsy⟩ := syncTo_mem hr
  rw [h.ss] at hj
  cases hh : hitG s ⟨(j : Int), (cnt s j : Nat)⟩ i
  · rw [gcrOne_no hh] at hg; cases hg
  · rw [gcrOne_yes hh, List.mem_singleton] at hg
    subst hg
    have hb := bk_back h.kn hj
    have hc : cnt t (bk n k j) = cnt s j := by rw [h.cntE, hb]
    have hs : syncAt t (bk n k j) = true := by rw [h.sync (bk_lt h.kn j), hb]; exact hsy
    have e1 : endG ⟨(j : Int), (cnt s j : Nat)⟩ = j + cnt s j := by unfold endG; show ((j : Int) + (cnt s j : Nat)).toNat = _; omega
    have e2 : endG ⟨((bk n k j : Nat) : Int), (cnt t (bk n k j) : Nat)⟩ = bk n k j + cnt s j := by unfold endG; show (((bk n k j : Nat) : Int) + (cnt t (bk n k j) : Nat)).toNat = _; rw [hc]; omega
    have hit : hitG t ⟨((bk n k j : Nat) : Int), (cnt t (bk n k j) : Nat)⟩ i = true := by
      unfold hitG at hh ⊢
      rw [e1] at hh
      rw [e2, h.fits, ← fits_modM, h.ss, bk_add h.kn]
      rw [← fits_modM, h.ss] at hh
      exact hh
    unfold gcrK
    refine List.mem_flatMap.2 ⟨_, syncTo_in hs (by rw [h.ts]; exact bk_lt h.kn j), ?_⟩
    rw [gcrOne_yes hit, List.mem_singleton]
    unfold turnM
    rw [e1, e2, h.ts, h.ss]
    show (⟨i, ((j : Int) - k + n) % n, ((((j + cnt s j : Nat) : Int) + 10) % n - k + n) % n⟩ : MarkR) = ⟨i, _, _⟩
    rw [turn_a h.kn, show ((j + cnt s j : Nat) : Int) + 10 = ((j + (cnt s j + 10) : Nat) : Int) by omega, turn_b h.kn, show ((bk n k j + (cnt s j + 10) : Nat) : Int) = ((bk n k j + cnt s j : Nat) : Int) + 10 by omega]
theorem Turn.mark {s t : ByteArray} {n k : Nat} (h : Turn s t n k) {f : Int} {m : MarkR} (hm : m ∈ marksV s f) : turnM n k m ∈ marksV t f := by
  unfold marksV at hm ⊢
  have hm := (insM_perm _).mem_iff.1 hm
  refine (insM_perm _).mem_iff.2 ?_
  split at hm
  · rename_i h3
    rw [if_pos h3]
    unfold gcrM at hm ⊢
    rcases List.mem_append.1 hm with hm | hm
    · rcases List.mem_append.1 hm with hm | hm
      · exact List.mem_append.2 (.inl (List.mem_append.2 (.inl (h.gcr hm))))
      · exact List.mem_append.2 (.inl (List.mem_append.2 (.inr (h.gcr hm))))
    · exact List.mem_append.2 (.inr (h.gcr hm))
  · rename_i h3
    rw [if_neg h3]
    unfold rawM at hm ⊢
    rcases List.mem_append.1 hm with hm | hm
    · rcases List.mem_append.1 hm with hm | hm
      · exact List.mem_append.2 (.inl (List.mem_append.2 (.inl (h.kind hm))))
      · exact List.mem_append.2 (.inl (List.mem_append.2 (.inr (h.kind hm))))
    · exact List.mem_append.2 (.inr (h.kind hm))

theorem apart_len : ∀ (L m : List MarkR), L.Pairwise (fun x y => x.a ≠ y.a) → (∀ x ∈ L, x ∈ m) → L.length ≤ m.length
  | [], m, _, _ => Nat.zero_le _
  | x :: L, m, h, hs => by
    obtain ⟨h1, h2⟩ := List.pairwise_cons.1 h
    obtain ⟨u, v, rfl⟩ := List.append_of_mem (hs x List.mem_cons_self)
    have := apart_len L (u ++ v) h2 (fun y hy => by
      have hne : y ≠ x := fun e => h1 y hy (by rw [e])
      rcases List.mem_append.1 (hs y (List.mem_cons_of_mem _ hy)) with a | a
      · exact List.mem_append.2 (.inl a)
      · rcases List.mem_cons.1 a with a | a
        · exact absurd a hne
        · exact List.mem_append.2 (.inr a))
    simp only [List.length_append, List.length_cons] at this ⊢
    omega
theorem Turn.len_le {s t : ByteArray} {n k : Nat} (h : Turn s t n k) {f : Int} (hf : inB f 1 3 = true) : (marksV s f).length ≤ (marksV t f).length := by
  have hn : 0 < s.size := by have := h.kn; rw [h.ss]; omega
  have hp : ((marksV s f).map (turnM n k)).Pairwise (fun x y => x.a ≠ y.a) := by
    refine List.pairwise_map.2 (List.Pairwise.imp_of_mem ?_ (marksV_strict (s := s) hf))
    intro x y hx hy hlt e
    obtain ⟨_, _, x1, x2, _⟩ := marksV_mem hn hx
    obtain ⟨_, _, y1, y2, _⟩ := marksV_mem hn hy
    rw [h.ss] at x2 y2
    obtain ⟨i, hi⟩ := Int.eq_ofNat_of_zero_le x1
    obtain ⟨j, hj⟩ := Int.eq_ofNat_of_zero_le y1
    unfold turnM at e
    simp only at e
    rw [hi, hj] at e
    rw [turn_a h.kn, turn_a h.kn] at e
    have e2 : bk n k i = bk n k j := by omega
    have hi2 : i < n := by omega
    have hj2 : j < n := by omega
    have := bk_back h.kn hi2
    rw [e2, bk_back h.kn hj2] at this
    omega
  have := apart_len _ (marksV t f) hp (fun x hx => by
    obtain ⟨m, hm, rfl⟩ := List.mem_map.1 hx
    exact h.mark hm)
  rwa [List.length_map] at this
theorem Turn.len {s t : ByteArray} {n k : Nat} (h : Turn s t n k) {f : Int} (hf : inB f 1 3 = true) : (marksV s f).length = (marksV t f).length :=
  Nat.le_antisymm (h.len_le hf) (h.back.len_le hf)
end Go.Proofs.YtlelgpknkgjaeaaGreatDoor

/- 'slices.SortFunc' over marks, by their places: what the row holds behind it. -/
namespace Go.Proofs.YtlelgpknkgjaeaaGreatDoor
open Go.ChangeShapes Go.WideShapes Go.ChangeAt Go.RowKit Go.Shelf
open Go.Sort (SWO PermIn SortedIn putCells mapBlock onCells)
set_option linter.unusedSimpArgs false
set_option linter.unusedVariables false
set_option maxRecDepth 4000

theorem flatK_list {α : Type} [Inhabited α] {f : α → List Value} {k : Nat} (hk : ∀ x, (f x).length = k) (k0 : 0 < k) (d : Array α) : (Go.Sort.flatK f k d).toList = d.toList.flatMap f := by
  apply List.ext_getElem?
  intro t
  have hl : (Go.Sort.flatK f k d).toList.length = d.size * k := by rw [Array.length_toList, Go.Sort.size_flatK]
  have hr : (d.toList.flatMap f).length = d.size * k := by rw [flat_len hk, Array.length_toList]
  by_cases ht : t < d.size * k
  · have hi : t / k < d.size := Nat.div_lt_of_lt_mul (by rwa [Nat.mul_comm])
    have hj : t % k < k := Nat.mod_lt _ k0
    have hx : d.toList[t / k]? = some d[t / k]! := by
      rw [List.getElem?_eq_getElem (by rw [Array.length_toList]; exact hi), getElem!_pos d (t / k) hi]; rfl
    have h1 : (d.toList.flatMap f)[t]? = (f d[t / k]!)[t % k]? := by
      have := flat_get hk d.toList (t / k) (t % k) _ hx hj
      rwa [Nat.div_add_mod'] at this
    have h2 : (Go.Sort.flatK f k d).toList[t]? = some (Go.Sort.flatK f k d)[t]! := by
      have hs : t < (Go.Sort.flatK f k d).size := by rw [Go.Sort.size_flatK]; exact ht
      rw [List.getElem?_eq_getElem (by rw [hl]; exact ht), getElem!_pos _ t hs]; rfl
    rw [h1, h2, Go.Sort.get_flatK _ _ _ _ ht, getElem!_pos (f d[t / k]!) (t % k) (by rw [hk]; exact hj), List.getElem?_eq_getElem (by rw [hk]; exact hj)]
  · rw [List.getElem?_eq_none (by omega), List.getElem?_eq_none (by omega)]

theorem put_take {F cur : Array Value} (h : F.size ≤ cur.size) : (putCells id 0 F cur).toList.take F.size = F.toList := by
  apply List.ext_getElem?
  intro t
  by_cases ht : t < F.size
  · rw [List.getElem?_take, if_pos ht, Array.getElem?_toList, Array.getElem?_toList]
    unfold putCells
    rw [Array.getElem?_mapIdx, Array.getElem?_eq_getElem (by omega)]
    simp [ht]
  · rw [List.getElem?_eq_none (by rw [List.length_take]; omega), List.getElem?_eq_none (by rw [Array.length_toList]; omega)]
theorem own_sorted {α : Type} [Inhabited α] {f : α → List Value} {k : Nat} (hk : ∀ x, (f x).length = k) (k0 : 0 < k) {w : World} {b g n cap : Nat} {e : TypeId} {d d' : List α} (h : w.ownsRow b e k (.slice (some ⟨g, 0, none⟩) n cap) n (d.flatMap f)) (hl : d'.length = d.length) (m : Nat) (os : Array Obj) :
    (sortWorldK f k w g 0 m d'.toArray os).ownsRow b e k (.slice (some ⟨g, 0, none⟩) n cap) n (d'.flatMap f) ∧ Below b w (sortWorldK f k w g 0 m d'.toArray os) := by
  have h1 := h.1
  rw [flat_len hk] at h1
  rcases h.2 with ⟨e1, _⟩ | ⟨g1, cap1, cur, e1, hb, hg, hnc, hcm, hcs, _⟩
  · cases e1
  · injection e1 with e1 e2 e3
    injection e1 with e1
    injection e1 with e1
    subst e1 e3
    have hF : (Go.Sort.flatK f k d'.toArray).size = n * k := by rw [Go.Sort.size_flatK, List.size_toArray, hl, h1]
    have hgl : g < w.heap.size := (Array.getElem?_eq_some_iff.1 hg).1
    have hle : n * k ≤ cur.size := by rw [hcs]; exact Nat.mul_le_mul_right k hnc
    have hs : (w.heap.modify g (onCells (putCells id 0 (Go.Sort.flatK f k d'.toArray)))).size = w.heap.size := Array.size_modify
    have hw : (sortWorldK f k w g 0 m d'.toArray os).heap = (w.heap.modify g (onCells (putCells id 0 (Go.Sort.flatK f k d'.toArray)))) ++ os := rfl
    have hat : (sortWorldK f k w g 0 m d'.toArray os).heap[g]? = some (.cells (putCells id 0 (Go.Sort.flatK f k d'.toArray) cur) e (0, 0)) := by
      rw [hw, Array.getElem?_append_left (by rw [hs]; exact hgl), Array.getElem?_modify, if_pos rfl, hg]; rfl
    refine ⟨⟨by rw [flat_len hk, hl, h1], .inr ⟨g, cap, _, rfl, hb, hat, hnc, hcm, ?_, ?_⟩⟩, ⟨rfl, rfl, rfl, ?_, ?_⟩⟩
    · unfold putCells; rw [Array.size_mapIdx]; exact hcs
    · have := put_take (F := Go.Sort.flatK f k d'.toArray) (cur := cur) (by rw [hF]; exact hle)
      rw [hF] at this
      rw [this, flatK_list hk k0]
    · rw [hw, Array.size_append, hs]; omega
    · intro i hi
      rw [hw, Array.getElem?_append_left (by rw [hs]; omega), Array.getElem?_modify, if_neg (by omega)]
theorem holds_own {α : Type} [Inhabited α] {f : α → List Value} {k : Nat} (hk : ∀ x, (f x).length = k) (k0 : 0 < k) {w : World} {b g n cap : Nat} {e : TypeId} {d : List α} (h : w.ownsRow b e k (.slice (some ⟨g, 0, none⟩) n cap) n (d.flatMap f)) : Go.Sort.HoldsK f k w g 0 d.toArray := by
  intro j hj
  rw [Nat.zero_add]
  have hl : (Go.Sort.flatK f k d.toArray).toList[j]? = some (Go.Sort.flatK f k d.toArray)[j]! := by
    rw [List.getElem?_eq_getElem (by rw [Array.length_toList]; exact hj), getElem!_pos _ j hj]; rfl
  rw [flatK_list hk k0] at hl
  refine ⟨?_, h.frozenAt j⟩
  have := h.cells (g := g) rfl j _ hl
  rwa [addr_add, Nat.zero_add] at this

instance : Inhabited MarkR := ⟨⟨0, 0, 0⟩⟩
def cmpM (x y : MarkR) : Int := Lib.compareInt x.a y.a
theorem lt_M (x y : MarkR) : ltOf cmpM x y = decide (x.a < y.a) := by
  unfold ltOf cmpM Lib.compareInt
  by_cases h1 : x.a < y.a
  · simp [h1]
  · by_cases h2 : y.a < x.a <;> simp [h1, h2]
theorem swo_M : SWO (ltOf cmpM) where
  irrefl x := by rw [lt_M]; simp
  trans x y z h1 h2 := by rw [lt_M] at *; simp at *; omega
  ntrans x y z h1 h2 := by rw [lt_M] at *; simp at *; omega

set_option maxHeartbeats 1000000 in
theorem closureM (x y : MarkR) (W : World) : Calls Tryz.prog 69 #[.agg #[.int .i64 x.k, .int .i64 x.a, .int .i64 x.b], .agg #[.int .i64 y.k, .int .i64 y.a, .int .i64 y.b]] W fun e w' => e = .returned (.int .i64 (cmpM x y)) ∧ ∃ q os', w' = Go.Sort.grow (W.drewN q) os' := by
  have hcon := fun W' => AnyG.cmp_Compare_int Tryz.cmpI64 x.a y.a W'
  change ∀ W', Calls Tryz.prog 70 _ _ _ at hcon
  have hC := Hid.in_ hcon
  unfold cmpM
  generalize Lib.compareInt x.a y.a = r at hC ⊢
  clear hcon
  go_enter Tryz.func69, Tryz.ntmps69
  go_wp2_with (go_at_call 70; refine (hC.out _).mono ?_; rintro e w' ⟨rfl, rfl⟩)
  go_ret
  exact ⟨rfl, 0, _, by rw [Go.Sort.alloc_eq_grow, Go.Sort.alloc_eq_grow, Go.Sort.grow_grow]; rfl⟩

theorem sort_marks {b g cap n : Nat} {d : List MarkR} (w : World) (h : w.ownsRow b 51 3 (.slice (some ⟨g, 0, none⟩) n cap) n (d.flatMap MarkR.cells)) (hn : n ≤ 100000) :
    Calls Tryz.prog 68 #[.slice (some ⟨g, 0, none⟩) n cap, .func (.func 69) #[] #[]] w fun e w' => e = .returned (.tuple #[]) ∧ ∃ d' : List MarkR, d'.Perm d ∧ d'.Pairwise (fun x y => x.a ≤ y.a) ∧ w'.ownsRow b 51 3 (.slice (some ⟨g, 0, none⟩) n cap) n (d'.flatMap MarkR.cells) ∧ Below b w w' := by
  have eg : ∀ args w, (callFunc 69 args).run Tryz.prog w = .ok (.enter 69 args) w := enters_of Tryz.func69 (by kernel_rfl) rfl
  have hlx : d.length = n := by have := h.1; rw [flat_len MarkR.len] at this; omega
  have hC : ∀ blk off size w, CmpLays Tryz.prog 69 #[] MarkR.cells 3 cmpM blk off size w := fun _ _ _ _ _ _ _ _ x y => closureM x y _
  have hcon := AnyQ.slices_SortFunc Tryz.sortMk 3 Tryz.isAgg51 Tryz.sizeOf51 MarkR.cells MarkR.len (fun x v hv => by simp [MarkR.cells] at hv; rcases hv with rfl | rfl | rfl <;> rfl) cmpM swo_M 69 #[] g 0 cap d.toArray w eg (hC _ _ _ _) (holds_own MarkR.len (by decide) h) ((h.lt g rfl).2) (by rw [List.size_toArray]; omega)
  change Calls Tryz.prog 68 _ _ _ at hcon
  rw [List.size_toArray, hlx] at hcon
  refine hcon.mono ?_
  rintro e w' ⟨he, d', m, os, hp, hs, rfl⟩
  obtain ⟨p1, _, p3⟩ := hp
  have hsz : d'.size = n := by rw [p1, List.size_toArray, hlx]
  have ex : ∀ a : Array MarkR, a.size = n → (a.extract 0 n).toList = a.toList := fun a ha => by rw [← ha]; simp
  rw [ex d' hsz, ex d.toArray (by rw [List.size_toArray, hlx])] at p3
  obtain ⟨hO, hB⟩ := own_sorted MarkR.len (by decide) h (d' := d'.toList) (by rw [Array.length_toList, hsz, hlx]) m os
  refine ⟨he, d'.toList, p3, ?_, hO, hB⟩
  rw [List.pairwise_iff_getElem]
  intro i j hi hj hij
  rw [Array.length_toList] at hi hj
  have := hs i j (Nat.zero_le _) hij (by rw [← hsz]; exact hj)
  rw [lt_M, getElem!_pos d' i hi, getElem!_pos d' j hj] at this
  have := of_decide_eq_false this
  rw [Array.getElem_toList, Array.getElem_toList]
  omega
theorem sort_none (A : Option Addr) (c : Nat) (fv : Value) (w : World) :
    Calls Tryz.prog 68 #[.slice A 0 c, fv] w fun e w' => e = .returned (.tuple #[]) ∧ w' = w := by
  have h := AnyF.slices_SortFunc_none Tryz.sortMk A c fv w
  change Calls Tryz.prog 68 _ _ _ at h
  exact h
end Go.Proofs.YtlelgpknkgjaeaaGreatDoor

/- 'l07Put' of the reference: a mark is put into its place among the marks. -/
namespace Go.Proofs.YtlelgpknkgjaeaaGreatDoor
open Go.ChangeShapes Go.WideShapes Go.ChangeAt Go.RowKit
set_option linter.unusedSimpArgs false
set_option linter.unusedVariables false
set_option maxRecDepth 4000

theorem putM_stop : ∀ (l : List MarkR) (m : MarkR) (k : Nat), (∀ j x, j < k → l[j]? = some x → x.a < m.a) → (∀ x, l[k]? = some x → ¬ x.a < m.a) → putM l m = l.take k ++ m :: l.drop k
  | [], m, k, _, _ => by simp [putM]
  | x :: l, m, 0, _, h2 => by
    unfold putM
    rw [if_neg (h2 x rfl)]
    rfl
  | x :: l, m, k + 1, h1, h2 => by
    unfold putM
    rw [if_pos (h1 0 x (by omega) rfl), putM_stop l m k (fun j y hj hy => h1 (j + 1) y (by omega) hy) (fun y hy => h2 y hy)]
    rfl
theorem fresh3 {t : TypeId} (w : World) (a0 a1 a2 : Value) : BoxAt (w.alloc (.cells #[a0, a1, a2] t)) w.heap.size 0 [a0, a1, a2] := fun j u hu => by
  rw [Nat.zero_add]
  have h := World.ownsRow_lit (e := t) w #[a0, a1, a2] 1 (base := w.heap.size) (size := 3) (Nat.le_refl _) (by decide) rfl
  have := h.cells (g := w.heap.size) rfl j u hu
  rwa [addr_add, Nat.zero_add] at this
theorem one3 {l : List MarkR} : ∀ u ∈ l.flatMap MarkR.cells, u.oneCell' = true := by
  intro u hu
  obtain ⟨m, _, h⟩ := List.mem_flatMap.1 hu
  simp only [MarkR.cells, List.mem_cons, List.not_mem_nil, or_false] at h
  rcases h with rfl | rfl | rfl <;> rfl

theorem box_take {α : Type} {f : α → List Value} {size : Nat} (hf : ∀ x, (f x).length = size) {w : World} {g k : Nat} {l : List α} (h : Box w g (l.flatMap f)) : ∀ j u, ((l.take k).flatMap f)[j]? = some u → w.cell? ((⟨g, 0, none⟩ : Addr).add j) = some u := fun j u hu => by
  rw [addr_add, Nat.zero_add]
  refine h j u ?_
  have hj := (List.getElem?_eq_some_iff.1 hu).1
  have e : l.flatMap f = (l.take k).flatMap f ++ (l.drop k).flatMap f := by rw [← List.flatMap_append, List.take_append_drop]
  rw [e, List.getElem?_append_left hj]
  exact hu
theorem box_drop {α : Type} {f : α → List Value} {size : Nat} (hf : ∀ x, (f x).length = size) {w : World} {g k : Nat} {l : List α} (hk : k ≤ l.length) (h : Box w g (l.flatMap f)) : ∀ j u, ((l.drop k).flatMap f)[j]? = some u → w.cell? ((⟨g, k * size, none⟩ : Addr).add j) = some u := fun j u hu => by
  rw [addr_add]
  refine h _ u ?_
  have e : l.flatMap f = (l.take k).flatMap f ++ (l.drop k).flatMap f := by rw [← List.flatMap_append, List.take_append_drop]
  have hl : ((l.take k).flatMap f).length = k * size := by rw [flat_len hf, List.length_take, Nat.min_eq_left hk]
  rw [e, List.getElem?_append_right (by omega), hl, show k * size + j - k * size = j by omega]
  exact hu
theorem cells3m {w : World} {g : Nat} {a0 a1 a2 : Value} {t : TypeId} (hg : g = w.heap.size) : ∀ j u, ([a0, a1, a2] : List Value)[j]? = some u → (w.alloc (.cells #[a0, a1, a2] t)).cell? ((⟨g, 0, none⟩ : Addr).add j) = some u := fun j u hu => by
  subst hg
  have := fresh3 (t := t) w a0 a1 a2 j u hu
  rwa [addr_add]

set_option maxHeartbeats 2000000 in
theorem spec_l07Put {n b g cap : Nat} {l : List MarkR} (m : MarkR) (w : World) (h : w.ownsRow b 51 3 (.slice (some ⟨g, 0, none⟩) n cap) n (l.flatMap MarkR.cells)) (hn : n ≤ 100000) :
    Calls Tryz.prog 64 #[.slice (some ⟨g, 0, none⟩) n cap, .agg #[.int .i64 m.k, .int .i64 m.a, .int .i64 m.b]] w fun e w' => ∃ g' cap', e = .returned (.slice (some ⟨g', 0, none⟩) (n + 1 : Nat) cap') ∧ w'.ownsRow w.heap.size 51 3 (.slice (some ⟨g', 0, none⟩) (n + 1 : Nat) cap') (n + 1) ((putM l m).flatMap MarkR.cells) ∧ Below w.heap.size w w' := by
  have hlx : l.length = n := by have := h.1; rw [flat_len MarkR.len] at this; omega
  obtain ⟨i0, hti, hz0, hz1, hz2⟩ := info_parts Tryz.info_Mark
  have HO := Hid.in_ h
  have hcap : n ≤ cap ∧ cap ≤ 9223372036854775807 := by
    rcases h.2 with ⟨e, _⟩ | ⟨g1, cap1, cur, e, _, _, h1, h2, _⟩
    · cases e
    · injection e with _ _ e3
      obtain rfl := e3
      unfold maxLen at h2
      exact ⟨h1, by omega⟩
  have hgw : g < w.heap.size := (h.lt g rfl).2
  have HBX := Hid.in_ (show Box w g (l.flatMap MarkR.cells) from fun j u hu => by
    have := h.cells (g := g) rfl j u hu
    rwa [addr_add, Nat.zero_add] at this)
  have HF := Hid.in_ (fresh3 (t := 51) w (.int .i64 m.k) (.int .i64 m.a) (.int .i64 m.b))
  have HL := Hid.in_ hlx
  obtain ⟨hc1, hc2⟩ := hcap
  clear h hlx
  go_enter Tryz.func64, Tryz.ntmps64
  go_wp2_with fail
  go_loopg [5] n (fun r i wr => ∃ k : Nat, k + r = n ∧ i = .int .i64 k ∧ Hid (∀ j x, j < k → l[j]? = some x → x.a < m.a) ∧ Hid (Below (w.alloc (.cells #[.int .i64 m.k, .int .i64 m.a, .int .i64 m.b] 51)).heap.size (w.alloc (.cells #[.int .i64 m.k, .int .i64 m.a, .int .i64 m.b] 51)) wr))
  case atStart => exact ⟨0, by omega, rfl, fun j x hj => by omega, Below.refl _ _⟩
  case round =>
    obtain ⟨k, hkm, rfl, HP, HB⟩ := hrel
    have HK := Hid.in_ hkm
    clear hkm
    have hkn : k ≤ n := by have := HK.out; omega
    have HBW := Hid.in_ (show Below w.heap.size w wr from (balloc (Below.refl _ _) _).trans (HB.out.mono (by simp)))
    obtain ⟨d0, d1, d2⟩ := boxAt3 (HF.out.step HB.out)
    have hwr : w.heap.size < wr.heap.size := by have := HB.out.size; simp at this; omega
    by_cases hlt : k < n
    · obtain ⟨x, hx⟩ := get_lt l k (by rw [HL.out]; exact hlt)
      obtain ⟨c0, c1, c2⟩ := boxAt3 ((Box.elem MarkR.len HBX.out hx).step HBW.out)
      have hgr : g < wr.heap.size := by omega
      have HX := Hid.in_ hx
      clear hx
      by_cases hxa : x.a < m.a
      · go_wp2_with fail
        go_quiet (fail)
        go_wp2
        have hk := HK.out
        go_roundg (gk - 1)
        case measure => omega
        case rel =>
          refine ⟨k + 1, by omega, by go_num, Hid.in_ (fun j y hj hy => ?_), Hid.in_ (below_drewN HB.out _)⟩
          rcases Nat.lt_or_ge j k with hjk | hjk
          · exact HP.out j y hjk hy
          · obtain rfl : j = k := by omega
            rw [HX.out] at hy
            injection hy with hy
            rw [← hy]; exact hxa
      · have HS := Hid.in_ (putM_stop l m k HP.out (fun y hy => by rw [HX.out] at hy; injection hy with hy; rw [← hy]; exact hxa))
        go_wp2_with fail
        go_quiet (fail)
        obtain ⟨wq, hwq⟩ : ∃ wq : World, wq = wr.drewN nq := ⟨_, rfl⟩
        rw [← hwq]
        have hsz : wq.heap.size = wr.heap.size := by rw [hwq]; rfl
        have HBQ := Hid.in_ (show Below w.heap.size w wq by rw [hwq]; exact below_drewN HBW.out _)
        have HB1 := Hid.in_ (show Below (w.alloc (.cells #[.int .i64 m.k, .int .i64 m.a, .int .i64 m.b] 51)).heap.size (w.alloc (.cells #[.int .i64 m.k, .int .i64 m.a, .int .i64 m.b] 51)) wq by rw [hwq]; exact below_drewN HB.out _)
        rw [← hsz] at hwr
        clear hwq hsz d0 d1 d2
        have X1 : ∀ j u, ((l.take k).flatMap MarkR.cells)[j]? = some u → (wq.alloc (.cells #[] 51)).cell? ((⟨g, 0, none⟩ : Addr).add j) = some u := box_take MarkR.len (HBX.out.step (balloc HBQ.out _))
        have X2 : ((l.take k).flatMap MarkR.cells).length = k * 3 := by rw [flat_len MarkR.len, List.length_take, HL.out, Nat.min_eq_left hkn]
        have X8 : ((l.drop k).flatMap MarkR.cells).length = (n - k) * 3 := by rw [flat_len MarkR.len, List.length_drop, HL.out]
        have X3 := World.ownsRow_lit (e := 51) (base := wq.heap.size) (size := 3) wq #[] 0 (Nat.le_refl _) (by decide) (by decide)
        have X9 := Hid.in_ (show k ≤ l.length by rw [HL.out]; exact hkn)
        have X4 : (k : Int) ≤ n := by omega
        have X5 : (n : Int) ≤ cap := by omega
        have X6 : (0 : Int) ≤ k := by omega
        have X7 : (k : Int) ≤ cap := by omega
        go_wp2_with (at_builtin; first
          | (refine wpList_append_own _ rfl _ _ 22 rfl wq.heap.size 51 i0 (.agg #[.int .i64 0, .int .i64 0, .int .i64 0]) 3 24 Tryz.underlying22 hti hz0 hz1 hz2 rfl (by decide) _ _ _ rfl X3 ⟨g, 0, none⟩ k cap ((l.take k).flatMap MarkR.cells) rfl X2 X1 one3 (by unfold maxLen; omega) (by omega) (balloc (Below.refl _ _) _).size ?_; intro v4 w4 ho4 hg4 _
             have HO4 := Hid.in_ (show w4.ownsRow wq.heap.size 51 3 v4 k ((l.take k).flatMap MarkR.cells) by simpa using ho4)
             have HB4 := Hid.in_ (bgrown (balloc (Below.refl wq.heap.size wq) _) X3 (Nat.le_refl _) hg4)
             clear ho4 hg4
             obtain ⟨d0, d1, d2⟩ := boxAt3 ((HF.out.step HB1.out).step HB4.out))
          | (refine wpList_append_own _ rfl _ _ 22 rfl wq.heap.size 51 i0 (.agg #[.int .i64 0, .int .i64 0, .int .i64 0]) 3 24 Tryz.underlying22 hti hz0 hz1 hz2 rfl (by decide) _ _ _ rfl (HO4.out.alloc _) ⟨w4.heap.size, 0, none⟩ 1 1 [.int .i64 m.k, .int .i64 m.a, .int .i64 m.b] rfl rfl (cells3m rfl) (fun x hx => by simp at hx; rcases hx with rfl | rfl | rfl <;> rfl) (by unfold maxLen; omega) (by omega) (balloc HB4.out _).size ?_; intro v5 w5 ho5 hg5 _
             have HO5 := Hid.in_ ho5
             have HB5 := Hid.in_ (bgrown (balloc HB4.out _) (HO4.out.alloc _) (Nat.le_refl _) hg5)
             clear ho5 hg5)
          | (refine wpList_append_own _ rfl _ _ 22 rfl wq.heap.size 51 i0 (.agg #[.int .i64 0, .int .i64 0, .int .i64 0]) 3 24 Tryz.underlying22 hti hz0 hz1 hz2 rfl (by decide) _ _ _ rfl HO5.out ⟨g, k * 3, none⟩ (n - k) (cap - k) ((l.drop k).flatMap MarkR.cells) rfl X8 (box_drop MarkR.len X9.out ((HBX.out.step HBQ.out).step HB5.out)) one3 (by unfold maxLen; omega) (by omega) HB5.out.size ?_; intro v6 w6 ho6 hg6 _
             have HO6 := Hid.in_ ho6
             have HB6 := Hid.in_ (bgrown HB5.out HO5.out (Nat.le_refl _) hg6)
             clear ho6 hg6))
        go_ret
        have e1 : k + 1 + (n - k) = n + 1 := by omega
        have e2 : (l.take k).flatMap MarkR.cells ++ [.int .i64 m.k, .int .i64 m.a, .int .i64 m.b] ++ (l.drop k).flatMap MarkR.cells = (putM l m).flatMap MarkR.cells := by
          rw [HS.out, List.flatMap_append, List.flatMap_cons, List.append_assoc]
          rfl
        have ho := HO6.out
        rw [e1, e2] at ho
        obtain ⟨A6, c6, rfl, _, _, hA6⟩ := own_shape ho
        obtain ⟨g6, rfl, _⟩ := hA6 (by omega)
        exact ⟨g6, c6, rfl, own_base ho HBQ.out.size, HBQ.out.trans (HB6.out.mono HBQ.out.size)⟩
    · have HS := Hid.in_ (putM_stop l m k HP.out (fun y hy => by
        have := (List.getElem?_eq_some_iff.1 hy).1
        have := HL.out
        omega))
      by_cases hck : k < cap
      · go_wp2_with fail
        go_quiet (fail)
        obtain ⟨wq, hwq⟩ : ∃ wq : World, wq = wr.drewN nq := ⟨_, rfl⟩
        rw [← hwq]
        have hsz : wq.heap.size = wr.heap.size := by rw [hwq]; rfl
        have HBQ := Hid.in_ (show Below w.heap.size w wq by rw [hwq]; exact below_drewN HBW.out _)
        have HB1 := Hid.in_ (show Below (w.alloc (.cells #[.int .i64 m.k, .int .i64 m.a, .int .i64 m.b] 51)).heap.size (w.alloc (.cells #[.int .i64 m.k, .int .i64 m.a, .int .i64 m.b] 51)) wq by rw [hwq]; exact below_drewN HB.out _)
        rw [← hsz] at hwr
        clear hwq hsz d0 d1 d2
        have X1 : ∀ j u, ((l.take k).flatMap MarkR.cells)[j]? = some u → (wq.alloc (.cells #[] 51)).cell? ((⟨g, 0, none⟩ : Addr).add j) = some u := box_take MarkR.len (HBX.out.step (balloc HBQ.out _))
        have X2 : ((l.take k).flatMap MarkR.cells).length = k * 3 := by rw [flat_len MarkR.len, List.length_take, HL.out, Nat.min_eq_left hkn]
        have X8 : ((l.drop k).flatMap MarkR.cells).length = (n - k) * 3 := by rw [flat_len MarkR.len, List.length_drop, HL.out]
        have X3 := World.ownsRow_lit (e := 51) (base := wq.heap.size) (size := 3) wq #[] 0 (Nat.le_refl _) (by decide) (by decide)
        have X9 := Hid.in_ (show k ≤ l.length by rw [HL.out]; exact hkn)
        have X4 : (k : Int) ≤ n := by omega
        have X5 : (n : Int) ≤ cap := by omega
        have X6 : (0 : Int) ≤ k := by omega
        have X7 : (k : Int) ≤ cap := by omega
        go_wp2_with (at_builtin; first
          | (refine wpList_append_own _ rfl _ _ 22 rfl wq.heap.size 51 i0 (.agg #[.int .i64 0, .int .i64 0, .int .i64 0]) 3 24 Tryz.underlying22 hti hz0 hz1 hz2 rfl (by decide) _ _ _ rfl X3 ⟨g, 0, none⟩ k cap ((l.take k).flatMap MarkR.cells) rfl X2 X1 one3 (by unfold maxLen; omega) (by omega) (balloc (Below.refl _ _) _).size ?_; intro v4 w4 ho4 hg4 _
             have HO4 := Hid.in_ (show w4.ownsRow wq.heap.size 51 3 v4 k ((l.take k).flatMap MarkR.cells) by simpa using ho4)
             have HB4 := Hid.in_ (bgrown (balloc (Below.refl wq.heap.size wq) _) X3 (Nat.le_refl _) hg4)
             clear ho4 hg4
             obtain ⟨d0, d1, d2⟩ := boxAt3 ((HF.out.step HB1.out).step HB4.out))
          | (refine wpList_append_own _ rfl _ _ 22 rfl wq.heap.size 51 i0 (.agg #[.int .i64 0, .int .i64 0, .int .i64 0]) 3 24 Tryz.underlying22 hti hz0 hz1 hz2 rfl (by decide) _ _ _ rfl (HO4.out.alloc _) ⟨w4.heap.size, 0, none⟩ 1 1 [.int .i64 m.k, .int .i64 m.a, .int .i64 m.b] rfl rfl (cells3m rfl) (fun x hx => by simp at hx; rcases hx with rfl | rfl | rfl <;> rfl) (by unfold maxLen; omega) (by omega) (balloc HB4.out _).size ?_; intro v5 w5 ho5 hg5 _
             have HO5 := Hid.in_ ho5
             have HB5 := Hid.in_ (bgrown (balloc HB4.out _) (HO4.out.alloc _) (Nat.le_refl _) hg5)
             clear ho5 hg5)
          | (refine wpList_append_own _ rfl _ _ 22 rfl wq.heap.size 51 i0 (.agg #[.int .i64 0, .int .i64 0, .int .i64 0]) 3 24 Tryz.underlying22 hti hz0 hz1 hz2 rfl (by decide) _ _ _ rfl HO5.out ⟨g, k * 3, none⟩ (n - k) (cap - k) ((l.drop k).flatMap MarkR.cells) rfl X8 (box_drop MarkR.len X9.out ((HBX.out.step HBQ.out).step HB5.out)) one3 (by unfold maxLen; omega) (by omega) HB5.out.size ?_; intro v6 w6 ho6 hg6 _
             have HO6 := Hid.in_ ho6
             have HB6 := Hid.in_ (bgrown HB5.out HO5.out (Nat.le_refl _) hg6)
             clear ho6 hg6))
        go_ret
        have e1 : k + 1 + (n - k) = n + 1 := by omega
        have e2 : (l.take k).flatMap MarkR.cells ++ [.int .i64 m.k, .int .i64 m.a, .int .i64 m.b] ++ (l.drop k).flatMap MarkR.cells = (putM l m).flatMap MarkR.cells := by
          rw [HS.out, List.flatMap_append, List.flatMap_cons, List.append_assoc]
          rfl
        have ho := HO6.out
        rw [e1, e2] at ho
        obtain ⟨A6, c6, rfl, _, _, hA6⟩ := own_shape ho
        obtain ⟨g6, rfl, _⟩ := hA6 (by omega)
        exact ⟨g6, c6, rfl, own_base ho HBQ.out.size, HBQ.out.trans (HB6.out.mono HBQ.out.size)⟩
      · obtain rfl : k = cap := by omega
        go_wp2_with fail
        go_quiet (fail)
        obtain ⟨wq, hwq⟩ : ∃ wq : World, wq = wr.drewN nq := ⟨_, rfl⟩
        rw [← hwq]
        have hsz : wq.heap.size = wr.heap.size := by rw [hwq]; rfl
        have HBQ := Hid.in_ (show Below w.heap.size w wq by rw [hwq]; exact below_drewN HBW.out _)
        have HB1 := Hid.in_ (show Below (w.alloc (.cells #[.int .i64 m.k, .int .i64 m.a, .int .i64 m.b] 51)).heap.size (w.alloc (.cells #[.int .i64 m.k, .int .i64 m.a, .int .i64 m.b] 51)) wq by rw [hwq]; exact below_drewN HB.out _)
        rw [← hsz] at hwr
        clear hwq hsz d0 d1 d2
        have X1 : ∀ j u, ((l.take k).flatMap MarkR.cells)[j]? = some u → (wq.alloc (.cells #[] 51)).cell? ((⟨g, 0, none⟩ : Addr).add j) = some u := box_take MarkR.len (HBX.out.step (balloc HBQ.out _))
        have X2 : ((l.take k).flatMap MarkR.cells).length = k * 3 := by rw [flat_len MarkR.len, List.length_take, HL.out, Nat.min_eq_left hkn]
        have X8 : ((l.drop k).flatMap MarkR.cells).length = (n - k) * 3 := by rw [flat_len MarkR.len, List.length_drop, HL.out]
        have X3 := World.ownsRow_lit (e := 51) (base := wq.heap.size) (size := 3) wq #[] 0 (Nat.le_refl _) (by decide) (by decide)
        have X9 := Hid.in_ (show k ≤ l.length by rw [HL.out]; exact hkn)
        have X4 : (k : Int) ≤ n := by omega
        have X11 := Hid.in_ (show l.length ≤ k by rw [HL.out]; omega)
        have X6 : (0 : Int) ≤ k := by omega
        go_wp2_with (at_builtin; first
          | (refine wpList_append_own _ rfl _ _ 22 rfl wq.heap.size 51 i0 (.agg #[.int .i64 0, .int .i64 0, .int .i64 0]) 3 24 Tryz.underlying22 hti hz0 hz1 hz2 rfl (by decide) _ _ _ rfl X3 ⟨g, 0, none⟩ k k ((l.take k).flatMap MarkR.cells) rfl X2 X1 one3 (by unfold maxLen; omega) (by omega) (balloc (Below.refl _ _) _).size ?_; intro v4 w4 ho4 hg4 _
             have HO4 := Hid.in_ (show w4.ownsRow wq.heap.size 51 3 v4 k ((l.take k).flatMap MarkR.cells) by simpa using ho4)
             have HB4 := Hid.in_ (bgrown (balloc (Below.refl wq.heap.size wq) _) X3 (Nat.le_refl _) hg4)
             clear ho4 hg4
             obtain ⟨d0, d1, d2⟩ := boxAt3 ((HF.out.step HB1.out).step HB4.out))
          | (refine wpList_append_own _ rfl _ _ 22 rfl wq.heap.size 51 i0 (.agg #[.int .i64 0, .int .i64 0, .int .i64 0]) 3 24 Tryz.underlying22 hti hz0 hz1 hz2 rfl (by decide) _ _ _ rfl (HO4.out.alloc _) ⟨w4.heap.size, 0, none⟩ 1 1 [.int .i64 m.k, .int .i64 m.a, .int .i64 m.b] rfl rfl (cells3m rfl) (fun x hx => by simp at hx; rcases hx with rfl | rfl | rfl <;> rfl) (by unfold maxLen; omega) (by omega) (balloc HB4.out _).size ?_; intro v5 w5 ho5 hg5 _
             have HO5 := Hid.in_ ho5
             have HB5 := Hid.in_ (bgrown (balloc HB4.out _) (HO4.out.alloc _) (Nat.le_refl _) hg5)
             clear ho5 hg5)
          | (refine wpList_append_own _ rfl _ _ 22 rfl wq.heap.size 51 i0 (.agg #[.int .i64 0, .int .i64 0, .int .i64 0]) 3 24 Tryz.underlying22 hti hz0 hz1 hz2 rfl (by decide) _ _ _ rfl HO5.out ⟨g, 0, none⟩ 0 0 [] rfl rfl (fun j u hu => by cases hu) (fun x hx => by cases hx) (by unfold maxLen; omega) (by omega) HB5.out.size ?_; intro v6 w6 ho6 hg6 _
             have HO6 := Hid.in_ (show w6.ownsRow wq.heap.size 51 3 v6 (k + 1 + (n - k)) ((l.take k).flatMap MarkR.cells ++ [.int .i64 m.k, .int .i64 m.a, .int .i64 m.b] ++ (l.drop k).flatMap MarkR.cells) by rw [show n - k = 0 by omega, List.drop_of_length_le X11.out]; simpa using ho6)
             have HB6 := Hid.in_ (bgrown HB5.out HO5.out (Nat.le_refl _) hg6)
             clear ho6 hg6))
        go_ret
        have e1 : k + 1 + (n - k) = n + 1 := by omega
        have e2 : (l.take k).flatMap MarkR.cells ++ [.int .i64 m.k, .int .i64 m.a, .int .i64 m.b] ++ (l.drop k).flatMap MarkR.cells = (putM l m).flatMap MarkR.cells := by
          rw [HS.out, List.flatMap_append, List.flatMap_cons, List.append_assoc]
          rfl
        have ho := HO6.out
        rw [e1, e2] at ho
        obtain ⟨A6, c6, rfl, _, _, hA6⟩ := own_shape ho
        obtain ⟨g6, rfl, _⟩ := hA6 (by omega)
        exact ⟨g6, c6, rfl, own_base ho HBQ.out.size, HBQ.out.trans (HB6.out.mono HBQ.out.size)⟩
end Go.Proofs.YtlelgpknkgjaeaaGreatDoor

/- 'l07Marks', 'FindMarks' of the reference. -/
namespace Go.Proofs.YtlelgpknkgjaeaaGreatDoor
open Go.ChangeShapes Go.WideShapes Go.ChangeAt Go.RowKit
set_option linter.unusedSimpArgs false
set_option linter.unusedVariables false
set_option maxRecDepth 4000

theorem insM_snoc (l : List MarkR) (m : MarkR) : insM (l ++ [m]) = putM (insM l) m := by
  unfold insM; rw [List.foldl_append]; rfl
def pieceK (s : ByteArray) (f : Int) (k : Nat) : List MarkR := if f = 3 then gcrK s k else kindL s (patM f k) k
def kTo (s : ByteArray) (f : Int) : Nat → List MarkR
  | 0 => []
  | k + 1 => kTo s f k ++ (if k = 0 then [] else pieceK s f k)
theorem kTo_one (s : ByteArray) (f : Int) : kTo s f 1 = [] := rfl
theorem kTo_succ {s : ByteArray} {f : Int} {k : Nat} (h : 1 ≤ k) : kTo s f (k + 1) = kTo s f k ++ pieceK s f k := by
  show kTo s f k ++ (if k = 0 then [] else pieceK s f k) = _
  rw [if_neg (by omega)]
theorem kTo_all (s : ByteArray) (f : Int) : insM (kTo s f 4) = marksV s f := by
  unfold marksV
  rw [kTo_succ (by decide), kTo_succ (by decide), kTo_succ (by decide), kTo_one]
  unfold pieceK
  by_cases h : f = 3
  · rw [if_pos h, if_pos h, if_pos h, if_pos h]; rfl
  · rw [if_neg h, if_neg h, if_neg h, if_neg h]; rfl
theorem gcrK_len (s : ByteArray) (k : Int) : (gcrK s k).length ≤ s.size := by
  have h : ∀ L : List RunR, (L.flatMap (fun r => gcrOne s r k)).length ≤ L.length := by
    intro L
    induction L with
    | nil => exact Nat.le_refl _
    | cons r L ih =>
      rw [List.flatMap_cons, List.length_append, List.length_cons]
      have : (gcrOne s r k).length ≤ 1 := by
        unfold gcrOne
        split <;> simp
      omega
  exact Nat.le_trans (h _) (syncTo_len s s.size)
theorem kindL_len (s p : ByteArray) (k : Int) : (kindL s p k).length ≤ s.size := by
  unfold kindL; split
  · rw [List.length_map]; exact placesTo_len _ _
  · exact Nat.zero_le _
theorem pieceK_len (s : ByteArray) (f : Int) (k : Nat) : (pieceK s f k).length ≤ s.size := by
  unfold pieceK; split
  · exact gcrK_len _ _
  · exact kindL_len _ _ _
theorem kTo_len {s : ByteArray} {f : Int} (h : s.size ≤ 8000) : ∀ k, (kTo s f k).length ≤ k * 8000
  | 0 => Nat.le_refl _
  | k + 1 => by
    show (kTo s f k ++ (if k = 0 then [] else pieceK s f k)).length ≤ _
    rw [List.length_append]
    have := kTo_len (f := f) h k
    have := pieceK_len s f k
    have hx : ((if k = 0 then [] else pieceK s f k) : List MarkR).length ≤ 8000 := by
      split
      · exact Nat.zero_le _
      · omega
    omega
theorem kindTo_len (s p : ByteArray) (k : Int) (j : Nat) : (kindTo s p k j).length ≤ j := by
  unfold kindTo; rw [List.length_map, List.length_take]; exact Nat.min_le_left _ _
theorem pat_size {f : Int} (h : inB f 1 3 = true) {k : Nat} (h1 : 1 ≤ k) (h2 : k ≤ 3) : (patM f k).size ≤ 64 := by
  obtain ⟨a, b, c, _⟩ := pat_facts h
  have key : ∀ z : Int, z = 1 ∨ z = 2 ∨ z = 3 → (patM f z).size ≤ 64 := by
    rintro z (rfl | rfl | rfl)
    · exact c
    · rw [← a]; exact c
    · rw [← b, ← a]; exact c
  exact key k (by omega)
theorem own_n {w : World} {b n : Nat} {e : TypeId} {v : Value} {l : List MarkR} (h : w.ownsRow b e 3 v n (l.flatMap MarkR.cells)) : n = l.length := by
  have := h.1; rw [flat_len MarkR.len] at this; omega
theorem spec_mark (f : Int) (k : Nat) (hf : inB f 1 3 = true) (h1 : 1 ≤ k) (h2 : k ≤ 3) (w : World) :
    Calls Tryz.prog 62 #[.int .i64 f, .int .i64 k] w fun e w' => e = .returned (.string (patM f k)) ∧ Below w.heap.size w w' := by
  obtain ⟨b, hb, hb2⟩ := markByteIn hf (inB_mk (x := (k : Int)) (lo := 1) (hi := 3) (by omega) (by omega))
  have := spec_l07Mark f k b w hf (inB_mk (by omega) (by omega)) hb hb2
  unfold patM
  rw [hb, Int.toNat_natCast]
  exact this
theorem code_pat {k : Nat} (h1 : 1 ≤ k) (h2 : k ≤ 3) : (patM 3 k).extract 10 (patM 3 k).size = codeG k := by
  have : k = 1 ∨ k = 2 ∨ k = 3 := by omega
  rcases this with rfl | rfl | rfl <;> decide +kernel

def gcrKTo (s : ByteArray) (k : Int) (j : Nat) : List MarkR := ((syncTo s s.size).take j).flatMap (fun r => gcrOne s r k)
theorem gcrKTo_succ {s : ByteArray} {k : Int} {j : Nat} {r : RunR} (h : (syncTo s s.size)[j]? = some r) : gcrKTo s k (j + 1) = gcrKTo s k j ++ gcrOne s r k := by
  unfold gcrKTo; rw [List.take_add_one, h, List.flatMap_append]; simp
theorem gcrKTo_all {s : ByteArray} {k : Int} {j : Nat} (h : (syncTo s s.size).length ≤ j) : gcrKTo s k j = gcrK s k := by
  unfold gcrKTo gcrK; rw [List.take_of_length_le h]
theorem gcrKTo_len (s : ByteArray) (k : Int) (j : Nat) : (gcrKTo s k j).length ≤ j := by
  have h : ∀ L : List RunR, (L.flatMap (fun r => gcrOne s r k)).length ≤ L.length := by
    intro L
    induction L with
    | nil => exact Nat.le_refl _
    | cons r L ih =>
      rw [List.flatMap_cons, List.length_append, List.length_cons]
      have : (gcrOne s r k).length ≤ 1 := by
        unfold gcrOne
        split <;> simp
      omega
  exact Nat.le_trans (h _) (by rw [List.length_take]; exact Nat.min_le_left _ _)
theorem gcrK_small {s : ByteArray} {k : Int} (h : s.size < 10) : gcrK s k = [] := by
  unfold gcrK
  rw [List.flatMap_eq_nil_iff]
  intro r hr
  obtain ⟨j, _, _, hs⟩ := syncTo_mem hr
  unfold syncAt at hs
  rw [Bool.and_eq_true, decide_eq_true_eq] at hs
  have := cnt_le s j
  omega
theorem pat3_size {k : Nat} (h1 : 1 ≤ k) (h2 : k ≤ 3) : (patM 3 k).size = 20 ∧ (codeG k).size = 10 := by
  have : k = 1 ∨ k = 2 ∨ k = 3 := by omega
  rcases this with rfl | rfl | rfl <;> decide +kernel

set_option maxHeartbeats 4000000 in
theorem spec_l07Marks (s : ByteArray) (f : Int) (w : World) (hv : validCells s = true) (hf : inB f 1 3 = true) :
    Calls Tryz.prog 35 #[.string s, .int .i64 f] w fun e w' => ∃ n g cap, e = .returned (.slice (some ⟨g, 0, none⟩) n cap) ∧ w'.ownsRow w.heap.size 51 3 (.slice (some ⟨g, 0, none⟩) n cap) n ((marksV s f).flatMap MarkR.cells) ∧ Below w.heap.size w w' := by
  obtain ⟨v1, v2, v3⟩ := valid_size hv
  have HSY := Hid.in_ (fun w => spec_l07Syncs s w v1 v2)
  have HMK := Hid.in_ (fun (k : Nat) (h1 : 1 ≤ k) (h2 : k ≤ 3) w => spec_mark f k hf h1 h2 w)
  have HPS := Hid.in_ (fun (k : Nat) (h1 : 1 ≤ k) (h2 : k ≤ 3) => pat_size (k := k) hf h1 h2)
  have HFN := Hid.in_ (fun p (hp : p.size ≤ 1048576) w => spec_l07Find s p w v1 (by omega) hp)
  have HFT := Hid.in_ (fun p a (hp : p.size ≤ 1048576) (ha : a ≤ 1048576) w => spec_l07Fits s p a w v1 (by omega) hp ha)
  have HKL := Hid.in_ (fun k => kTo_len (s := s) (f := f) v2 k)
  have HO0 := Hid.in_ (World.ownsRow_lit (e := 51) (base := w.heap.size) (size := 3) w #[] 0 (Nat.le_refl _) (by decide) (by decide))
  have HB0 := Hid.in_ (balloc (Below.refl w.heap.size w) (.cells #[] 51))
  clear hv v3
  go_enter Tryz.func35, Tryz.ntmps35
  go_wp2_with (go_at_call 61; refine (HSY.out _).mono ?_; rintro e w1 ⟨v7, rfl, ho7, hb7⟩; obtain ⟨A7, c7, rfl, hl7, hn7, hA7⟩ := own_shape ho7)
  have HO1 := Hid.in_ (own_below HO0.out hb7 (Nat.le_refl _))
  have HB1 := Hid.in_ (HB0.out.trans (hb7.mono HB0.out.size))
  have HA7 := Hid.in_ hA7
  have HN7 := Hid.in_ (syncTo_len s s.size)
  clear ho7 hb7 hA7 hl7 HO0 HB0
  go_loopg [6, 8] 3 (fun r v i wr => ∃ k n g cap : Nat, 1 ≤ k ∧ k + r = 4 ∧ i = .int .i64 k ∧ v = .slice (some ⟨g, 0, none⟩) n cap ∧ Hid (wr.ownsRow w.heap.size 51 3 (.slice (some ⟨g, 0, none⟩) n cap) n ((insM (kTo s f k)).flatMap MarkR.cells)) ∧ Hid (Below w1.heap.size w1 wr))
  case atStart => exact ⟨1, 0, _, _, by omega, by omega, by go_num, rfl, HO1, Below.refl _ _⟩
  case round =>
    obtain ⟨k, n, g, cap, hk1, hkm, rfl, rfl, HO, HB⟩ := hrel
    have HK := Hid.in_ hkm
    have hk4 : k ≤ 4 := by omega
    clear hkm
    by_cases hlt : k ≤ 3
    · by_cases hf3 : f = 3
      · subst hf3
        have hp20 := pat3_size hk1 hlt
        have hex := code_pat hk1 hlt
        have HM := Hid.in_ (HMK.out k hk1 hlt)
        have HKS := Hid.in_ (show kTo s 3 (k + 1) = kTo s 3 k ++ gcrK s k by rw [kTo_succ hk1]; unfold pieceK; rw [if_pos rfl])
        obtain ⟨p, hp⟩ : ∃ p, patM 3 k = p := ⟨_, rfl⟩
        obtain ⟨c, hc⟩ : ∃ c, codeG k = c := ⟨_, rfl⟩
        rw [hp, hc] at hp20 hex
        rw [hp] at HM
        obtain ⟨hps, hcs⟩ := hp20
        have HCG := Hid.in_ hc
        clear hp hc
        rw [hps] at hex
        by_cases hbig : s.size < 10
        · have HKN := Hid.in_ (show kTo s 3 (k + 1) = kTo s 3 k by rw [HKS.out, gcrK_small hbig, List.append_nil])
          go_wp2_with (go_at_call 62; refine (HM.out _).mono ?_; rintro e w2 ⟨rfl, hb2⟩; have HB2 := Hid.in_ (HB.out.trans (hb2.mono HB.out.size)); have HO2 := Hid.in_ (own_below HO.out hb2 (Nat.le_refl _)); clear hb2)
          have hk := HK.out
          go_roundg (gk - 1)
          case measure => omega
          case rel => exact ⟨k + 1, n, g, cap, by omega, by omega, by go_num, rfl, by rw [HKN.out]; exact HO2, HB2⟩
        · go_wp2_with (go_at_call 62; refine (HM.out _).mono ?_; rintro e w2 ⟨rfl, hb2⟩; have HB2 := Hid.in_ (HB.out.trans (hb2.mono HB.out.size)); have HO2 := Hid.in_ (own_below HO.out hb2 (Nat.le_refl _)); clear hb2)
          obtain ⟨gO, rfl⟩ : ∃ g, g = gk := ⟨_, rfl⟩
          obtain ⟨wo, rfl⟩ : ∃ wo : World, wo = wr := ⟨_, rfl⟩
          clear HB HO
          have HO4 := Hid.in_ (show w2.ownsRow w.heap.size 51 3 (.slice (some ⟨g, 0, none⟩) n cap) n ((insM (kTo s 3 k ++ gcrKTo s k 0)).flatMap MarkR.cells) by
            rw [show gcrKTo s k 0 = [] from rfl, List.append_nil]; exact HO2.out)
          go_loopg [6, 13] (syncTo s s.size).length (fun r v i wi => ∃ j n g cap : Nat, j + r = (syncTo s s.size).length ∧ i = .int .i64 j ∧ v = .slice (some ⟨g, 0, none⟩) n cap ∧ Hid (wi.ownsRow w.heap.size 51 3 (.slice (some ⟨g, 0, none⟩) n cap) n ((insM (kTo s 3 k ++ gcrKTo s k j)).flatMap MarkR.cells)) ∧ Hid (Below w1.heap.size w1 wi))
          case atStart => exact ⟨0, n, g, cap, by omega, rfl, rfl, HO4, HB2⟩
          case round =>
            clear HO4 HO2
            obtain ⟨j, n5, g5, cap5, hjm, rfl, rfl, HO5, HB5⟩ := hrel
            have HJ := Hid.in_ hjm
            have hn7' := HN7.out
            have hjC : j ≤ (syncTo s s.size).length := by omega
            clear hjm
            have hn5 : n5 ≤ 100000 := by
              rw [own_n HO5.out, insM_len, List.length_append]
              have := HKL.out k
              have := gcrKTo_len s k j
              omega
            by_cases hjl : j < (syncTo s s.size).length
            · obtain ⟨r, hr⟩ := get_lt (syncTo s s.size) j hjl
              have HKT := Hid.in_ (gcrKTo_succ (k := k) hr)
              obtain ⟨i, rfl, hi, hsy⟩ := syncTo_mem (List.mem_of_getElem? hr)
              obtain ⟨q, hq⟩ : ∃ q, cnt s i = q := ⟨_, rfl⟩
              have hqs : q ≤ s.size := by rw [← hq]; exact cnt_le s i
              rw [hq] at hr HKT
              obtain ⟨e, he⟩ : ∃ e, i + q = e := ⟨_, rfl⟩
              have heE : (i : Int) + (q : Int) = (e : Int) := by omega
              have hwe : IntKind.i64.wrap ((i : Int) + (q : Int)) = (e : Int) := by rw [heE]; simp [IntKind.wrap, IntKind.bits, IntKind.signed]; omega
              have hee : e ≤ 16000 := by omega
              have HEND := Hid.in_ (show endG ⟨(i : Int), ((q : Nat) : Int)⟩ = e by unfold endG; show ((i : Int) + (q : Int)).toNat = e; omega)
              obtain ⟨g7, rfl, _, hg7, hx7, _⟩ := HA7.out (by omega)
              have hbx := (Box.elem RunR.len hx7 hr).step HB5.out
              have cx : wr.cell? ⟨g7, j * 2, none⟩ = some (.int .i64 (i : Int)) := by have := hbx 0 _ rfl; simpa using this
              have cy : wr.cell? ⟨g7, j * 2 + 1, none⟩ = some (.int .i64 (q : Int)) := hbx 1 _ rfl
              have hg7i : g7 < wr.heap.size := Nat.lt_of_lt_of_le hg7 HB5.out.size
              have HBX := Hid.in_ (Box.elem RunR.len hx7 hr)
              clear hr hx7 hbx hsy hq he
              go_wp2_with fail
              go_quiet (fail)
              go_wp2_with fail
              refine (HFT.out c e (by omega) (by omega) _).mono ?_
              rintro e4 w4 ⟨rfl, hb4⟩
              have HB6 := Hid.in_ ((below_drewN HB5.out _).trans (hb4.mono HB5.out.size))
              have HO6 := Hid.in_ (own_below (show (wr.drewN nq).ownsRow _ _ _ _ _ _ from HO5.out) hb4 (Nat.le_refl _))
              clear hb4 cx cy HB5 HO5
              cases hf2 : fitsB s c e
              · have HS := Hid.in_ (show gcrKTo s k (j + 1) = gcrKTo s k j by rw [HKT.out, gcrOne_no (by unfold hitG; rw [HCG.out, HEND.out]; exact hf2), List.append_nil])
                have hj := HJ.out
                go_wp2
                go_roundg (gk - 1)
                case measure => omega
                case rel => exact ⟨j + 1, n5, g5, cap5, by omega, by go_num, rfl, by rw [HS.out]; exact HO6, HB6⟩
              · have hbx4 := HBX.out.step HB6.out
                have cx : w4.cell? ⟨g7, j * 2, none⟩ = some (.int .i64 (i : Int)) := by have := hbx4 0 _ rfl; simpa using this
                have hg7j : g7 < w4.heap.size := Nat.lt_of_lt_of_le hg7 HB6.out.size
                obtain ⟨bq, hbq⟩ : ∃ bq : Int, ((e : Int) + 10) % (s.size : Int) = bq := ⟨_, rfl⟩
                have HS := Hid.in_ (show gcrKTo s k (j + 1) = gcrKTo s k j ++ [⟨(k : Int), (i : Int), bq⟩] by
                  rw [HKT.out, gcrOne_yes (by unfold hitG; rw [HCG.out, HEND.out]; exact hf2), HEND.out, hbq])
                have hb1 : 0 ≤ bq := by rw [← hbq]; exact Int.emod_nonneg _ (by omega)
                have hb2 : bq < (s.size : Int) := by rw [← hbq]; exact Int.emod_lt_of_pos _ (by omega)
                have htm : ((e : Int) + 10).tmod (s.size : Int) = bq := by rw [Int.tmod_eq_emod_of_nonneg (by omega)]; exact hbq
                have hwr : IntKind.i64.wrap ((e : Int) + 10) = (e : Int) + 10 := by simp [IntKind.wrap, IntKind.bits, IntKind.signed]; omega
                have hnz : ¬ (s.size : Int) = 0 := by omega
                have hnz2 : ¬ s.size = 0 := by omega
                have hnp : (0 : Int) < s.size := by omega
                have hwb : IntKind.i64.wrap bq = bq := by simp [IntKind.wrap, IntKind.bits, IntKind.signed]; omega
                clear hbq hbx4 heE hwe
                go_wp2_with fail
                go_still_tail 13, (by kernel_rfl)
                go_wp2_with fail
                refine (spec_l07Put ⟨(k : Int), (i : Int), bq⟩ w4.drew HO6.out hn5).mono ?_
                rintro e5 w5 ⟨g6, cap6, rfl, ho6, hb6⟩
                have HO7 := Hid.in_ (show w5.ownsRow w.heap.size 51 3 (.slice (some ⟨g6, 0, none⟩) (n5 + 1 : Nat) cap6) (n5 + 1) ((insM (kTo s 3 k ++ gcrKTo s k (j + 1))).flatMap MarkR.cells) by
                  rw [HS.out, ← List.append_assoc, insM_snoc]
                  exact own_base ho6 (Nat.le_trans HB1.out.size HB6.out.size))
                have HB7 := Hid.in_ (show Below w1.heap.size w1 w5 from HB6.out.drew.trans (hb6.mono HB6.out.size))
                clear ho6 hb6
                have hj := HJ.out
                go_wp2
                go_roundg (gk - 1)
                case measure => omega
                case rel => exact ⟨j + 1, n5 + 1, g6, cap6, by omega, by go_num, rfl, HO7, HB7⟩
            · have hj := HJ.out
              have hk := HK.out
              have HO6 := Hid.in_ (show wr.ownsRow w.heap.size 51 3 (.slice (some ⟨g5, 0, none⟩) n5 cap5) n5 ((insM (kTo s 3 (k + 1))).flatMap MarkR.cells) by
                rw [HKS.out, ← gcrKTo_all (j := j) (by omega)]
                exact HO5.out)
              go_wp2
              go_roundg (gO - 1)
              case measure => omega
              case rel => exact ⟨k + 1, n5, g5, cap5, by omega, by omega, by go_num, rfl, HO6, HB5⟩
      · have hff : (f == 3) = false := by simpa using hf3
        have hff2 : (f != 3) = true := by simpa using hf3
        have hp64 := HPS.out k hk1 hlt
        have HM := Hid.in_ (HMK.out k hk1 hlt)
        have HKS := Hid.in_ (show kTo s f (k + 1) = kTo s f k ++ kindL s (patM f k) k by rw [kTo_succ hk1]; unfold pieceK; rw [if_neg hf3])
        obtain ⟨p, hp⟩ : ∃ p, patM f k = p := ⟨_, rfl⟩
        rw [hp] at HM HKS hp64
        clear hp hf3
        obtain ⟨C, hC⟩ : ∃ C, (placesTo (fitsB s p) s.size).length = C := ⟨_, rfl⟩
        have hCN : C ≤ s.size := by rw [← hC]; exact placesTo_len _ _
        have HF0 := HFN.out p (by omega)
        rw [hC] at HF0
        have HF := Hid.in_ HF0
        have HC := Hid.in_ hC
        clear HF0 hC
        by_cases hbig : p.size ≤ s.size
        · go_wp2_with (first
            | (go_at_call 62; refine (HM.out _).mono ?_; rintro e w2 ⟨rfl, hb2⟩; have HB2 := Hid.in_ (HB.out.trans (hb2.mono HB.out.size)); have HO2 := Hid.in_ (own_below HO.out hb2 (Nat.le_refl _)); clear hb2)
            | (go_at_call 63; refine (HF.out _).mono ?_; rintro e w3 ⟨v11, rfl, ho11, hb3⟩; obtain ⟨A11, c11, rfl, hl11, hn11, hA11⟩ := own_shape ho11; have HB3 := Hid.in_ (HB2.out.trans (hb3.mono HB2.out.size)); have HO3 := Hid.in_ (own_below HO2.out hb3 (Nat.le_refl _)); have HA11 := Hid.in_ hA11; clear ho11 hb3 hA11 hl11))
          obtain ⟨gO, rfl⟩ : ∃ g, g = gk := ⟨_, rfl⟩
          obtain ⟨wo, rfl⟩ : ∃ wo : World, wo = wr := ⟨_, rfl⟩
          clear HB HO HB2 HO2
          have HO4 := Hid.in_ (show w3.ownsRow w.heap.size 51 3 (.slice (some ⟨g, 0, none⟩) n cap) n ((insM (kTo s f k ++ kindTo s p k 0)).flatMap MarkR.cells) by
            rw [show kindTo s p k 0 = [] from rfl, List.append_nil]; exact HO3.out)
          go_loopg [6, 12] C (fun r v i wi => ∃ j n g cap : Nat, j + r = C ∧ i = .int .i64 j ∧ v = .slice (some ⟨g, 0, none⟩) n cap ∧ Hid (wi.ownsRow w.heap.size 51 3 (.slice (some ⟨g, 0, none⟩) n cap) n ((insM (kTo s f k ++ kindTo s p k j)).flatMap MarkR.cells)) ∧ Hid (Below w3.heap.size w3 wi))
          case atStart => exact ⟨0, n, g, cap, by omega, rfl, rfl, HO4, Below.refl _ _⟩
          case round =>
            clear HO4 HO3
            obtain ⟨j, n5, g5, cap5, hjm, rfl, rfl, HO5, HB5⟩ := hrel
            have HJ := Hid.in_ hjm
            have hjC : j ≤ C := by omega
            clear hjm
            have hn5 : n5 ≤ 100000 := by
              rw [own_n HO5.out, insM_len, List.length_append]
              have := HKL.out k
              have := kindTo_len s p k j
              omega
            have HB6 := Hid.in_ (HB3.out.trans (HB5.out.mono HB3.out.size))
            by_cases hjl : j < C
            · obtain ⟨x, hx⟩ := get_lt (placesTo (fitsB s p) s.size) j (by rw [HC.out]; exact hjl)
              obtain ⟨q, rfl, hqn, _⟩ := placesTo_mem (List.mem_of_getElem? hx)
              have HKT := Hid.in_ (kindTo_succ (s := s) (p := p) (k := k) hx)
              obtain ⟨g11, rfl, _, hg11, hx11, _⟩ := HA11.out (by omega)
              have cx : wr.cell? ⟨g11, j, none⟩ = some (.int .i64 (q : Int)) := (hx11.step HB5.out) j _ (by unfold I64; rw [List.getElem?_map, hx]; rfl)
              have hg11i : g11 < wr.heap.size := Nat.lt_of_lt_of_le hg11 HB5.out.size
              clear hx hx11
              obtain ⟨bq, hbq⟩ : ∃ bq : Int, ((q : Int) + (p.size : Int)) % (s.size : Int) = bq := ⟨_, rfl⟩
              have HMK2 := Hid.in_ (show mkAt s.size p k (q : Int) = ⟨(k : Int), (q : Int), bq⟩ by unfold mkAt; rw [hbq])
              have hb1 : 0 ≤ bq := by rw [← hbq]; exact Int.emod_nonneg _ (by omega)
              have hb2 : bq < (s.size : Int) := by rw [← hbq]; exact Int.emod_lt_of_pos _ (by omega)
              have htm : ((q : Int) + (p.size : Int)).tmod (s.size : Int) = bq := by rw [Int.tmod_eq_emod_of_nonneg (by omega)]; exact hbq
              have hwr : IntKind.i64.wrap ((q : Int) + (p.size : Int)) = (q : Int) + (p.size : Int) := by simp [IntKind.wrap, IntKind.bits, IntKind.signed]; omega
              have hnz : ¬ (s.size : Int) = 0 := by omega
              have hnz2 : ¬ s.size = 0 := by omega
              have hnp : (0 : Int) < s.size := by omega
              have hwb : IntKind.i64.wrap bq = bq := by simp [IntKind.wrap, IntKind.bits, IntKind.signed]; omega
              clear hbq
              go_wp2_with fail
              go_still_tail 15, (by kernel_rfl)
              go_wp2_with fail
              refine (spec_l07Put ⟨(k : Int), (q : Int), bq⟩ wr.drew HO5.out hn5).mono ?_
              rintro e w5 ⟨g6, cap6, rfl, ho6, hb6⟩
              have HO6 := Hid.in_ (show w5.ownsRow w.heap.size 51 3 (.slice (some ⟨g6, 0, none⟩) (n5 + 1 : Nat) cap6) (n5 + 1) ((insM (kTo s f k ++ kindTo s p k (j + 1))).flatMap MarkR.cells) by
                rw [HKT.out, ← List.append_assoc, insM_snoc, HMK2.out]
                exact own_base ho6 (Nat.le_trans HB1.out.size HB6.out.size))
              have HB7 := Hid.in_ (show Below w3.heap.size w3 w5 from HB5.out.drew.trans (hb6.mono HB5.out.size))
              clear ho6 hb6
              have hj := HJ.out
              go_wp2
              go_roundg (gk - 1)
              case measure => omega
              case rel => exact ⟨j + 1, n5 + 1, g6, cap6, by omega, by go_num, rfl, HO6, HB7⟩
            · have hj := HJ.out
              have hk := HK.out
              have HO6 := Hid.in_ (show wr.ownsRow w.heap.size 51 3 (.slice (some ⟨g5, 0, none⟩) n5 cap5) n5 ((insM (kTo s f (k + 1))).flatMap MarkR.cells) by
                rw [HKS.out, ← kindTo_all (j := j) hbig (by rw [HC.out]; omega)]
                exact HO5.out)
              go_wp2
              go_roundg (gO - 1)
              case measure => omega
              case rel => exact ⟨k + 1, n5, g5, cap5, by omega, by omega, by go_num, rfl, HO6, HB6⟩
        · have HKN := Hid.in_ (show kTo s f (k + 1) = kTo s f k by rw [HKS.out, kindL_long (by omega), List.append_nil])
          go_wp2_with (go_at_call 62; refine (HM.out _).mono ?_; rintro e w2 ⟨rfl, hb2⟩; have HB2 := Hid.in_ (HB.out.trans (hb2.mono HB.out.size)); have HO2 := Hid.in_ (own_below HO.out hb2 (Nat.le_refl _)); clear hb2)
          have hk := HK.out
          go_roundg (gk - 1)
          case measure => omega
          case rel => exact ⟨k + 1, n, g, cap, by omega, by omega, by go_num, rfl, by rw [HKN.out]; exact HO2, HB2⟩
    · have hk := HK.out
      obtain rfl : k = 4 := by omega
      go_wp2
      go_ret
      exact ⟨n, g, cap, rfl, by rw [← kTo_all]; exact HO.out, HB1.out.trans (HB.out.mono HB1.out.size)⟩
end Go.Proofs.YtlelgpknkgjaeaaGreatDoor

/- 'findMarks' of the program, FM and MFM. -/
namespace Go.Proofs.YtlelgpknkgjaeaaGreatDoor
open Go.ChangeShapes Go.WideShapes Go.ChangeAt Go.RowKit
set_option linter.unusedSimpArgs false
set_option linter.unusedVariables false
set_option maxRecDepth 4000

theorem impl_mark (f : Int) (k : Nat) (hf : inB f 1 3 = true) (h1 : 1 ≤ k) (h2 : k ≤ 3) (w : World) (hT : Tab w) :
    Calls Tryz.prog 58 #[.int .i64 f, .int .i64 k] w fun e w' => e = .returned (.string (patM f k)) ∧ Below w.heap.size w w' := by
  obtain ⟨b, hb, hb2⟩ := markByteIn hf (inB_mk (x := (k : Int)) (lo := 1) (hi := 3) (by omega) (by omega))
  have := impl_markCells f k b w hf hb hb2 hT
  unfold patM
  rw [hb, Int.toNat_natCast]
  exact this

/-- a row of places beside the list that grows. -/
structure Places (w : World) (v : Value) (A : Option Addr) (C : Nat) (X : List Value) : Prop where
  at_ : 0 < C → ∃ g, A = some ⟨g, 0, none⟩ ∧ g < w.heap.size ∧ Box w g X ∧ v.ownBlock ≠ some g
theorem Places.step {w w' : World} {v v' : Value} {A : Option Addr} {C : Nat} {X : List Value} (h : Places w v A C X) (hg : w.grownBy w' v.ownBlock) (hv : v'.ownBlock = v.ownBlock ∨ ∃ g, v'.ownBlock = some g ∧ w.heap.size ≤ g) : Places w' v' A C X := by
  refine ⟨fun hc => ?_⟩
  obtain ⟨g, e, hl, hb, hne⟩ := h.at_ hc
  refine ⟨g, e, Nat.lt_of_lt_of_le hl hg.size, fun j u hu => hg.cell (hb j u hu) (fun e => hne e.symm), ?_⟩
  rcases hv with hv | ⟨g', hv, hge⟩
  · rw [hv]; exact hne
  · rw [hv]; intro e2; injection e2 with e2; omega
theorem Places.alloc {w : World} {v : Value} {A : Option Addr} {C : Nat} {X : List Value} (h : Places w v A C X) (o : Obj) : Places (w.alloc o) v A C X := by
  refine ⟨fun hc => ?_⟩
  obtain ⟨g, e, hl, hb, hne⟩ := h.at_ hc
  exact ⟨g, e, by simp; omega, hb.step (balloc (Below.refl _ _) _), hne⟩

def mapTo (n : Nat) (p : ByteArray) (k : Int) (L : List Int) (j : Nat) : List MarkR := (L.take j).map (mkAt n p k)
theorem mapTo_succ {n : Nat} {p : ByteArray} {k : Int} {L : List Int} {j : Nat} {x : Int} (h : L[j]? = some x) : mapTo n p k L (j + 1) = mapTo n p k L j ++ [mkAt n p k x] := by
  unfold mapTo; rw [List.take_add_one, h, List.map_append]; rfl
theorem mapTo_len (n : Nat) (p : ByteArray) (k : Int) (L : List Int) (j : Nat) : (mapTo n p k L j).length ≤ j := by
  unfold mapTo; rw [List.length_map, List.length_take]; exact Nat.min_le_left _ _
def placeL (s p : ByteArray) : List Int := if p.size ≤ s.size then placesTo (fitsB s p) s.size else []
theorem placeL_map (s p : ByteArray) (k : Int) {j : Nat} (h : (placeL s p).length ≤ j) : mapTo s.size p k (placeL s p) j = kindL s p k := by
  unfold mapTo kindL
  rw [List.take_of_length_le h]
  unfold placeL
  split <;> rfl
theorem placeL_len (s p : ByteArray) : (placeL s p).length ≤ s.size := by
  unfold placeL; split
  · exact placesTo_len _ _
  · exact Nat.zero_le _
theorem placeL_mem {s p : ByteArray} {x : Int} (h : x ∈ placeL s p) : ∃ j : Nat, x = j ∧ j < s.size := by
  unfold placeL at h
  split at h
  · obtain ⟨j, a, b, _⟩ := placesTo_mem h
    exact ⟨j, a, b⟩
  · cases h
theorem impl_places (s p : ByteArray) (w : World) (hs : s.size ≤ 1048576) (hp : p.size ≤ 1048576) :
    Calls Tryz.prog 59 #[.string s, .string p] w fun e w' => ∃ v, e = .returned v ∧ w'.ownsRow w.heap.size 2 1 v (placeL s p).length (I64 (placeL s p)) ∧ Below w.heap.size w w' := by
  by_cases h : p.size ≤ s.size
  · have := impl_findPattern s p w hs h
    unfold placeL
    rw [if_pos h]
    exact this
  · refine (impl_findPattern_long s p w hs (by omega) hp).mono ?_
    rintro e w' ⟨rfl, hb⟩
    unfold placeL
    rw [if_neg h]
    exact ⟨_, rfl, World.ownsRow_nil _ _ _ _, hb⟩
set_option maxHeartbeats 4000000 in
theorem impl_findMarks_f (s : ByteArray) (f : Int) (w : World) (hv : validCells s = true) (hf : inB f 1 3 = true) (hf3 : f ≠ 3) (hT : Tab w) :
    Calls Tryz.prog 38 #[.string s, .int .i64 f] w fun e w' => ∃ n v, e = .returned v ∧ w'.ownsRow w.heap.size 51 3 v n ((marksV s f).flatMap MarkR.cells) ∧ Below w.heap.size w w' := by
  obtain ⟨i0, hti, hz0, hz1, hz2⟩ := info_parts Tryz.info_Mark
  obtain ⟨v1, v2, v3⟩ := valid_size hv
  have HMK := Hid.in_ (fun (k : Nat) (h1 : 1 ≤ k) (h2 : k ≤ 3) w hT => impl_mark f k hf h1 h2 w hT)
  have HPS := Hid.in_ (fun (k : Nat) (h1 : 1 ≤ k) (h2 : k ≤ 3) => pat_size (k := k) hf h1 h2)
  have HKL := Hid.in_ (fun k => kTo_len (s := s) (f := f) v2 k)
  have HTB := Hid.in_ hT
  have HRAW := Hid.in_ (show marksV s f = insM (kTo s f 4) from (kTo_all s f).symm)
  have HAP := Hid.in_ (show (kTo s f 4).Pairwise (fun x y => x.a ≠ y.a) by
    have := rawM_apart (s := s) hf
    rw [kTo_succ (by decide), kTo_succ (by decide), kTo_succ (by decide), kTo_one]
    unfold pieceK
    rw [if_neg hf3, if_neg hf3, if_neg hf3]
    exact this)
  have hff : (f == 3) = false := by simpa using hf3
  have HF3 := Hid.in_ hf3
  clear hv v3 hT hf3
  go_enter Tryz.func38, Tryz.ntmps38
  go_wp2_with fail
  go_loopg [5, 6] 3 (fun r v i wr => ∃ (k n : Nat) (v5 : Value), 1 ≤ k ∧ k + r = 4 ∧ i = .int .i64 k ∧ v = v5 ∧ Hid (wr.ownsRow w.heap.size 51 3 v5 n ((kTo s f k).flatMap MarkR.cells)) ∧ Hid (Below w.heap.size w wr))
  case atStart => exact ⟨1, 0, _, by omega, by omega, by go_num, rfl, World.ownsRow_nil _ _ _ _, Below.refl _ _⟩
  case round =>
    obtain ⟨k, n, v, hk1, hkm, rfl, hvv, HO, HB⟩ := hrel
    subst hvv
    have HK := Hid.in_ hkm
    have hk4 : k ≤ 4 := by omega
    clear hkm
    by_cases hlt : k ≤ 3
    · have hp64 := HPS.out k hk1 hlt
      have HM := Hid.in_ (HMK.out k hk1 hlt)
      have HKS := Hid.in_ (show kTo s f (k + 1) = kTo s f k ++ kindL s (patM f k) k by rw [kTo_succ hk1]; unfold pieceK; rw [if_neg HF3.out])
      obtain ⟨p, hp⟩ : ∃ p, patM f k = p := ⟨_, rfl⟩
      rw [hp] at HM HKS hp64
      clear hp
      go_wp2_with fail
      refine (HM.out _ (HTB.out.step HB.out)).mono ?_
      rintro e w2 ⟨rfl, hb2⟩
      have HB2 := Hid.in_ (HB.out.trans (hb2.mono HB.out.size))
      have HO2 := Hid.in_ (own_below HO.out hb2 (Nat.le_refl _))
      clear hb2
      obtain ⟨L, hL⟩ : ∃ L, placeL s p = L := ⟨_, rfl⟩
      obtain ⟨C, hC⟩ : ∃ C, L.length = C := ⟨_, rfl⟩
      have hCN : C ≤ s.size := by rw [← hC, ← hL]; exact placeL_len _ _
      have HMEM := Hid.in_ (fun x (hx : x ∈ L) => placeL_mem (s := s) (p := p) (by rw [hL]; exact hx))
      have HALL := Hid.in_ (fun j (h : L.length ≤ j) => placeL_map s p k (j := j) (by rw [hL]; exact h))
      have HF0 := fun w => impl_places s p w (by omega) (by omega)
      rw [hL] at HF0 HALL
      rw [hC] at HF0
      have HF := Hid.in_ HF0
      have HC := Hid.in_ hC
      clear HF0 hC hL
      go_wp2_with fail
      refine (HF.out _).mono ?_
      rintro e w3 ⟨v11, rfl, ho11, hb3⟩
      have hap := own_apart HO2.out ho11 (Nat.le_refl _)
      obtain ⟨A11, c11, rfl, hl11, hn11, hA11⟩ := own_shape ho11
      have HB3 := Hid.in_ (HB2.out.trans (hb3.mono HB2.out.size))
      have HO3 := Hid.in_ (own_below HO2.out hb3 (Nat.le_refl _))
      have HPL := Hid.in_ (show Places w3 u5 A11 C (I64 L) from ⟨fun hc => by
        obtain ⟨g, rfl, _, h2, h3, _⟩ := hA11 hc
        refine ⟨g, rfl, h2, h3, ?_⟩
        rcases hap with h | h
        · rw [h]; intro e; cases e
        · exact h⟩)
      clear ho11 hb3 hA11 hl11 hap
      go_wp2_with fail
      obtain ⟨gO, rfl⟩ : ∃ g, g = gk := ⟨_, rfl⟩
      obtain ⟨wo, rfl⟩ : ∃ wo : World, wo = wr := ⟨_, rfl⟩
      have HO4 := Hid.in_ (show w3.ownsRow w.heap.size 51 3 u5 n ((kTo s f k ++ mapTo s.size p k L 0).flatMap MarkR.cells) by
        rw [show mapTo s.size p k L 0 = [] from rfl, List.append_nil]; exact HO3.out)
      clear HB HO HB2 HO2 HO3
      go_loopg [5, 25] C (fun r v i wi => ∃ (j n : Nat) (v5 : Value), j + r = C ∧ i = .int .i64 j ∧ v = v5 ∧ Hid (wi.ownsRow w.heap.size 51 3 v5 n ((kTo s f k ++ mapTo s.size p k L j).flatMap MarkR.cells)) ∧ Hid (Places wi v5 A11 C (I64 L)) ∧ Hid (Below w.heap.size w wi))
      case atStart => exact ⟨0, n, u5, by omega, rfl, rfl, HO4, HPL, HB3⟩
      case round =>
        clear HO4 HPL HB3
        obtain ⟨j, n5, v5, hjm, rfl, hvv, HO5, HPL, HB5⟩ := hrel
        subst hvv
        have HJ := Hid.in_ hjm
        have hjC : j ≤ C := by omega
        clear hjm
        have hn5 : n5 ≤ 100000 := by
          rw [own_n HO5.out, List.length_append]
          have := HKL.out k
          have := mapTo_len s.size p k L j
          omega
        by_cases hjl : j < C
        · obtain ⟨x, hx⟩ := get_lt L j (by rw [HC.out]; exact hjl)
          obtain ⟨q, rfl, hqn⟩ := HMEM.out _ (List.mem_of_getElem? hx)
          have HKT := Hid.in_ (mapTo_succ (n := s.size) (p := p) (k := k) hx)
          obtain ⟨g11, rfl, hg11, hx11, _⟩ := HPL.out.at_ (by omega)
          have cx : wr.cell? ⟨g11, j, none⟩ = some (.int .i64 (q : Int)) := hx11 j _ (by unfold I64; rw [List.getElem?_map, hx]; rfl)
          clear hx hx11
          obtain ⟨bq, hbq⟩ : ∃ bq : Int, ((q : Int) + (p.size : Int)) % (s.size : Int) = bq := ⟨_, rfl⟩
          have HMK2 := Hid.in_ (show mkAt s.size p k (q : Int) = ⟨(k : Int), (q : Int), bq⟩ by unfold mkAt; rw [hbq])
          have hb1 : 0 ≤ bq := by rw [← hbq]; exact Int.emod_nonneg _ (by omega)
          have hb2 : bq < (s.size : Int) := by rw [← hbq]; exact Int.emod_lt_of_pos _ (by omega)
          have hnz : ¬ (s.size : Int) = 0 := by omega
          have hnz2 : ¬ s.size = 0 := by omega
          have hnp : (0 : Int) < s.size := by omega
          go_wp2_with (at_builtin; refine wpList_append_lies _ rfl _ _ 22 rfl w.heap.size 51 i0 (.agg #[.int .i64 0, .int .i64 0, .int .i64 0]) 3 24 Tryz.underlying22 hti hz0 hz1 hz2 rfl (by decide) _ _ _ rfl (HO5.out.alloc _) ⟨wr.heap.size, 0, none⟩ 1 1 [.int .i64 k, .int .i64 q, .int .i64 bq] rfl rfl (cells3m rfl) (fun x hx => by simp at hx; rcases hx with rfl | rfl | rfl <;> rfl) (by decide) (by unfold maxLen; omega) (by omega) (balloc HB5.out _).size _ rfl ?_; intro g6 cp6 w6 ho6 hg6 hat6 hlt6)
          have HB6 := Hid.in_ (bgrown (balloc HB5.out _) (HO5.out.alloc _) (Nat.le_refl _) hg6)
          have HPL6 := Hid.in_ ((HPL.out.alloc (.cells #[.int .i64 k, .int .i64 q, .int .i64 bq] 51)).step (v' := .slice (some ⟨g6, 0, none⟩) (n5 + 1) cp6) hg6 (by
            rcases hat6 with h | h
            · exact .inl h.symm
            · exact .inr ⟨g6, rfl, by omega⟩))
          have HO6 := Hid.in_ (show w6.ownsRow w.heap.size 51 3 (.slice (some ⟨g6, 0, none⟩) (n5 + 1) cp6) (n5 + 1) ((kTo s f k ++ mapTo s.size p k L (j + 1)).flatMap MarkR.cells) by
            rw [HKT.out, ← List.append_assoc, List.flatMap_append, HMK2.out]
            exact ho6)
          clear ho6 hg6 hat6 hbq
          have hj := HJ.out
          go_roundg (gk - 1)
          case measure => omega
          case rel => exact ⟨j + 1, n5 + 1, _, by omega, by go_num, rfl, HO6, HPL6, HB6⟩
        · have hj := HJ.out
          have hk := HK.out
          have HO6 := Hid.in_ (show wr.ownsRow w.heap.size 51 3 u5 n5 ((kTo s f (k + 1)).flatMap MarkR.cells) by
            rw [HKS.out, ← HALL.out j (by rw [HC.out]; omega)]
            exact HO5.out)
          go_wp2
          go_roundg (gO - 1)
          case measure => omega
          case rel => exact ⟨k + 1, n5, u5, by omega, by omega, by go_num, rfl, HO6, HB5⟩
    · have hk := HK.out
      obtain rfl : k = 4 := by omega
      obtain ⟨A, c, hA0, _, _, hA⟩ := own_shape HO.out
      subst hA0
      have hn5 : n ≤ 100000 := by
        rw [own_n HO.out]
        have := HKL.out 4
        omega
      by_cases hn : n = 0
      · subst hn
        have HN := Hid.in_ (fun w => sort_none A c (.func (.func 69) #[] #[]) w)
        have HZ := Hid.in_ (show kTo s f 4 = [] from List.eq_nil_of_length_eq_zero (own_n HO.out).symm)
        clear hA
        go_wp2_with (go_at_call 68; refine (HN.out _).mono ?_; rintro e w1 ⟨rfl, rfl⟩)
        go_ret
        exact ⟨0, _, rfl, by have := HO.out; rw [HRAW.out, HZ.out]; rw [HZ.out] at this; exact this, HB.out⟩
      · obtain ⟨g, rfl, _⟩ := hA (by omega)
        have HS := Hid.in_ (sort_marks wr HO.out hn5)
        clear hA
        go_wp2_with (go_at_call 68; refine HS.out.mono ?_; rintro e w1 ⟨rfl, d', hp, hs, ho1, hb1⟩)
        go_ret
        exact ⟨n, _, rfl, by rw [HRAW.out, ← insM_eq hp hs HAP.out]; exact ho1, HB.out.trans hb1⟩
end Go.Proofs.YtlelgpknkgjaeaaGreatDoor

/- 'gcrMarks' of the program: the marks of the group code. -/
namespace Go.Proofs.YtlelgpknkgjaeaaGreatDoor
open Go.ChangeShapes Go.WideShapes Go.ChangeAt Go.RowKit
set_option linter.unusedSimpArgs false
set_option linter.unusedVariables false
set_option maxRecDepth 4000

theorem fits_mod (s p : ByteArray) (e : Nat) : fitsB s p (e % s.size) = fitsB s p e := by
  have h : sliceL s.data.toList (e % s.size) p.size = sliceL s.data.toList e p.size := by
    apply List.ext_getElem?
    intro i
    by_cases hi : i < p.size
    · rw [sliceL_get hi, sliceL_get hi, Nat.mod_add_mod]
    · rw [List.getElem?_eq_none (by rw [sliceL_len]; omega), List.getElem?_eq_none (by rw [sliceL_len]; omega)]
  unfold fitsB
  rw [h]
theorem syncV_mem {s : ByteArray} (hv : validCells s = true) {r : RunR} (h : r ∈ syncV s) : ∃ i q : Nat, r = ⟨(i : Int), (q : Int)⟩ ∧ i < s.size ∧ q ≤ s.size ∧ 10 ≤ s.size := by
  obtain ⟨v1, v2, v3⟩ := valid_size hv
  unfold syncV at h
  rw [if_pos hv] at h
  split at h
  · split at h
    · rename_i h10
      rw [List.mem_singleton] at h
      exact ⟨0, s.size, h, v1, Nat.le_refl _, h10⟩
    · cases h
  · obtain ⟨j, e, hj, hs⟩ := syncTo_mem h
    unfold syncAt at hs
    rw [Bool.and_eq_true, decide_eq_true_eq] at hs
    have := cnt_le s j
    exact ⟨j, cnt s j, e, hj, this, by omega⟩
def gTo (s : ByteArray) (j : Nat) : List MarkR := ((syncV s).take j).flatMap (gcrAt s)
theorem gTo_succ {s : ByteArray} {j : Nat} {r : RunR} (h : (syncV s)[j]? = some r) : gTo s (j + 1) = gTo s j ++ gcrAt s r := by
  unfold gTo; rw [List.take_add_one, h, List.flatMap_append]; simp
theorem gTo_all {s : ByteArray} {j : Nat} (h : (syncV s).length ≤ j) : gTo s j = gcrI s := by
  unfold gTo gcrI; rw [List.take_of_length_le h]
def oneTo (s : ByteArray) (r : RunR) : Nat → List MarkR
  | 0 => []
  | k + 1 => oneTo s r k ++ (if k = 0 then [] else gcrOne s r k)
theorem oneTo_succ {s : ByteArray} {r : RunR} {k : Nat} (h : 1 ≤ k) : oneTo s r (k + 1) = oneTo s r k ++ gcrOne s r k := by
  show oneTo s r k ++ (if k = 0 then [] else gcrOne s r k) = _
  rw [if_neg (by omega)]
theorem oneTo_all (s : ByteArray) (r : RunR) : oneTo s r 4 = gcrAt s r := by
  rw [oneTo_succ (by decide), oneTo_succ (by decide), oneTo_succ (by decide)]
  rfl
theorem gcrOne_len (s : ByteArray) (r : RunR) (k : Int) : (gcrOne s r k).length ≤ 1 := by
  unfold gcrOne
  split <;> simp
theorem oneTo_len (s : ByteArray) (r : RunR) : ∀ k, (oneTo s r k).length ≤ k
  | 0 => Nat.le_refl _
  | k + 1 => by
    show (oneTo s r k ++ (if k = 0 then [] else gcrOne s r k)).length ≤ _
    rw [List.length_append]
    have := oneTo_len s r k
    have := gcrOne_len s r k
    have hx : ((if k = 0 then [] else gcrOne s r k) : List MarkR).length ≤ 1 := by
      split
      · exact Nat.zero_le _
      · omega
    omega
theorem gTo_len (s : ByteArray) (j : Nat) : (gTo s j).length ≤ j := by
  have h : ∀ L : List RunR, (L.flatMap (gcrAt s)).length ≤ L.length := by
    intro L
    induction L with
    | nil => exact Nat.le_refl _
    | cons r L ih =>
      rw [List.flatMap_cons, List.length_append, List.length_cons]
      rcases gcrAt_len s r with e | ⟨m, e, _⟩ <;> rw [e] <;> simp only [List.length_nil, List.length_singleton] <;> omega
  exact Nat.le_trans (h _) (by rw [List.length_take]; exact Nat.min_le_left _ _)
theorem code_eq {s c : ByteArray} {q : Nat} (hc : c.size = 10) (h : fitsB s c q = true) : sliceS s q 10 = c := by
  have := of_decide_eq_true h
  rw [hc] at this
  unfold sliceS
  rw [this]
theorem code_ne {s c : ByteArray} {q : Nat} (hc : c.size = 10) (h : fitsB s c q = false) : ¬ sliceS s q 10 = c := by
  intro e
  refine absurd h ?_
  have : fitsB s c q = true := by
    refine decide_eq_true ?_
    rw [hc, ← e]
    rfl
  rw [this]; decide

theorem list_neq {a b : ByteArray} (h : a ≠ b) : (a.toList == b.toList) = false := by
  rw [beq_eq_false_iff_ne]
  intro he
  refine h (ByteArray.ext (Array.toList_inj.1 ?_))
  rw [Go.ByteArray.toList_eq, Go.ByteArray.toList_eq] at he
  exact he
theorem code_eqL {s c : ByteArray} {q : Nat} (hc : c.size = 10) (h : fitsB s c q = true) : (c.toList == (sliceS s q 10).toList) = true := by
  rw [code_eq hc h]; simp
theorem code_neL {s c : ByteArray} {q : Nat} (hc : c.size = 10) (h : fitsB s c q = false) : (c.toList == (sliceS s q 10).toList) = false :=
  list_neq (fun e => code_ne hc h e.symm)
theorem Places.below {w w' : World} {v : Value} {A : Option Addr} {C : Nat} {X : List Value} (h : Places w v A C X) (hb : Below w.heap.size w w') : Places w' v A C X := by
  refine ⟨fun hc => ?_⟩
  obtain ⟨g, e, hl, hx, hne⟩ := h.at_ hc
  exact ⟨g, e, Nat.lt_of_lt_of_le hl hb.size, hx.step hb, hne⟩
theorem fresh2 {t : TypeId} (w : World) (a0 a1 : Value) : Box (w.alloc (.cells #[a0, a1] t)) w.heap.size [a0, a1] := fun j u hu => by
  have h := World.ownsRow_lit (e := t) w #[a0, a1] 1 (base := w.heap.size) (size := 2) (Nat.le_refl _) (by decide) rfl
  have := h.cells (g := w.heap.size) rfl j u hu
  rwa [addr_add, Nat.zero_add] at this
theorem Places.fresh {w : World} {v : Value} {a0 a1 : Value} {t : TypeId} {b n : Nat} {e : TypeId} {z : Nat} {xs : List Value} (h : w.ownsRow b e z v n xs) : Places (w.alloc (.cells #[a0, a1] t)) v (some ⟨w.heap.size, 0, none⟩) 1 [a0, a1] :=
  ⟨fun _ => ⟨w.heap.size, rfl, by simp, fresh2 w a0 a1, fun e => by have := (h.lt _ e).2; omega⟩⟩
theorem cells3d {w : World} {g : Nat} {a0 a1 a2 : Value} {t : TypeId} (hg : g = w.heap.size) : ∀ j u, ([a0, a1, a2] : List Value)[j]? = some u → ((w.alloc (.cells #[a0, a1, a2] t)).drewN 1).cell? ((⟨g, 0, none⟩ : Addr).add j) = some u := fun j u hu => cells3m hg j u hu
set_option maxHeartbeats 4000000 in
theorem impl_gcrMarks (s : ByteArray) (w : World) (hv : validCells s = true) (hT : Tab w) :
    Calls Tryz.prog 67 #[.string s] w fun e w' => ∃ n v, e = .returned v ∧ w'.ownsRow w.heap.size 51 3 v n ((gcrI s).flatMap MarkR.cells) ∧ Below w.heap.size w w' := by
  obtain ⟨i0, hti, hz0, hz1, hz2⟩ := info_parts Tryz.info_Mark
  obtain ⟨v1, v2, v3⟩ := valid_size hv
  have HMK := Hid.in_ (fun (k : Nat) (h1 : 1 ≤ k) (h2 : k ≤ 3) w hT => impl_mark 3 k rfl h1 h2 w hT)
  have HSY := Hid.in_ (fun w => impl_syncRuns s w hv)
  have HSL := Hid.in_ (fun q w (h1 : q < s.size) (h2 : 10 ≤ s.size) => impl_slice s q 10 w (by omega) h1 h2)
  have HSM := Hid.in_ (fun r (h : r ∈ syncV s) => syncV_mem hv h)
  have HTB := Hid.in_ hT
  have HVL := Hid.in_ (syncV_len s)
  obtain ⟨D, hD⟩ : ∃ D, (syncV s).length = D := ⟨_, rfl⟩
  rw [hD] at HSY HVL
  have HD := Hid.in_ hD
  clear hv v3 hT hD
  go_enter Tryz.func67, Tryz.ntmps67
  go_wp2_with (go_at_call 101; refine (HSY.out _).mono ?_; rintro e w1 ⟨v13, rfl, ho13, hb13⟩; obtain ⟨A13, c13, rfl, hl13, hn13, hA13⟩ := own_shape ho13)
  have HPL0 := Hid.in_ (show Places w1 (.slice none 0 0) A13 D ((syncV s).flatMap RunR.cells) from ⟨fun hc => by
    obtain ⟨g, rfl, _, h2, h3, _⟩ := hA13 hc
    exact ⟨g, rfl, h2, h3, fun e => by cases e⟩⟩)
  have HB1 := Hid.in_ hb13
  clear ho13 hb13 hA13 hl13
  go_loopg [4, 15] D (fun r v i wr => ∃ (j n : Nat) (v5 : Value), j + r = D ∧ i = .int .i64 j ∧ v = v5 ∧ Hid (wr.ownsRow w.heap.size 51 3 v5 n ((gTo s j).flatMap MarkR.cells)) ∧ Hid (Places wr v5 A13 D ((syncV s).flatMap RunR.cells)) ∧ Hid (Below w.heap.size w wr))
  case atStart => exact ⟨0, 0, _, by omega, rfl, rfl, World.ownsRow_nil _ _ _ _, HPL0, HB1⟩
  case round =>
    obtain ⟨j, n, v5, hjm, rfl, hvv, HO, HPL, HB⟩ := hrel
    subst hvv
    have HJ := Hid.in_ hjm
    have hvl := HVL.out
    have hjD : j ≤ D := by omega
    clear hjm
    by_cases hlt : j < D
    · obtain ⟨r, hr⟩ := get_lt (syncV s) j (by rw [HD.out]; exact hlt)
      have HG := Hid.in_ (gTo_succ hr)
      obtain ⟨i, q, rfl, his, hqs, h10⟩ := HSM.out _ (List.mem_of_getElem? hr)
      obtain ⟨g7, rfl, hg7, hx7, hne7⟩ := HPL.out.at_ (by omega)
      have hbx := Box.elem RunR.len hx7 hr
      have cx : wr.cell? ⟨g7, j * 2, none⟩ = some (.int .i64 (i : Int)) := by have := hbx 0 _ rfl; simpa using this
      have cy : wr.cell? ⟨g7, j * 2 + 1, none⟩ = some (.int .i64 (q : Int)) := hbx 1 _ rfl
      obtain ⟨e, he⟩ : ∃ e, i + q = e := ⟨_, rfl⟩
      obtain ⟨o, ho⟩ : ∃ o, e % s.size = o := ⟨_, rfl⟩
      have hos : o < s.size := by rw [← ho]; exact Nat.mod_lt _ v1
      have hm : ((i : Int) + (q : Int)) % (s.size : Int) = (o : Int) := by rw [← ho, ← he]; simp
      have hnz : ¬ (s.size : Int) = 0 := by omega
      have hnz2 : ¬ s.size = 0 := by omega
      have hnp : (0 : Int) < s.size := by omega
      have HHIT := Hid.in_ (show ∀ k : Nat, hitG s ⟨(i : Int), (q : Int)⟩ k = fitsB s (codeG k) o from fun k => by
        unfold hitG
        rw [← ho, fits_mod, show endG ⟨(i : Int), (q : Int)⟩ = e by unfold endG; show ((i : Int) + (q : Int)).toNat = e; omega])
      have HEND := Hid.in_ (show ((endG ⟨(i : Int), (q : Int)⟩ : Nat) + 10 : Int) % (s.size : Int) = ((o : Int) + 10) % (s.size : Int) by
        rw [show endG ⟨(i : Int), (q : Int)⟩ = e by unfold endG; show ((i : Int) + (q : Int)).toNat = e; omega, ← ho, Int.natCast_emod, Int.emod_add_emod])
      clear hr hbx hx7 he ho
      have HSL1 := HSL.out o (wr.alloc (.cells #[.int .i64 (i : Int), .int .i64 (q : Int)] 85)) hos h10
      have hYE := fun c => code_eqL (s := s) (c := c) (q := o)
      have hYN := fun c => code_neL (s := s) (c := c) (q := o)
      obtain ⟨y, hy⟩ : ∃ y, sliceS s o 10 = y := ⟨_, rfl⟩
      rw [hy] at HSL1 hYE hYN
      have HYE := Hid.in_ hYE
      have HYN := Hid.in_ hYN
      have HSL2 := Hid.in_ HSL1
      clear hy hYE hYN HSL1
      go_wp2_with fail
      rw [hm]
      refine HSL2.out.mono ?_
      rintro e w2 ⟨rfl, hb2⟩
      have HB2 := Hid.in_ ((balloc HB.out (.cells #[.int .i64 (i : Int), .int .i64 (q : Int)] 85)).trans (hb2.mono (balloc HB.out _).size))
      have HPB := Hid.in_ ((Places.fresh (t := 85) (a0 := .int .i64 (i : Int)) (a1 := .int .i64 (q : Int)) HO.out).below hb2)
      have HPL2 := Hid.in_ ((HPL.out.alloc (.cells #[.int .i64 (i : Int), .int .i64 (q : Int)] 85)).below hb2)
      have HO2 := Hid.in_ (show w2.ownsRow w.heap.size 51 3 u4 n ((gTo s j ++ oneTo s ⟨(i : Int), (q : Int)⟩ 1).flatMap MarkR.cells) by
        rw [show oneTo s ⟨(i : Int), (q : Int)⟩ 1 = [] from rfl, List.append_nil]
        exact own_below (HO.out.alloc _) hb2 (Nat.le_refl _))
      clear hb2 HB HPL HO cx cy
      go_wp2_with fail
      obtain ⟨gO, rfl⟩ : ∃ g, g = gk := ⟨_, rfl⟩
      obtain ⟨wo, rfl⟩ : ∃ wo : World, wo = wr := ⟨_, rfl⟩
      go_loopg [4, 9] 3 (fun r v x wi => ∃ (k n : Nat) (v5 : Value), 1 ≤ k ∧ k + r = 4 ∧ x = .int .i64 k ∧ v = v5 ∧ Hid (wi.ownsRow w.heap.size 51 3 v5 n ((gTo s j ++ oneTo s ⟨(i : Int), (q : Int)⟩ k).flatMap MarkR.cells)) ∧ Hid (Places wi v5 (some ⟨g7, 0, none⟩) D ((syncV s).flatMap RunR.cells)) ∧ Hid (Places wi v5 (some ⟨wo.heap.size, 0, none⟩) 1 [.int .i64 (i : Int), .int .i64 (q : Int)]) ∧ Hid (Below w.heap.size w wi))
      case atStart => exact ⟨1, n, u4, by omega, by omega, by go_num, rfl, HO2, HPL2, HPB, HB2⟩
      case round =>
        clear HO2 HPL2 HPB HB2
        obtain ⟨k, n5, v5, hk1, hkm, rfl, hvv, HO5, HPL, HPB, HB5⟩ := hrel
        subst hvv
        have HK := Hid.in_ hkm
        have hk4 : k ≤ 4 := by omega
        clear hkm
        have hn5 : n5 ≤ 100000 := by
          rw [own_n HO5.out, List.length_append]
          have := gTo_len s j
          have := oneTo_len s ⟨(i : Int), (q : Int)⟩ k
          omega
        by_cases hlt2 : k ≤ 3
        · have hp20 := pat3_size hk1 hlt2
          have hex := code_pat hk1 hlt2
          have HM := Hid.in_ (HMK.out k hk1 hlt2)
          have HONE := Hid.in_ (oneTo_succ (s := s) (r := ⟨(i : Int), (q : Int)⟩) hk1)
          have hhit := HHIT.out k
          obtain ⟨p, hp⟩ : ∃ p, patM 3 k = p := ⟨_, rfl⟩
          obtain ⟨c, hc⟩ : ∃ c, codeG k = c := ⟨_, rfl⟩
          rw [hp, hc] at hp20 hex
          rw [hp] at HM
          rw [hc] at hhit
          obtain ⟨hps, hcs⟩ := hp20
          rw [hps] at hex
          have HC10 := Hid.in_ hcs
          clear hp hc hcs
          go_wp2_with fail
          refine (HM.out _ (HTB.out.step HB5.out)).mono ?_
          rintro e w3 ⟨rfl, hb3⟩
          have HB6 := Hid.in_ (HB5.out.trans (hb3.mono HB5.out.size))
          have HO6 := Hid.in_ (own_below HO5.out hb3 (Nat.le_refl _))
          have HPL6 := Hid.in_ (HPL.out.below hb3)
          have HPB6 := Hid.in_ (HPB.out.below hb3)
          clear hb3 HB5 HO5 HPL HPB
          cases hfit : fitsB s c o
          · have hne := HYN.out c HC10.out hfit
            have HN := Hid.in_ (show oneTo s ⟨(i : Int), (q : Int)⟩ (k + 1) = oneTo s ⟨(i : Int), (q : Int)⟩ k by rw [HONE.out, gcrOne_no (by rw [hhit]; exact hfit), List.append_nil])
            clear hhit hfit
            have hk := HK.out
            go_wp2
            go_roundg (gk - 1)
            case measure => omega
            case rel => exact ⟨k + 1, n5, u4, by omega, by omega, by go_num, rfl, by rw [HN.out]; exact HO6, HPL6, HPB6, HB6⟩
          · have hse := HYE.out c HC10.out hfit
            obtain ⟨bq, hbq⟩ : ∃ bq : Int, ((o : Int) + 10) % (s.size : Int) = bq := ⟨_, rfl⟩
            have HN := Hid.in_ (show oneTo s ⟨(i : Int), (q : Int)⟩ (k + 1) = oneTo s ⟨(i : Int), (q : Int)⟩ k ++ [⟨(k : Int), (i : Int), bq⟩] by
              rw [HONE.out, gcrOne_yes (by rw [hhit]; exact hfit), HEND.out, hbq])
            clear hhit hfit
            have hb1 : 0 ≤ bq := by rw [← hbq]; exact Int.emod_nonneg _ (by omega)
            have hb2 : bq < (s.size : Int) := by rw [← hbq]; exact Int.emod_lt_of_pos _ (by omega)
            have htm : ((o : Int) + 10).tmod (s.size : Int) = bq := by rw [Int.tmod_eq_emod_of_nonneg (by omega)]; exact hbq
            have hwr : IntKind.i64.wrap ((o : Int) + 10) = (o : Int) + 10 := by simp [IntKind.wrap, IntKind.bits, IntKind.signed]; omega
            have hwb : IntKind.i64.wrap bq = bq := by simp [IntKind.wrap, IntKind.bits, IntKind.signed]; omega
            obtain ⟨gB, hgB, hlB, hxB, _⟩ := HPB6.out.at_ (by decide)
            injection hgB with hgB
            injection hgB with hgB
            subst hgB
            have cB : w3.cell? ⟨wo.heap.size, 0, none⟩ = some (.int .i64 (i : Int)) := hxB 0 _ rfl
            clear hbq hxB
            go_wp2_with fail
            go_region_law (refine step_append_lies _ rfl (.tmp 38) (.tmp 47) 22 rfl w.heap.size 51 i0 (.agg #[.int .i64 0, .int .i64 0, .int .i64 0]) 3 24 Tryz.underlying22 hti hz0 hz1 hz2 rfl (by decide) _ _ _ (by simp [Act.eval, Act.put]) (own_drewN (HO6.out.alloc _) 1) ⟨w3.heap.size, 0, none⟩ 1 1 [.int .i64 k, .int .i64 i, .int .i64 bq] (by simp [Act.eval, Act.put]) rfl (cells3d rfl) (fun x hx => by simp at hx; rcases hx with rfl | rfl | rfl <;> rfl) (by decide) (by unfold maxLen; omega) (by omega) (balloc HB6.out _).size _ rfl ?_; intro g6 cp6 w6 ho6 hg6 hat6 hlt6)
            all_goals
              have HB8 := Hid.in_ (bgrown (balloc HB6.out _).drew (own_drewN (HO6.out.alloc _) 1) (Nat.le_refl _) hg6)
              have hat : (Value.slice (some ⟨g6, 0, none⟩) (n5 + 1) cp6).ownBlock = u4.ownBlock ∨ ∃ g, (Value.slice (some ⟨g6, 0, none⟩) (n5 + 1) cp6).ownBlock = some g ∧ w3.heap.size < g := by
                rcases hat6 with h | h
                · exact .inl h.symm
                · refine .inr ⟨g6, rfl, ?_⟩
                  rw [h]
                  simp [World.drewN, World.drew]
              have HPL8 := Hid.in_ (((HPL6.out.alloc (.cells #[.int .i64 k, .int .i64 i, .int .i64 bq] 51)).below (Below.refl _ _).drew).step (v' := .slice (some ⟨g6, 0, none⟩) (n5 + 1) cp6) hg6 (hat.imp id (fun ⟨g, a, b⟩ => ⟨g, a, by simp [World.drewN, World.drew]; omega⟩)))
              have HPB8 := Hid.in_ (((HPB6.out.alloc (.cells #[.int .i64 k, .int .i64 i, .int .i64 bq] 51)).below (Below.refl _ _).drew).step (v' := .slice (some ⟨g6, 0, none⟩) (n5 + 1) cp6) hg6 (hat.imp id (fun ⟨g, a, b⟩ => ⟨g, a, by simp [World.drewN, World.drew]; omega⟩)))
              have HO8 := Hid.in_ (show w6.ownsRow w.heap.size 51 3 (.slice (some ⟨g6, 0, none⟩) (n5 + 1) cp6) (n5 + 1) ((gTo s j ++ oneTo s ⟨(i : Int), (q : Int)⟩ (k + 1)).flatMap MarkR.cells) by
                rw [HN.out, ← List.append_assoc, List.flatMap_append]
                exact ho6)
              clear ho6 hg6 hat6 hat
              have hk := HK.out
              go_wp2
              go_roundg (gk - 1)
              case measure => omega
              case rel => exact ⟨k + 1, n5 + 1, _, by omega, by omega, by go_num, rfl, HO8, HPL8, HPB8, HB8⟩
        · have hk := HK.out
          obtain rfl : k = 4 := by omega
          have hj := HJ.out
          have HO6 := Hid.in_ (show wr.ownsRow w.heap.size 51 3 u4 n5 ((gTo s (j + 1)).flatMap MarkR.cells) by
            rw [HG.out, ← oneTo_all]
            exact HO5.out)
          go_wp2
          go_roundg (gO - 1)
          case measure => omega
          case rel => exact ⟨j + 1, n5, u4, by omega, by go_num, rfl, HO6, HPL, HB5⟩
    · have hj := HJ.out
      obtain rfl : j = D := by omega
      go_wp2
      go_ret
      exact ⟨n, _, rfl, by rw [← gTo_all (j := j) (by rw [HD.out]; omega)]; exact HO.out, HB.out⟩
end Go.Proofs.YtlelgpknkgjaeaaGreatDoor

/- 'FindMarks' of the reference. -/
namespace Go.Proofs.YtlelgpknkgjaeaaGreatDoor
open Go.ChangeShapes Go.WideShapes Go.ChangeAt Go.RowKit
set_option linter.unusedSimpArgs false
set_option linter.unusedVariables false
set_option maxRecDepth 4000

set_option maxHeartbeats 1000000 in
theorem spec_FindMarks (s : ByteArray) (f : Int) (w : World) (hs : s.size ≤ 1048576) :
    Calls Tryz.prog 7 #[.string s, .int .i64 f] w fun e w' => ∃ v, e = .returned (.tuple #[v, .int .i64 (fmCode s f)]) ∧ w'.ownsRow w.heap.size 51 3 v (fmVal s f).length ((fmVal s f).flatMap MarkR.cells) ∧ Below w.heap.size w w' := by
  have HC := Hid.in_ (fun w => spec_ValidCells s w (by omega))
  have HF := Hid.in_ (fun w => spec_l07Format f w)
  cases hv : validCells s
  · obtain ⟨e1, e2⟩ := fm_bad (s := s) (f := f) (by unfold fmOk; rw [hv]; rfl)
    have HE := Hid.in_ e1
    have HE2 := Hid.in_ e2
    rw [hv] at HC
    clear e1 e2 hv
    go_enter Tryz.func7, Tryz.ntmps7
    go_wp2_with (first | (go_at_call 33; refine (HC.out _).mono ?_; rintro e w0 ⟨rfl, rfl⟩) | (go_at_call 34; refine (HF.out _).mono ?_; rintro e w0 ⟨rfl, rfl⟩))
    go_ret2
    rw [HE.out, HE2.out]
    exact ⟨_, rfl, World.ownsRow_nil _ _ _ _, Below.refl _ _⟩
  · cases hf : inB f 1 3
    · obtain ⟨e1, e2⟩ := fm_bad (s := s) (f := f) (by unfold fmOk; rw [hv, hf]; rfl)
      have HE := Hid.in_ e1
      have HE2 := Hid.in_ e2
      rw [hv] at HC
      rw [hf] at HF
      clear e1 e2 hv hf
      go_enter Tryz.func7, Tryz.ntmps7
      go_wp2_with (first | (go_at_call 33; refine (HC.out _).mono ?_; rintro e w0 ⟨rfl, rfl⟩) | (go_at_call 34; refine (HF.out _).mono ?_; rintro e w0 ⟨rfl, rfl⟩))
      go_ret2
      rw [HE.out, HE2.out]
      exact ⟨_, rfl, World.ownsRow_nil _ _ _ _, Below.refl _ _⟩
    · have HM := Hid.in_ (fun w => spec_l07Marks s f w hv hf)
      have HOK := Hid.in_ (show fmOk s f = true by unfold fmOk; rw [hv, hf]; rfl)
      rw [hv] at HC
      rw [hf] at HF
      clear hv hf
      go_enter Tryz.func7, Tryz.ntmps7
      go_wp2_with (first | (go_at_call 33; refine (HC.out _).mono ?_; rintro e w0 ⟨rfl, rfl⟩) | (go_at_call 34; refine (HF.out _).mono ?_; rintro e w0 ⟨rfl, rfl⟩))
      refine (HM.out _).mono ?_
      rintro e w1 ⟨n, g, cap, rfl, ho1, hb1⟩
      have hn := own_n ho1
      have HO := Hid.in_ ho1
      have HB := Hid.in_ (show Below w.heap.size w w1 from hb1)
      clear ho1 hb1
      by_cases hl : n ≤ 64
      · obtain ⟨e1, e2⟩ := fm_good HOK.out (by rw [← hn]; exact hl)
        have HE := Hid.in_ e1
        have HE2 := Hid.in_ e2
        have HN := Hid.in_ hn
        clear e1 e2 hn
        go_wp2
        go_ret2
        rw [HE.out, HE2.out, ← HN.out]
        exact ⟨_, rfl, HO.out, HB.out⟩
      · obtain ⟨e1, e2⟩ := fm_full HOK.out (by rw [← hn]; exact hl)
        have HE := Hid.in_ e1
        have HE2 := Hid.in_ e2
        clear e1 e2 hn
        go_wp2
        go_ret2
        rw [HE.out, HE2.out]
        exact ⟨_, rfl, World.ownsRow_nil _ _ _ _, HB.out⟩
end Go.Proofs.YtlelgpknkgjaeaaGreatDoor

/- 'findMarks', 'FindMarks' of the program. -/
namespace Go.Proofs.YtlelgpknkgjaeaaGreatDoor
open Go.ChangeShapes Go.WideShapes Go.ChangeAt Go.RowKit
set_option linter.unusedSimpArgs false
set_option linter.unusedVariables false
set_option maxRecDepth 4000

set_option maxHeartbeats 1000000 in
theorem impl_findMarks (s : ByteArray) (f : Int) (w : World) (hv : validCells s = true) (hf : inB f 1 3 = true) (hT : Tab w) :
    Calls Tryz.prog 38 #[.string s, .int .i64 f] w fun e w' => ∃ n v, e = .returned v ∧ w'.ownsRow w.heap.size 51 3 v n ((marksV s f).flatMap MarkR.cells) ∧ Below w.heap.size w w' := by
  by_cases hf3 : f = 3
  · subst hf3
    have HG := Hid.in_ (impl_gcrMarks s w hv hT)
    have HE := Hid.in_ (show gcrI s = marksV s 3 by rw [gcr_eq hv]; rfl)
    clear hv hf hT
    go_enter Tryz.func38, Tryz.ntmps38
    go_wp2_with (go_at_call 67; refine HG.out.mono ?_; rintro e w1 ⟨n, v, rfl, ho, hb⟩)
    go_ret
    exact ⟨n, v, rfl, by rw [← HE.out]; exact ho, hb⟩
  · exact impl_findMarks_f s f w hv hf hf3 hT
set_option maxHeartbeats 1000000 in
theorem impl_FindMarks (s : ByteArray) (f : Int) (w : World) (hs : s.size ≤ 1048576) (hT : Tab w) :
    Calls Tryz.prog 8 #[.string s, .int .i64 f] w fun e w' => ∃ v, e = .returned (.tuple #[v, .int .i64 (fmCode s f)]) ∧ w'.ownsRow w.heap.size 51 3 v (fmVal s f).length ((fmVal s f).flatMap MarkR.cells) ∧ Below w.heap.size w w' := by
  have HC := Hid.in_ (fun w => impl_ValidCells s w (by omega))
  have HF := Hid.in_ (fun w => impl_isFormat f w)
  have HTB := Hid.in_ hT
  clear hT
  cases hv : validCells s
  · obtain ⟨e1, e2⟩ := fm_bad (s := s) (f := f) (by unfold fmOk; rw [hv]; rfl)
    have HE := Hid.in_ e1
    have HE2 := Hid.in_ e2
    rw [hv] at HC
    clear e1 e2 hv
    go_enter Tryz.func8, Tryz.ntmps8
    go_wp2_with (first | (go_at_call 36; refine (HC.out _).mono ?_; rintro e w0 ⟨rfl, hb0⟩; have HB0 := Hid.in_ hb0; clear hb0) | (go_at_call 37; refine (HF.out _).mono ?_; rintro e w3 ⟨rfl, rfl⟩))
    go_ret2
    rw [HE.out, HE2.out]
    exact ⟨_, rfl, World.ownsRow_nil _ _ _ _, HB0.out⟩
  · cases hf : inB f 1 3
    · obtain ⟨e1, e2⟩ := fm_bad (s := s) (f := f) (by unfold fmOk; rw [hv, hf]; rfl)
      have HE := Hid.in_ e1
      have HE2 := Hid.in_ e2
      rw [hv] at HC
      rw [hf] at HF
      clear e1 e2 hv hf
      go_enter Tryz.func8, Tryz.ntmps8
      go_wp2_with (first | (go_at_call 36; refine (HC.out _).mono ?_; rintro e w0 ⟨rfl, hb0⟩; have HB0 := Hid.in_ hb0; clear hb0) | (go_at_call 37; refine (HF.out _).mono ?_; rintro e w3 ⟨rfl, rfl⟩))
      go_ret2
      rw [HE.out, HE2.out]
      exact ⟨_, rfl, World.ownsRow_nil _ _ _ _, HB0.out⟩
    · have HM := Hid.in_ (fun w hT => impl_findMarks s f w hv hf hT)
      have HOK := Hid.in_ (show fmOk s f = true by unfold fmOk; rw [hv, hf]; rfl)
      have HLN := Hid.in_ (marksV_len (f := f) hv)
      rw [hv] at HC
      rw [hf] at HF
      clear hv hf
      go_enter Tryz.func8, Tryz.ntmps8
      go_wp2_with (first | (go_at_call 36; refine (HC.out _).mono ?_; rintro e w0 ⟨rfl, hb0⟩; have HB0 := Hid.in_ hb0; clear hb0) | (go_at_call 37; refine (HF.out _).mono ?_; rintro e w3 ⟨rfl, rfl⟩))
      refine (HM.out _ (HTB.out.step HB0.out)).mono ?_
      rintro e w1 ⟨n, v, rfl, ho1, hb1⟩
      obtain ⟨A, c, hv0, hlv, hnv, hAv⟩ := own_shape ho1
      subst hv0
      have hn := own_n ho1
      have HO := Hid.in_ (own_base ho1 HB0.out.size)
      have HB := Hid.in_ (HB0.out.trans (hb1.mono HB0.out.size))
      have hnb : n ≤ 24000 := by rw [hn]; exact HLN.out
      clear ho1 hb1 hlv hAv
      by_cases hl : n ≤ 64
      · obtain ⟨e1, e2⟩ := fm_good HOK.out (by rw [← hn]; exact hl)
        have HE := Hid.in_ e1
        have HE2 := Hid.in_ e2
        have HN := Hid.in_ hn
        clear e1 e2 hn
        go_wp2
        go_ret2
        rw [HE.out, HE2.out, ← HN.out]
        exact ⟨_, rfl, HO.out, HB.out⟩
      · obtain ⟨e1, e2⟩ := fm_full HOK.out (by rw [← hn]; exact hl)
        have HE := Hid.in_ e1
        have HE2 := Hid.in_ e2
        clear e1 e2 hn
        go_wp2
        go_ret2
        rw [HE.out, HE2.out]
        exact ⟨_, rfl, World.ownsRow_nil _ _ _ _, HB.out⟩
end Go.Proofs.YtlelgpknkgjaeaaGreatDoor

/- For laws whose rows list package-level variables: the law's row behind its walk, and what a listed table gives the walk. No condition. -/
namespace Go.Proofs.YtlelgpknkgjaeaaGreatDoor
open Go.ChangeShapes Go.WideShapes Go.ChangeAt Go.RowKit
set_option linter.unusedVariables false

section
variable {H : Type} {enc : TypeId × Value → H} {P : Program} {W W' : World}

theorem var_same {n : String} {cs : Array Value} (hb : Below W.heap.size W W') (h : W.var? P n = some cs) : W'.var? P n = some cs := by
  unfold World.var? at h ⊢
  cases hg : P.globalNamed n with
  | none => rw [hg] at h; cases h
  | some g =>
    rw [hg] at h
    simp only [Option.bind_some] at h ⊢
    have hlt : g < W.heap.size := by
      rcases Nat.lt_or_ge g W.heap.size with h' | h'
      · exact h'
      · rw [Array.getElem?_eq_none h'] at h; cases h
    rw [hb.block g hlt]
    exact h

def varOk (P : Program) (n : String) : Bool := match P.globalNamed n with
  | some g => match (P.globals[g]?).map (·.type) with
    | some t => P.readableRec t && decide (t < P.types.size)
    | none => false
  | none => false

theorem trodVars_stays (hl : laidOutB P = true) (hb : Below W.heap.size W W') : ∀ {ns : List String} {gs : List (DataW H)} {ps : List MemPlace},
    (ns.all (varOk P)) = true → (∀ x ∈ ps, x.block < W.heap.size) → DataW.TrodVars enc P W (fun _ => true) ns gs ps → DataW.TrodVars enc P W' (fun b => decide (b < W.heap.size)) ns gs ps
  | [], [], ps, _, _, h => h
  | [], _ :: _, ps, _, _, h => by cases h
  | _ :: _, [], ps, _, _, h => by cases h
  | n :: ns, d :: gs, ps, hn, hlt, h => by
    obtain ⟨g, t, cs, fuel, p, q, hg, ht, hv, hd, hr, rfl⟩ := h
    simp only [List.all_cons, Bool.and_eq_true] at hn
    have hok := hn.1
    unfold varOk at hok
    rw [hg] at hok
    simp only [ht, Bool.and_eq_true, decide_eq_true_eq] at hok
    refine ⟨g, t, cs, fuel, p, q, hg, ht, var_same hb hv, ?_, trodVars_stays hl hb hn.2 (fun x hx => hlt x (by simp [hx])) hr, rfl⟩
    exact DataW.trod_stays (kids_book hl hok.1) (book_sized hok.1) (fun h => by cases h) ⟨hok.2, book_self t⟩ hd (fun x hx => hb.same (hlt x (by simp [hx]))) (fun x hx => by simpa using hlt x (by simp [hx]))

/-- The law's row, behind its walk: with listed variables. -/
theorem law_post_vars {f : Func} {s : ChangeSpec} {tb : TypeId} {args : Array Value} {ds gs : List (DataW H)} {before : List MemPlace} (hl : laidOutB P = true)
    (hts : (f.params.toList.all fun t => P.readableRec t && decide (t < P.types.size)) = true) (hvs : (s.vars.all (varOk P)) = true) (hr : f.resultTypes = #[tb]) (htb : P.underlying tb = some .bool)
    (hs : s.fn H (ds ++ gs) = { results := [.lit (.bool true)], args := ds, vars := gs })
    (hW : DataW.Whole enc P f.params.toList s.vars false W args.toList ds gs before) (hb : Below W.heap.size W W') : s.post enc P f false true false false W args (.bool true) W' := by
  have hlt := hW.lt
  have hW' := hW
  obtain ⟨p, q, hA, hV, rfl, hfz, hnd⟩ := hW'
  refine ⟨ds, gs, _, [], p, q, hW, ?_, ?_, ?_, hb.frame _, fun h => by cases h⟩
  · rw [hs, hr]
    exact trodAll_mk1 (shut_bool htb _)
  · rw [hs]
    exact trodAll_stays hl hb hts (fun x hx => hlt x (List.mem_append.2 (.inl hx))) hA
  · rw [hs]
    exact trodVars_stays hl hb hvs (fun x hx => hlt x (List.mem_append.2 (.inr hx))) hV
end

/-- A listed variable reads as it is listed. -/
theorem laid_at {P : Program} {W : World} : ∀ {l : List (String × DataW Unit)} {ps : List MemPlace}, DataW.LaidVars P W l ps → ∀ {n : String} {d : DataW Unit}, (n, d) ∈ l →
    ∃ g t cs fuel p, P.globalNamed n = some g ∧ (P.globals[g]?).map (·.type) = some t ∧ W.var? P n = some cs ∧ DataW.trod (fun _ => ()) P W 0 (fun _ => true) false fuel t cs.toList = some (d, p) ∧ ∀ x ∈ MemPlace.row ⟨g, 0, none⟩ cs.size, x ∈ ps
  | [], _, _, n, d, h => by cases h
  | (n', d') :: l, ps, hl, n, d, h => by
    obtain ⟨g, t, cs, fuel, p, q, hg, ht, hv, hd, hr, rfl⟩ := hl
    rcases List.mem_cons.1 h with h | h
    · injection h with h1 h2
      subst h1
      subst h2
      exact ⟨g, t, cs, fuel, p, hg, ht, hv, hd, fun x hx => by simp [hx]⟩
    · obtain ⟨g2, t2, cs2, fuel2, p2, a1, a2, a3, a4, a5⟩ := laid_at hr h
      exact ⟨g2, t2, cs2, fuel2, p2, a1, a2, a3, a4, fun x hx => by simp [a5 x hx]⟩

/-- An array of strings that reads as the table holds the table's strings, cell for cell. -/
theorem cells_of_strs {P : Program} {w : World} {base : Nat} {sp : Nat → Bool} {held : Bool} {fuel : Nat} {t e : TypeId} {n : Nat} {cs : List Value} {zs : List (List UInt8)} {p : List MemPlace}
    (ht : P.underlying t = some (.array n e)) (he : P.underlying e = some .string) (hce : P.cellsOf e = 1) (hct : P.cellsOf t = n)
    (h : DataW.trod (fun _ => ()) P w base sp held fuel t cs = some (.agg (zs.map fun z => (.lit (.string z) : DataW Unit)), p)) : cs = zs.map fun z => Value.string ⟨z.toArray⟩ := by
  cases fuel with
  | zero => simp [DataW.trod] at h
  | succ fuel =>
    simp only [DataW.trod, ht, hce, hct, Nat.mul_one] at h
    split at h
    · rename_i hl
      obtain ⟨xs, hm, hx⟩ := Option.map_eq_some_iff.1 h
      have hxs : xs.map (·.1) = zs.map fun z => (DataW.lit (.string z) : DataW Unit) := by
        have := congrArg Prod.fst hx
        simpa using this
      have hxl : xs.length = n := by simpa using Lib.mapM_length hm
      have hzl : zs.length = n := by
        have := congrArg List.length hxs
        simp at this
        omega
      apply List.ext_getElem?
      intro i
      by_cases hi : i < n
      · obtain ⟨b, hb, hf⟩ := Lib.mapM_at hm i i (by simp [hi])
        obtain ⟨z, hc, rfl, _⟩ := DataW.trod_string he hf
        have h1 : cs[i]? = some (.string z) := by
          have := congrArg (·[0]?) hc
          simpa [List.getElem?_take, List.getElem?_drop] using this
        have h2 : (xs.map (·.1))[i]? = some (DataW.lit (.string z.data.toList) : DataW Unit) := by simp [hb]
        rw [hxs] at h2
        simp only [List.getElem?_map, Option.map_eq_some_iff, DataW.lit.injEq, Lit.string.injEq] at h2
        obtain ⟨z', hz', hz2⟩ := h2
        rw [h1, List.getElem?_map, hz', hz2]
        rfl
      · rw [List.getElem?_eq_none (by omega), List.getElem?_eq_none (by simp; omega)]
    · cases h

/-- A table of strings that a row lists: the variable's whole block. -/
theorem strs_laid {P : Program} {W : World} {l : List (String × DataW Unit)} (y : String × DataW Unit) {zs : List (List UInt8)} {g : Nat} {t e : TypeId} {n : Nat}
    (hg : P.globalNamed y.1 = some g) (hty : (P.globals[g]?).map (·.type) = some t) (ht : P.underlying t = some (.array n e)) (he : P.underlying e = some .string) (hce : P.cellsOf e = 1) (hct : P.cellsOf t = n)
    (hy : y.2 = DataW.agg (zs.map fun z => (.lit (.string z) : DataW Unit))) (hm : y ∈ l.filter fun x => x.2.handleName?.isNone) (hL : laidMetH P l W) (hz : 0 < zs.length) :
    ∃ t', W.heap[g]? = some (.cells (zs.map fun z => Value.string ⟨z.toArray⟩).toArray t' (0, 0)) := by
  obtain ⟨name, d⟩ := y
  simp only at hy hg
  subst hy
  obtain ⟨ps, hv, _, hrow⟩ := (laidMetH_iff.1 hL).1
  obtain ⟨g2, t2, cs, fuel, p, a1, a2, a3, a4, a5⟩ := laid_at hv hm
  obtain rfl := Option.some.inj (hg.symm.trans a1)
  obtain rfl := Option.some.inj (hty.symm.trans a2)
  have hcs := cells_of_strs ht he hce hct a4
  have hsz : 0 < cs.size := by
    have := congrArg List.length hcs
    simp at this
    omega
  obtain ⟨⟨c, t', hc⟩, _⟩ := hrow g 0 (a5 _ (by simp [MemPlace.row]; exact hsz))
  refine ⟨t', ?_⟩
  unfold World.var? at a3
  rw [hg] at a3
  simp only [Option.bind_some, hc] at a3
  injection a3 with a3
  have h4 : (zs.map fun z => Value.string ⟨z.toArray⟩).toArray = cs := by rw [← hcs]
  rw [hc, a3, h4]

theorem vars_1 {H : Type} {enc : TypeId × Value → H} {P : Program} {W : World} {sp : Nat → Bool} {n0 : String} {gs : List (DataW H)} {ps : List MemPlace} (h : DataW.TrodVars enc P W sp [n0] gs ps) : ∃ g0, gs = [g0] := by
  match gs, h with
  | [g0], _ => exact ⟨g0, rfl⟩
  | [], h => simp [DataW.TrodVars] at h
  | g0 :: _ :: _, h => simp [DataW.TrodVars] at h
theorem vars_2 {H : Type} {enc : TypeId × Value → H} {P : Program} {W : World} {sp : Nat → Bool} {n0 n1 : String} {gs : List (DataW H)} {ps : List MemPlace} (h : DataW.TrodVars enc P W sp [n0, n1] gs ps) : ∃ g0 g1, gs = [g0, g1] := by
  match gs, h with
  | [g0, g1], _ => exact ⟨g0, g1, rfl⟩
  | [], h => simp [DataW.TrodVars] at h
  | [g0], h => simp [DataW.TrodVars] at h
  | g0 :: g1 :: _ :: _, h => simp [DataW.TrodVars] at h
theorem vars_3 {H : Type} {enc : TypeId × Value → H} {P : Program} {W : World} {sp : Nat → Bool} {n0 n1 n2 : String} {gs : List (DataW H)} {ps : List MemPlace} (h : DataW.TrodVars enc P W sp [n0, n1, n2] gs ps) : ∃ g0 g1 g2, gs = [g0, g1, g2] := by
  match gs, h with
  | [g0, g1, g2], _ => exact ⟨g0, g1, g2, rfl⟩
  | [], h => simp [DataW.TrodVars] at h
  | [g0], h => simp [DataW.TrodVars] at h
  | [g0, g1], h => simp [DataW.TrodVars] at h
  | g0 :: g1 :: g2 :: _ :: _, h => simp [DataW.TrodVars] at h
theorem vars_4 {H : Type} {enc : TypeId × Value → H} {P : Program} {W : World} {sp : Nat → Bool} {n0 n1 n2 n3 : String} {gs : List (DataW H)} {ps : List MemPlace} (h : DataW.TrodVars enc P W sp [n0, n1, n2, n3] gs ps) : ∃ g0 g1 g2 g3, gs = [g0, g1, g2, g3] := by
  match gs, h with
  | [g0, g1, g2, g3], _ => exact ⟨g0, g1, g2, g3, rfl⟩
  | [], h => simp [DataW.TrodVars] at h
  | [g0], h => simp [DataW.TrodVars] at h
  | [g0, g1], h => simp [DataW.TrodVars] at h
  | [g0, g1, g2], h => simp [DataW.TrodVars] at h
  | g0 :: g1 :: g2 :: g3 :: _ :: _, h => simp [DataW.TrodVars] at h
/-- plain data, as cells. -/
def dataCells : DataW Unit → List Value
  | .lit (.int k n) => [.int k n]
  | .lit (.string s) => [.string ⟨s.toArray⟩]
  | .lit (.bool b) => [.bool b]
  | .agg l => dataCellsAll l
  | _ => []
where dataCellsAll : List (DataW Unit) → List Value
  | [] => []
  | d :: l => dataCells d ++ dataCellsAll l
/-- A world for the witness: the settled one, each listed variable holding what is listed. -/
noncomputable def laidWorld (P : Program) (os : Os) (laid : List (String × DataW Unit)) : World :=
  laid.foldl (fun w x => match P.globalNamed x.1 with
    | some g => { w with heap := w.heap.modify g fun
        | .cells _ t frozen => .cells (dataCells x.2).toArray t frozen
        | o => o }
    | none => w) (World.holding P os ⟨#[], #[], []⟩)
theorem laidWorld_os (P : Program) (os : Os) : ∀ (laid : List (String × DataW Unit)), (laidWorld P os laid).os = os := by
  intro laid
  unfold laidWorld
  have h : ∀ (l : List (String × DataW Unit)) (w : World), (l.foldl (fun w x => match P.globalNamed x.1 with
    | some g => { w with heap := w.heap.modify g fun
        | .cells _ t frozen => .cells (dataCells x.2).toArray t frozen
        | o => o }
    | none => w) w).os = w.os := by
    intro l
    induction l with
    | nil => intro w; rfl
    | cons x l ih =>
      intro w
      rw [List.foldl_cons, ih]
      cases P.globalNamed x.1 <;> rfl
  exact h laid _
theorem noStandIn {P : Program} {fn : Func} (h : (fn.params.toList.all fun t => !P.wantsStandIn t) = true) (j : Nat) (t : TypeId) (ht : fn.params[j]? = some t) : P.wantsStandIn t = false := by
  have := List.all_eq_true.1 h t (Array.mem_toList_iff.2 (Array.mem_of_getElem? ht))
  simpa using this
end Go.Proofs.YtlelgpknkgjaeaaGreatDoor
