/- The source of choices '*l00Src' of the reference's drawings: 'next', 'pick', 'one', 'among', 'word'; 'l05Data', 'A2Data'. -/
import Derived.Test.YtlelgpknkgjaeaaGreatDoorWr
import Derived.StillTailTactics
import Derived.Laws.Bits64b
import Derived.Test.YtlelgpknkgjaeaaGreatDoorBytes
namespace Go.Proofs.YtlelgpknkgjaeaaGreatDoor
open Go.ChangeShapes Go.WideShapes Go.ChangeAt Go.RowKit
set_option linter.unusedSimpArgs false
set_option linter.unusedVariables false
set_option maxRecDepth 4000

theorem u8_i64 (c : UInt8) : IntKind.i64.wrap (c.toNat : Int) = (c.toNat : Int) := IntWalk.i64_in _ (by have := c.toNat_lt; omega)
/-- Only block b was written. -/
structure Adv (b : Nat) (w w' : World) : Prop where
  low : ∀ B, B ≤ b → Below B w w'
  far : ∀ g, g ≠ b → w'.heap[g]? = w.heap[g]?
  size : w'.heap.size = w.heap.size
theorem Adv.refl (b : Nat) (w : World) : Adv b w w := ⟨fun _ _ => Below.refl _ _, fun _ _ => rfl, rfl⟩
theorem Adv.trans {b : Nat} {u v w : World} (h : Adv b u v) (k : Adv b v w) : Adv b u w := ⟨fun B hB => (h.low B hB).trans (k.low B hB), fun g hg => (k.far g hg).trans (h.far g hg), k.size.trans h.size⟩
theorem Adv.drew {b : Nat} {w w' : World} (h : Adv b w w') (n : Nat) : Adv b w (w'.drewN n) := ⟨fun B hB => below_drewN (h.low B hB) n, h.far, h.size⟩
theorem Adv.set {b : Nat} {w w' : World} (h : Adv b w w') (i : Nat) (x : Value) : Adv b w (w'.setCell ⟨b, i, none⟩ x) :=
  ⟨fun B hB => (h.low B hB).setCell (p := ⟨b, i, none⟩) hB x, fun g hg => by
    rw [← h.far g hg]
    unfold World.setCell
    simp [Array.getElem?_modify, show b ≠ g from fun e => hg e.symm], by rw [← h.size]; simp [World.setCell]⟩
theorem Adv.own {b base : Nat} {w w' : World} {e : TypeId} {size : Nat} {v : Value} {n : Nat} {xs : List Value} (h : Adv b w w') (ho : w.ownsRow base e size v n xs) (hb : b < base) : w'.ownsRow base e size v n xs := by
  refine ⟨ho.1, ?_⟩
  rcases ho.2 with hn | ⟨g, cap, cur, hv, hbg, hg, rest⟩
  · exact .inl hn
  · exact .inr ⟨g, cap, cur, hv, hbg, by rw [h.far g (by omega)]; exact hg, rest⟩
theorem Adv.cell {b : Nat} {w w' : World} (h : Adv b w w') {g o : Nat} {u : Value} (hg : g ≠ b) (hu : w.cell? ⟨g, o, none⟩ = some u) : w'.cell? ⟨g, o, none⟩ = some u :=
  (World.cell?_of_block (w := w) (h.far g hg)).trans hu
theorem Wr.drewN {w : World} {b : Nat} {cs : List Value} (h : Wr w b cs) (n : Nat) : Wr (w.drewN n) b cs := ⟨h.box, h.soft, h.lt⟩
/-- The source: its code, how far it was read, its number. -/
def Src (w : World) (b : Nat) (A : Option Addr) (n cap : Nat) (a : Nat) : Prop := ∃ sd : Int, Wr w b [.slice A n cap, .int .i64 a, .int .u64 sd]
/-- The bytes of the code. -/
def CodeAt (w : World) (b : Nat) (A : Option Addr) (n : Nat) : Prop := 0 < n → ∃ g o, A = some ⟨g, o, none⟩ ∧ g < b ∧ ∀ k, k < n → ∃ c : UInt8, w.cell? ⟨g, o + k, none⟩ = some (.int .u8 c.toNat)
theorem CodeAt.step {w w' : World} {b : Nat} {A : Option Addr} {n : Nat} (h : Adv b w w') (k : CodeAt w b A n) : CodeAt w' b A n := fun h0 => by
  obtain ⟨g, o, hA, hg, hc⟩ := k h0
  refine ⟨g, o, hA, hg, fun j hj => ?_⟩
  obtain ⟨c, hc⟩ := hc j hj
  exact ⟨c, h.cell (by omega) hc⟩
theorem CodeAt.low {w w' : World} {b : Nat} {A : Option Addr} {n : Nat} (h : Below b w w') (k : CodeAt w b A n) : CodeAt w' b A n := fun h0 => by
  obtain ⟨g, o, hA, hg, hc⟩ := k h0
  refine ⟨g, o, hA, hg, fun j hj => ?_⟩
  obtain ⟨c, hc⟩ := hc j hj
  exact ⟨c, (h.cell (p := ⟨g, o + j, none⟩) hg).trans hc⟩
theorem Wr.low {w w' : World} {B b : Nat} {cs : List Value} (k : Below B w w') (hb : b < B) (h : Wr w b cs) : Wr w' b cs :=
  ⟨fun j u hu => (k.cell (p := ⟨b, j, none⟩) hb).trans (h.box j u hu), fun i => (k.frozen (p := ⟨b, i, none⟩) hb).trans (h.soft i), Nat.lt_of_lt_of_le h.lt k.size⟩
theorem Src.low {w w' : World} {B b : Nat} {A : Option Addr} {n cap a : Nat} (k : Below B w w') (hb : b < B) (h : Src w b A n cap a) : Src w' b A n cap a := by
  obtain ⟨sd, h⟩ := h
  exact ⟨sd, h.low k hb⟩
theorem Src.lt {w : World} {b : Nat} {A : Option Addr} {n cap a : Nat} (h : Src w b A n cap a) : b < w.heap.size := by
  obtain ⟨sd, h⟩ := h
  exact h.lt
theorem ofNat_cell {l : List UInt8} {y : Nat} (h : y ≤ 255) : Lib.byteCells l ++ [.int .u8 (y : Int)] = Lib.byteCells (l ++ [UInt8.ofNat y]) := by
  unfold Lib.byteCells
  rw [List.map_append]
  congr 1
  show _ = [Value.int .u8 ((UInt8.ofNat y).toNat : Int)]
  rw [UInt8.toNat_ofNat', show y % 2 ^ 8 = y by omega]
theorem u64_pos (z : Int) : 0 ≤ IntKind.u64.wrap z ∧ IntKind.u64.wrap z < 18446744073709551616 := by
  have e : IntKind.u64.wrap z = z % 18446744073709551616 := by simp [IntKind.wrap_u64]
  rw [e]
  omega
theorem shr255 (z : Int) : ∃ x : Nat, x ≤ 255 ∧ wrap64 (bits BinOp.and .u64 (IntKind.u64.wrap z / 1099511627776) 255) = (x : Int) := by
  obtain ⟨h0, h1⟩ := u64_pos z
  obtain ⟨u, hu⟩ := Int.eq_ofNat_of_zero_le h0
  rw [hu] at h1 ⊢
  have h2 : (u : Int) / 1099511627776 = ((u / 1099511627776 : Nat) : Int) := by omega
  have h3 : bits BinOp.and .u64 ((u / 1099511627776 : Nat) : Int) ((255 : Nat) : Int) = (((u / 1099511627776) &&& 255 : Nat) : Int) := bits_and_u64_nat _ _ (by omega) (by omega)
  have h4 : (u / 1099511627776) &&& 255 ≤ 255 := Nat.and_le_right
  rw [h2]
  refine ⟨_, h4, ?_⟩
  rw [show (255 : Int) = ((255 : Nat) : Int) from rfl, h3]
  generalize (u / 1099511627776) &&& 255 = x at *
  unfold wrap64
  omega
set_option maxHeartbeats 4000000 in
theorem src_next {A : Option Addr} {n cap b a : Nat} (w : World) (hS : Src w b A n cap a) (hC : CodeAt w b A n) (ha : a ≤ 1048576) (hn : n ≤ 1048576) :
    Calls Tryz.prog 86 #[.pointer (some ⟨b, 0, none⟩)] w fun e w' => ∃ x : Nat, e = .returned (.int .i64 x) ∧ x ≤ 255 ∧ Src w' b A n cap (a + 1) ∧ Adv b w w' := by
  obtain ⟨sd, hW⟩ := hS
  have HW := Hid.in_ hW
  have c0 := hW.box 0 _ rfl
  have c1 := hW.box 1 _ rfl
  have c2 := hW.box 2 _ rfl
  have f1 := hW.soft 1
  have f2 := hW.soft 2
  have q1 : IntKind.i64.wrap ((a : Int) + 1) = (a : Int) + 1 := IntWalk.i64_in _ (by omega)
  clear hW
  by_cases h : a < n
  · obtain ⟨g, o, rfl, hg, hc⟩ := hC (by omega)
    obtain ⟨c, hcc⟩ := hc a h
    clear hc hC
    have u0 := u8_i64 c
    go_enter Tryz.func86, Tryz.ntmps86
    go_wp2_with fail
    go_quiet (fail)
    go_wp2_with fail
    go_quiet (fail)
    go_wp2_with fail
    go_quiet (fail)
    go_wp2
    go_ret
    exact ⟨c.toNat, rfl, by have := c.toNat_lt; omega, ⟨_, (((HW.out.drewN _).set (i := 1) _ (by simp)).set (i := 2) _ (by simp)).drewN _⟩, (((((Adv.refl b w).drew _).set 1 _).set 2 _).drew _)⟩
  · clear hC
    have h' : (n : Int) ≤ (a : Int) := by omega
    go_enter Tryz.func86, Tryz.ntmps86
    go_wp2_with fail
    go_quiet (fail)
    go_wp2_with fail
    go_quiet (fail)
    go_wp2
    go_ret
    obtain ⟨x, hx, hq⟩ := shr255 (IntKind.u64.wrap (IntKind.u64.wrap (sd * 6364136223846793005)) + 1442695040888963407)
    exact ⟨x, congrArg (fun z => Ending.returned (.int .i64 z)) hq, hx, ⟨_, (((HW.out.drewN _).set (i := 1) _ (by simp)).set (i := 2) _ (by simp)).drewN _⟩, (((((Adv.refl b w).drew _).set 1 _).set 2 _).drew _)⟩
set_option maxHeartbeats 2000000 in
theorem src_pick {A : Option Addr} {n cap b a : Nat} (m : Nat) (w : World) (hS : Src w b A n cap a) (hC : CodeAt w b A n) (ha : a ≤ 1048576) (hn : n ≤ 1048576) (h2 : 2 ≤ m) (hm : m ≤ 200) :
    Calls Tryz.prog 52 #[.pointer (some ⟨b, 0, none⟩), .int .i64 m] w fun e w' => ∃ x : Nat, e = .returned (.int .i64 x) ∧ x < m ∧ Src w' b A n cap (a + 1) ∧ Adv b w w' := by
  have HN := Hid.in_ (src_next w hS hC ha hn)
  clear hS hC
  go_enter Tryz.func52, Tryz.ntmps52
  go_wp2_with fail
  refine HN.out.mono ?_
  rintro e w1 ⟨x, rfl, hx, hS1, hA1⟩
  have HS1 := Hid.in_ hS1
  have HA1 := Hid.in_ hA1
  clear hS1 hA1
  have hr1 : (x : Int).tmod (m : Int) = ((x % m : Nat) : Int) := by rw [Int.tmod_eq_emod_of_nonneg (by omega)]; omega
  have hr2 : (x : Int) % (m : Int) = ((x % m : Nat) : Int) := by omega
  have hr3 : x % m < m := Nat.mod_lt _ (by omega)
  generalize x % m = r at *
  have hr4 : IntKind.i64.wrap (r : Int) = (r : Int) := IntWalk.i64_in _ (by omega)
  go_wp2
  go_ret
  exact ⟨r, rfl, hr3, HS1.out, HA1.out⟩
set_option maxHeartbeats 4000000 in
theorem src_word {A : Option Addr} {n cap b a : Nat} (m : Nat) (w : World) (hS : Src w b A n cap a) (hC : CodeAt w b A n) (ha : a ≤ 1048000) (hn : n ≤ 1048576) (h2 : 2 ≤ m) (hm : m ≤ 200) :
    Calls Tryz.prog 88 #[.pointer (some ⟨b, 0, none⟩), .int .i64 m] w fun e w' => ∃ l : List UInt8, e = .returned (.string ⟨l.toArray⟩) ∧ l.length < m ∧ Below b w w' := by
  obtain ⟨i0, hti, hz0, hz1, hz2⟩ := info_parts Tryz.infoU8b
  have hbb := hS.lt
  have hal : Below w.heap.size w (w.alloc (.cells #[] 5)) := balloc (Below.refl _ _) _
  have HP := Hid.in_ (src_pick m (w.alloc (.cells #[] 5)) (hS.low hal hbb) (hC.low (hal.mono (by omega))) (by omega) hn h2 hm)
  have HI0 := Hid.in_ (World.ownsRow_lit (size := 1) (e := 5) w #[] 0 (Nat.le_refl _) (by decide) (by decide))
  have HC0 := Hid.in_ hC
  have HB0 := Hid.in_ (hal.mono (by omega : b ≤ w.heap.size))
  clear hS hC hal
  go_enter Tryz.func88, Tryz.ntmps88
  go_wp2_with fail
  refine HP.out.mono ?_
  rintro e w0 ⟨x, rfl, hx, hS1, hA1⟩
  have HI1 := Hid.in_ (hA1.own HI0.out hbb)
  have HS1 := Hid.in_ hS1
  have HB1 := Hid.in_ (HB0.out.trans (hA1.low b (Nat.le_refl _)))
  clear hS1 hA1
  go_wp2_with fail
  go_loopg [5, 6] x (fun q v i wr => ∃ k : Nat, k + q = x ∧ i = .int .i64 q ∧ ∃ l : List UInt8, Hid (l.length = k ∧ wr.ownsRow w.heap.size 5 1 v k (Lib.byteCells l)) ∧ Hid (Src wr b A n cap (a + 1 + k)) ∧ Hid (Below b w wr))
  case atStart => exact ⟨0, by omega, rfl, [], ⟨rfl, HI1.out⟩, HS1, HB1⟩
  case round =>
    clear HI0 HI1 HS1 HB1 HB0 HP
    obtain ⟨k, hkm, rfl, l, HI, HS, HB⟩ := hrel
    have HK := Hid.in_ hkm
    clear hkm
    by_cases hq : 0 < gk
    · have hk := HK.out
      have HN := Hid.in_ (src_next wr HS.out (HC0.out.low HB.out) (by omega) hn)
      have hq1 : (0 : Int) < (gk : Int) := by omega
      have hq2 : IntKind.i64.wrap ((gk : Int) - 1) = (gk : Int) - 1 := IntWalk.i64_in _ (by omega)
      clear hk
      go_wp2_with fail
      refine HN.out.mono ?_
      rintro e w1 ⟨y, rfl, hy, hS1, hA1⟩
      have HI1 := Hid.in_ (hA1.own HI.out.2 hbb)
      have HS1 := Hid.in_ hS1
      have HB1 := Hid.in_ (HB.out.trans (hA1.low b (Nat.le_refl _)))
      clear hS1 hA1
      have hy2 : IntKind.u8.wrap (y : Int) = (y : Int) := IntWalk.u8_in _ (by omega)
      have hk := HK.out
      have hsz : w.heap.size ≤ (w1.alloc (.cells #[.int .u8 (y : Int)] 5)).heap.size := Nat.le_trans HB1.out.size (by unfold World.alloc; rw [Array.size_push]; omega)
      go_wp2_with (at_builtin; refine wpList_append_own _ rfl _ _ 43 rfl w.heap.size 5 i0 (.int .u8 0) 1 1 Tryz.underlying43 hti hz0 hz1 hz2 rfl (by decide) _ _ _ rfl (HI1.out.alloc _) ⟨w1.heap.size, 0, none⟩ 1 1 [.int .u8 (y : Int)] rfl rfl (cell_one_new _ _ _) (fun x hx => by simp at hx; subst hx; rfl) (by unfold maxLen; omega) (by omega) hsz ?_; intro v6 w6 ho6 hg6 _)
      have HL := Hid.in_ (((Below.refl w.heap.size w1).alloc HB1.out.size (.cells #[.int .u8 (y : Int)] 5)).grown hg6 hsz (fun j hj => ((HI1.out.alloc (.cells #[.int .u8 (y : Int)] 5)).lt j hj).1))
      rw [ofNat_cell hy] at ho6
      have HO6 := Hid.in_ ho6
      clear ho6 hg6 hsz
      go_roundg (gk - 1)
      case measure => omega
      case rel => exact ⟨k + 1, by omega, by first | (go_num; done) | (rw [show ((gk - 1 : Nat) : Int) = (gk : Int) - 1 by omega]), l ++ [UInt8.ofNat y], ⟨by rw [List.length_append, HI.out.1]; rfl, HO6.out⟩, HS1.out.low HL.out hbb, HB1.out.trans (HL.out.mono (by omega))⟩
    · have hk := HK.out
      obtain rfl : gk = 0 := by omega
      have hc := conv_own Tryz.underlying43 Tryz.underlying5 Tryz.underlying9 HI.out.2
      have HLn := Hid.in_ (show l.length < m by have := HI.out.1; omega)
      go_wp2
      go_ret
      exact ⟨l, rfl, HLn.out, HB.out⟩
theorem spec_l00From {A : Option Addr} {n cap : Nat} (w : World) :
    Calls Tryz.prog 51 #[.slice A n cap] w fun e w' => e = .returned (.pointer (some ⟨w.heap.size, 0, none⟩)) ∧ w' = w.alloc (.cells #[.slice A n cap, .int .i64 0, .int .u64 0] 113) := by
  go_enter Tryz.func51, Tryz.ntmps51
  go_wp2
  go_ret
  exact ⟨rfl, rfl⟩
end Go.Proofs.YtlelgpknkgjaeaaGreatDoor
