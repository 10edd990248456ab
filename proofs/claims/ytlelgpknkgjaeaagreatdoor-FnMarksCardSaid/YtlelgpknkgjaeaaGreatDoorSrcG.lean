/- The source of choices once more: 'word' with the source behind it. -/
import Derived.Test.YtlelgpknkgjaeaaGreatDoorSrc
namespace Go.Proofs.YtlelgpknkgjaeaaGreatDoor
open Go.ChangeShapes Go.WideShapes Go.ChangeAt Go.RowKit
set_option linter.unusedSimpArgs false
set_option linter.unusedVariables false
set_option maxRecDepth 4000

/-- Of what was there only block b was written; new blocks may have been laid. -/
structure AdvG (b : Nat) (w w' : World) : Prop where
  low : ∀ B, B ≤ b → Below B w w'
  far : ∀ g, g ≠ b → g < w.heap.size → w'.heap[g]? = w.heap[g]?
  size : w.heap.size ≤ w'.heap.size
theorem AdvG.refl (b : Nat) (w : World) : AdvG b w w := ⟨fun _ _ => Below.refl _ _, fun _ _ _ => rfl, Nat.le_refl _⟩
theorem AdvG.of {b : Nat} {w w' : World} (h : Adv b w w') : AdvG b w w' := ⟨h.low, fun g hg _ => h.far g hg, Nat.le_of_eq h.size.symm⟩
theorem AdvG.trans {b : Nat} {u v w : World} (h : AdvG b u v) (k : AdvG b v w) : AdvG b u w :=
  ⟨fun B hB => (h.low B hB).trans (k.low B hB), fun g hg hl => (k.far g hg (Nat.lt_of_lt_of_le hl h.size)).trans (h.far g hg hl), Nat.le_trans h.size k.size⟩
theorem AdvG.up {b : Nat} {u v w : World} (h : AdvG b u v) (k : Below u.heap.size v w) (hb : b < u.heap.size) : AdvG b u w :=
  ⟨fun B hB => (h.low B hB).trans (k.mono (by omega)), fun g hg hl => (k.block g hl).trans (h.far g hg hl), Nat.le_trans h.size k.size⟩
theorem AdvG.then_ {b : Nat} {u v w : World} (h : AdvG b u v) (k : Adv b v w) : AdvG b u w := h.trans (AdvG.of k)
theorem AdvG.own {b base : Nat} {w w' : World} {e : TypeId} {size : Nat} {v : Value} {n : Nat} {xs : List Value} (h : AdvG b w w') (ho : w.ownsRow base e size v n xs) (hb : b < base) : w'.ownsRow base e size v n xs := by
  refine ⟨ho.1, ?_⟩
  rcases ho.2 with hn | ⟨g, cap, cur, hv, hbg, hg, rest⟩
  · exact .inl hn
  · have hl : g < w.heap.size := (Array.getElem?_eq_some_iff.1 hg).1
    exact .inr ⟨g, cap, cur, hv, hbg, by rw [h.far g (by omega) hl]; exact hg, rest⟩
theorem CodeAt.stepG {w w' : World} {b : Nat} {A : Option Addr} {n : Nat} (h : AdvG b w w') (k : CodeAt w b A n) : CodeAt w' b A n := k.low (h.low b (Nat.le_refl _))
set_option maxHeartbeats 4000000 in
theorem src_word2 {A : Option Addr} {n cap b a : Nat} (m : Nat) (w : World) (hS : Src w b A n cap a) (hC : CodeAt w b A n) (ha : a ≤ 1048000) (hn : n ≤ 1048576) (h2 : 2 ≤ m) (hm : m ≤ 200) :
    Calls Tryz.prog 88 #[.pointer (some ⟨b, 0, none⟩), .int .i64 m] w fun e w' => ∃ (l : List UInt8) (a' : Nat), e = .returned (.string ⟨l.toArray⟩) ∧ l.length < m ∧ a' ≤ a + m ∧ Src w' b A n cap a' ∧ AdvG b w w' := by
  obtain ⟨i0, hti, hz0, hz1, hz2⟩ := info_parts Tryz.infoU8b
  have hbb := hS.lt
  have hal : Below w.heap.size w (w.alloc (.cells #[] 5)) := balloc (Below.refl _ _) _
  have HP := Hid.in_ (src_pick m (w.alloc (.cells #[] 5)) (hS.low hal hbb) (hC.low (hal.mono (by omega))) (by omega) hn h2 hm)
  have HI0 := Hid.in_ (World.ownsRow_lit (size := 1) (e := 5) w #[] 0 (Nat.le_refl _) (by decide) (by decide))
  have HC0 := Hid.in_ hC
  have HB0 := Hid.in_ ((AdvG.refl b w).up hal hbb)
  clear hS hC hal
  go_enter Tryz.func88, Tryz.ntmps88
  go_wp2_with fail
  refine HP.out.mono ?_
  rintro e w0 ⟨x, rfl, hx, hS1, hA1⟩
  have HI1 := Hid.in_ (hA1.own HI0.out hbb)
  have HS1 := Hid.in_ hS1
  have HB1 := Hid.in_ (HB0.out.then_ hA1)
  clear hS1 hA1
  go_wp2_with fail
  go_loopg [5, 6] x (fun q v i wr => ∃ k : Nat, k + q = x ∧ i = .int .i64 q ∧ ∃ l : List UInt8, Hid (l.length = k ∧ wr.ownsRow w.heap.size 5 1 v k (Lib.byteCells l)) ∧ Hid (Src wr b A n cap (a + 1 + k)) ∧ Hid (AdvG b w wr))
  case atStart => exact ⟨0, by omega, rfl, [], ⟨rfl, HI1.out⟩, HS1, HB1⟩
  case round =>
    clear HI0 HI1 HS1 HB1 HB0 HP
    obtain ⟨k, hkm, rfl, l, HI, HS, HB⟩ := hrel
    have HK := Hid.in_ hkm
    clear hkm
    by_cases hq : 0 < gk
    · have hk := HK.out
      have HN := Hid.in_ (src_next wr HS.out (HC0.out.stepG HB.out) (by omega) hn)
      have hq1 : (0 : Int) < (gk : Int) := by omega
      have hq2 : IntKind.i64.wrap ((gk : Int) - 1) = (gk : Int) - 1 := IntWalk.i64_in _ (by omega)
      clear hk
      go_wp2_with fail
      refine HN.out.mono ?_
      rintro e w1 ⟨y, rfl, hy, hS1, hA1⟩
      have HI1 := Hid.in_ (hA1.own HI.out.2 hbb)
      have HS1 := Hid.in_ hS1
      have HB1 := Hid.in_ (HB.out.then_ hA1)
      clear hS1 hA1
      have hy2 : IntKind.u8.wrap (y : Int) = (y : Int) := IntWalk.u8_in _ (by omega)
      have hk := HK.out
      have hsz : w.heap.size ≤ (w1.alloc (.cells #[.int .u8 (y : Int)] 5)).heap.size := Nat.le_trans HB1.out.size (by unfold World.alloc; rw [Array.size_push]; omega)
      go_wp2_with (at_builtin; refine wpList_append_own _ rfl _ _ 43 rfl w.heap.size 5 i0 (.int .u8 0) 1 1 Tryz.underlying43 hti hz0 hz1 hz2 rfl (by decide) _ _ _ rfl (HI1.out.alloc _) ⟨w1.heap.size, 0, none⟩ 1 1 [.int .u8 (y : Int)] rfl rfl (cell_one_new _ _ _) (fun x hx => by simp at hx; subst hx; rfl) (by unfold maxLen; omega) (by omega) hsz ?_; intro v6 w6 ho6 hg6 _)
      have HL := Hid.in_ (((Below.refl w.heap.size w1).alloc HB1.out.size (.cells #[.int .u8 (y : Int)] 5)).grown hg6 hsz (fun j hj => ((HI1.out.alloc (.cells #[.int .u8 (y : Int)] 5)).lt j hj).1))
      rw [ofNat_cell hy] at ho6
      have HO6 := Hid.in_ ho6
      clear ho6 hg6 hsz
      go_roundg (gk - 1)
      case measure => omega
      case rel => exact ⟨k + 1, by omega, by first | (go_num; done) | (rw [show ((gk - 1 : Nat) : Int) = (gk : Int) - 1 by omega]), l ++ [UInt8.ofNat y], ⟨by rw [List.length_append, HI.out.1]; rfl, HO6.out⟩, HS1.out.low HL.out hbb, HB1.out.up HL.out hbb⟩
    · have hk := HK.out
      obtain rfl : gk = 0 := by omega
      have hc := conv_own Tryz.underlying43 Tryz.underlying5 Tryz.underlying9 HI.out.2
      have HLn := Hid.in_ (show l.length < m ∧ a + 1 + k ≤ a + m by have := HI.out.1; omega)
      go_wp2
      go_ret
      exact ⟨l, _, rfl, HLn.out.1, HLn.out.2, HS.out, HB.out⟩
end Go.Proofs.YtlelgpknkgjaeaaGreatDoor
