/- 'ClockFaults' of the program over cells of an even number. -/
import Derived.Test.YtdnkjbgfaniafaaDoorBytes
import Derived.Test.YtdnkjbgfaniafaaDoorI64
import Derived.Lib.Builder
import Derived.Deep.LoopGhost
namespace Go.Proofs.YtdnkjbgfaniafaaDoor
open Go.ChangeShapes Go.WideShapes Go.ChangeAt Go.RowKit
set_option linter.unusedSimpArgs false
set_option linter.unusedVariables false
set_option maxRecDepth 4000

def clkOne (mfm la : Bool) (y : UInt8) : Bool := !mfm || (!la && (y == 48))
def clkTo (s : ByteArray) (la mfm : Bool) : Nat → List Int × Bool
  | 0 => ([], la)
  | k + 1 => ((clkTo s la mfm k).1 ++ (if ((byteAt s (2 * k) == 49) != clkOne mfm (clkTo s la mfm k).2 (byteAt s (2 * k + 1))) = true then [((2 * k : Nat) : Int)] else []), byteAt s (2 * k + 1) == 49)
theorem clkTo_len (s : ByteArray) (la mfm : Bool) : ∀ k, (clkTo s la mfm k).1.length ≤ k
  | 0 => Nat.le_refl _
  | k + 1 => by
    have := clkTo_len s la mfm k
    unfold clkTo
    rw [List.length_append]
    split <;> simp <;> omega
theorem clk_next (s : ByteArray) (la mfm : Bool) (k : Nat) {x y : UInt8} (hx : byteAt s (2 * k) = x) (hy : byteAt s (2 * k + 1) = y) {b : Bool} (hb : (clkTo s la mfm k).2 = b) :
    clkTo s la mfm (k + 1) = ((clkTo s la mfm k).1 ++ (if ((x == 49) != clkOne mfm b y) = true then [((2 * k : Nat) : Int)] else []), y == 49) := by
  show ((clkTo s la mfm k).1 ++ (if ((byteAt s (2 * k) == 49) != clkOne mfm (clkTo s la mfm k).2 (byteAt s (2 * k + 1))) = true then [((2 * k : Nat) : Int)] else []), byteAt s (2 * k + 1) == 49) = _
  rw [hx, hy, hb]
theorem Tryd.infoI64k : (Tryd.prog.info? 2).map (fun i => (i.zero, i.size, i.bytes)) = some (some (.int .i64 0), 1, 8) := by kernel_rfl
theorem I64_oneK (l : List Int) (x : Int) : I64 l ++ [.int .i64 x] = I64 (l ++ [x]) := by unfold I64; rw [List.map_append]; rfl
set_option maxHeartbeats 4000000 in
theorem impl_ClockFaults (s : ByteArray) (la mfm : Bool) (w : World) (N : Nat) (hN : s.size = 2 * N) (hc : cellStr s = true) :
    Calls Tryd.prog 9 #[.string s, .bool la, .bool mfm] w fun e w' => ∃ v, e = .returned v ∧ w'.ownsRow w.heap.size 2 1 v (clkTo s la mfm N).1.length (I64 (clkTo s la mfm N).1) ∧ Below w.heap.size w w' := by
  obtain ⟨i0, hti, hz0, hz1, hz2⟩ := info_parts Tryd.infoI64k
  have hcs := hc
  unfold cellStr at hcs
  rw [Bool.and_eq_true] at hcs
  have hs8 := of_decide_eq_true hcs.2
  have HA := Hid.in_ hcs.1
  have HC := Hid.in_ (impl_isCellString s w (by omega))
  rw [hc] at HC
  have HNN := Hid.in_ hN
  have hr1 : (s.size : Int).tmod 2 = 0 := by rw [Int.tmod_eq_emod_of_nonneg (by omega)]; omega
  have hr2 : (s.size : Int) % 2 = 0 := by omega
  clear hc hcs hN
  go_enter Tryd.func9, Tryd.ntmps9
  go_wp2_with fail
  refine HC.out.mono ?_
  rintro e w1 ⟨rfl, hb1⟩
  have HB1 := Hid.in_ hb1
  clear hb1
  go_wp2_with fail
  clear hr1 hr2
  go_loopg [7, 8, 1] N (fun m v i b wr => ∃ k p : Nat, k + m = N ∧ p = 2 * k ∧ i = .int .i64 p ∧ b = .bool (clkTo s la mfm k).2 ∧ Hid (wr.ownsRow w.heap.size 2 1 v (clkTo s la mfm k).1.length (I64 (clkTo s la mfm k).1)) ∧ Hid (Below w.heap.size w wr))
  case atStart => exact ⟨0, 0, by omega, rfl, rfl, rfl, ⟨rfl, .inl ⟨rfl, rfl⟩⟩, HB1.out⟩
  case round =>
    clear HB1 HC
    obtain ⟨k, p, hkm, hp, rfl, rfl, HI, HB⟩ := hrel
    have HK := Hid.in_ (And.intro hkm hp)
    by_cases hlt : k < N
    · have hNN := HNN.out
      obtain ⟨q, hq⟩ : ∃ q, p + 1 = q := ⟨_, rfl⟩
      have p1 : p < s.size := by omega
      have p2 : q < s.size := by omega
      have p3 : (p : Int) < (s.size : Int) := by omega
      have p4 : (p : Int) + 1 = (q : Int) := by omega
      have p5 : IntKind.i64.wrap (q : Int) = (q : Int) := IntWalk.i64_in _ (by omega)
      have p6 : (q : Int) < (s.size : Int) := by omega
      have p7 : IntKind.i64.wrap ((p : Int) + 2) = (p : Int) + 2 := IntWalk.i64_in _ (by omega)
      obtain ⟨b, hb⟩ : ∃ b, (clkTo s la mfm k).2 = b := ⟨_, rfl⟩
      have hll := clkTo_len s la mfm k
      have hc1 := allBits_at HA.out p1
      have hc2 := allBits_at HA.out p2
      have HNX := Hid.in_ (fun (x y : UInt8) (hx : s[p] = x) (hy : s[q] = y) => clk_next s la mfm k (x := x) (y := y) (by rw [← hp, byteAt_eq p1]; exact hx) (by rw [← hp]; subst hq; rw [byteAt_eq p2]; exact hy) hb)
      rw [hb]
      clear hkm hp hb hq hNN
      generalize (clkTo s la mfm k).1 = fl at *
      obtain hx | hx := hc1
      all_goals
        obtain hy | hy := hc2
        all_goals
          cases mfm
          all_goals
            cases b
            all_goals
              have HNXT := Hid.in_ (HNX.out _ _ hx hy)
              simp only [clkOne, Bool.not_false, Bool.not_true, Bool.true_or, Bool.false_or, Bool.true_and, Bool.false_and] at HNXT
              first
                | (rw [if_neg (by decide), List.append_nil] at HNXT
                   go_wp2
                   have hk := HK.out
                   go_roundg (gk - 1)
                   case measure => omega
                   case rel => exact ⟨k + 1, p + 2, by omega, by omega, by go_num, by rw [HNXT.out]; rfl, by rw [HNXT.out]; exact HI.out, HB⟩)
                | (rw [if_pos (by decide)] at HNXT
                   have hfl : fl.length ≤ 8000 := by have := HNN.out; omega
                   go_wp2_with (at_builtin; refine wpList_append_own _ rfl _ _ 28 rfl w.heap.size 2 i0 (.int .i64 0) 1 8 Tryd.underlying28 hti hz0 hz1 hz2 rfl (by decide) _ _ _ rfl (HI.out.alloc _) ⟨wr.heap.size, 0, none⟩ 1 1 [.int .i64 (p : Int)] rfl rfl (cell_one_new _ _ _) (fun x hx => by simp at hx; subst hx; rfl) (by unfold maxLen; omega) (by omega) (balloc HB.out _).size ?_; intro v6 w6 ho6 hg6 _)
                   have HB6 := Hid.in_ (bgrown (balloc HB.out _) (HI.out.alloc _) (Nat.le_refl _) hg6)
                   rw [I64_oneK] at ho6
                   have HO6 := Hid.in_ ho6
                   clear ho6 hg6
                   have hk := HK.out
                   go_roundg (gk - 1)
                   case measure => omega
                   case rel =>
                     refine ⟨k + 1, p + 2, by omega, by omega, by go_num, by rw [HNXT.out]; rfl, ?_, HB6⟩
                     rw [HNXT.out]
                     have h := HO6.out
                     rw [show fl.length + 1 = (fl ++ [((p : Nat) : Int)]).length by simp, hk.2] at h
                     exact h)
    · have hk := HK.out.1
      obtain rfl : k = N := by omega
      have hpp : p = s.size := by have := HK.out.2; have := HNN.out; omega
      have hge : ¬ ((p : Int) < (s.size : Int)) := by omega
      clear hpp hkm hp
      go_wp2
      go_ret
      exact ⟨_, rfl, HI.out, HB.out⟩
end Go.Proofs.YtdnkjbgfaniafaaDoor
