/- 'ReadSector' of the program and of the reference. -/
import Derived.Test.YtklaakhdpfgffabDoorRsS
namespace Go.Proofs.YtklaakhdpfgffabDoor
open Go.ChangeShapes Go.WideShapes Go.ChangeAt Go.RowKit
set_option linter.unusedSimpArgs false
set_option linter.unusedVariables false
set_option maxRecDepth 4000

def fndV (r : FndR) : Value := .agg #[.int .i64 r.c, .int .i64 r.h, .int .i64 r.n, .int .i64 r.s, .string r.d, .int .i64 r.t, .bool r.l, .int .i64 r.p]
def fnd0 : FndR := ⟨0, 0, 0, 0, ⟨#[]⟩, 0, false, 0⟩
def rsRes (s : ByteArray) (f : Int) (l : List MarkR) (k : Int) : FndR := if askCode s f l k = 0 then rsF f s l k.toNat else fnd0
theorem ret_fnd2 {a b : FndR} {x y : Int} (h : a = b) (k : x = y) : Ending.returned (.tuple #[fndV a, .int .i64 x]) = .returned (.tuple #[fndV b, .int .i64 y]) := by rw [h, k]
theorem rs_ask (s : ByteArray) (f : Int) (l : List MarkR) (k : Int) :
    (askCode s f l k ≠ 0 ∧ Hid (rsRes s f l k = fnd0)) ∨ (askCode s f l k = 0 ∧ inB f 1 3 = true ∧ validCells s = true ∧ validMarks l s.size = true ∧ ∃ j : Nat, k = j ∧ j < l.length ∧ Hid (rsRes s f l k = rsF f s l j)) := by
  unfold Hid
  by_cases h : askCode s f l k = 0
  · obtain ⟨h1, HV⟩ | ⟨h1, h2, HV⟩ | ⟨h1, h2, h3, HV⟩ | ⟨h1, h2, h3, h4, HV⟩ | ⟨h1, h2, h3, h4, j, m, rfl, hj, hm, hq⟩ := ask_cases s f l k
    case inr.inr.inr.inr => exact .inr ⟨h, h2, h1, h3, j, rfl, hj, if_pos h⟩
    all_goals
      have := HV.out
      omega
  · exact .inl ⟨h, if_neg h⟩
set_option maxHeartbeats 2000000 in
theorem impl_ReadSector {v : Value} {n b : Nat} {l : List MarkR} (s : ByteArray) (f k : Int) (w : World) (hT : Tab w) (hs : s.size ≤ 1048576) (h : w.ownsRow b 53 3 v n (l.flatMap MarkR.cells)) (hn2 : n ≤ 1048576) :
    Calls Tryd.prog 9 #[.string s, .int .i64 f, v, .int .i64 k] w fun e w' => e = .returned (.tuple #[fndV (rsRes s f l k), .int .i64 (askCode s f l k)]) ∧ Below w.heap.size w w' := by
  have HO := Hid.in_ h
  have HB0 := Hid.in_ (balloc (Below.refl w.heap.size w) (.cells #[.int .i64 0, .int .i64 0, .int .i64 0, .int .i64 0, .string ⟨#[]⟩, .int .i64 0, .bool false, .int .i64 0] 25))
  have HW := Hid.in_ (Wr.new w [.int .i64 0, .int .i64 0, .int .i64 0, .int .i64 0, .string ⟨#[]⟩, .int .i64 0, .bool false, .int .i64 0] 25)
  have HC := Hid.in_ (fun w h => impl_checkMarks (v := v) (n := n) (b := b) (l := l) s f k w hs h)
  have HT := Hid.in_ (Tab.step HB0.out hT)
  obtain ⟨h0, HV⟩ | ⟨h0, h1, h2, h3, j, rfl, hj, HV⟩ := rs_ask s f l k
  · have hb : (askCode s f l k == 0) = false := beq_eq_false_iff_ne.2 h0
    generalize askCode s f l k = a at *
    clear h0 h
    go_enter Tryd.func9, Tryd.ntmps9
    go_wp2_with fail
    refine (HC.out _ (ostep HB0.out HO.out)).mono ?_
    rintro e w1 ⟨rfl, hb1⟩
    have HW1 := Hid.in_ (Wr.step hb1 HW.out)
    have HB1 := Hid.in_ (bstep HB0.out hb1)
    clear hb1
    obtain ⟨⟨y0, y1, y2, y3, y4, y5, y6, y7⟩, ⟨t0, t1, t2, t3, t4, t5, t6, t7⟩⟩ := wr8 HW1.out
    go_wp2
    (try simp only [Exit.inBlock, Exit.then])
    refine bodyPost_ret ?_ rfl ⟨(ret_fnd2 HV.out rfl).symm, below_put8 HB1.out (Nat.le_refl _) _ _ _ _ _ _ _ _⟩
    obtain ⟨⟨d0, d1, d2, d3, d4, d5, d6, d7⟩, _⟩ := wr8 (Wr.put8 HW1.out (.int .i64 0) (.int .i64 0) (.int .i64 0) (.int .i64 0) (.string ⟨#[]⟩) (.int .i64 0) (.bool false) (.int .i64 0))
    rw [results_cell_tmp rfl]
    simp [go_sem, Result.andThen, fndV, fnd0, d0, d1, d2, d3, d4, d5, d6, d7]
  · have HD := Hid.in_ (fun w hT h => show Calls Tryd.prog 29 #[.string s, .int .i64 f, v, .int .i64 (j : Int)] w fun e w' => e = .returned (fndV (rsF f s l j)) ∧ Below w.heap.size w w' from impl_readSector (v := v) (n := n) (b := b) (l := l) s f j w hT h h1 h2 h3 hj hn2)
    rw [h0] at HC
    clear h1 h2 h3 hj h hn2
    generalize rsF f s l j = R at *
    unfold fndV at HD
    go_enter Tryd.func9, Tryd.ntmps9
    go_wp2_with fail
    refine (HC.out _ (ostep HB0.out HO.out)).mono ?_
    rintro e w1 ⟨rfl, hb1⟩
    have HW1 := Hid.in_ (Wr.step hb1 HW.out)
    have HB1 := Hid.in_ (bstep HB0.out hb1)
    have HO1 := Hid.in_ (ostep HB1.out HO.out)
    have HT1 := Hid.in_ (Tab.step hb1 HT.out)
    clear hb1
    go_wp2_with fail
    refine (HD.out _ HT1.out HO1.out).mono ?_
    rintro e w2 ⟨rfl, hb2⟩
    have HW2 := Hid.in_ (Wr.step hb2 HW1.out)
    have HB2 := Hid.in_ (bstep HB1.out hb2)
    clear hb2
    obtain ⟨⟨y0, y1, y2, y3, y4, y5, y6, y7⟩, ⟨t0, t1, t2, t3, t4, t5, t6, t7⟩⟩ := wr8 HW2.out
    go_wp2
    (try simp only [Exit.inBlock, Exit.then])
    refine bodyPost_ret ?_ rfl ⟨(ret_fnd2 HV.out h0).symm, below_put8 HB2.out (Nat.le_refl _) _ _ _ _ _ _ _ _⟩
    obtain ⟨⟨d0, d1, d2, d3, d4, d5, d6, d7⟩, _⟩ := wr8 (Wr.put8 HW2.out (.int .i64 R.c) (.int .i64 R.h) (.int .i64 R.n) (.int .i64 R.s) (.string R.d) (.int .i64 R.t) (.bool R.l) (.int .i64 R.p))
    rw [results_cell_tmp rfl]
    simp [go_sem, Result.andThen, fndV, fnd0, d0, d1, d2, d3, d4, d5, d6, d7]
set_option maxHeartbeats 2000000 in
theorem spec_ReadSector {v : Value} {n b : Nat} {l : List MarkR} (s : ByteArray) (f k : Int) (w : World) (hs : s.size ≤ 1048576) (h : w.ownsRow b 53 3 v n (l.flatMap MarkR.cells)) (hn2 : n ≤ 1048576) :
    Calls Tryd.prog 7 #[.string s, .int .i64 f, v, .int .i64 k] w fun e w' => e = .returned (.tuple #[fndV (rsRes s f l k), .int .i64 (askCode s f l k)]) ∧ Below w.heap.size w w' := by
  have HO := Hid.in_ h
  have HB0 := Hid.in_ (balloc (Below.refl w.heap.size w) (.cells #[.int .i64 0, .int .i64 0, .int .i64 0, .int .i64 0, .string ⟨#[]⟩, .int .i64 0, .bool false, .int .i64 0] 25))
  have HW := Hid.in_ (Wr.new w [.int .i64 0, .int .i64 0, .int .i64 0, .int .i64 0, .string ⟨#[]⟩, .int .i64 0, .bool false, .int .i64 0] 25)
  have HC := Hid.in_ (fun w h => spec_l09Ask (v := v) (n := n) (b := b) (l := l) s f k w hs h)
  obtain ⟨h0, HV⟩ | ⟨h0, h1, h2, h3, j, rfl, hj, HV⟩ := rs_ask s f l k
  · have hb : (askCode s f l k == 0) = false := beq_eq_false_iff_ne.2 h0
    generalize askCode s f l k = a at *
    clear h0 h
    go_enter Tryd.func7, Tryd.ntmps7
    go_wp2_with fail
    refine (HC.out _ (ostep HB0.out HO.out)).mono ?_
    rintro e w1 ⟨rfl, hb1⟩
    have HW1 := Hid.in_ (Wr.step hb1 HW.out)
    have HB1 := Hid.in_ (bstep HB0.out hb1)
    clear hb1
    obtain ⟨⟨y0, y1, y2, y3, y4, y5, y6, y7⟩, ⟨t0, t1, t2, t3, t4, t5, t6, t7⟩⟩ := wr8 HW1.out
    go_wp2
    (try simp only [Exit.inBlock, Exit.then])
    refine bodyPost_ret ?_ rfl ⟨(ret_fnd2 HV.out rfl).symm, below_put8 HB1.out (Nat.le_refl _) _ _ _ _ _ _ _ _⟩
    obtain ⟨⟨d0, d1, d2, d3, d4, d5, d6, d7⟩, _⟩ := wr8 (Wr.put8 HW1.out (.int .i64 0) (.int .i64 0) (.int .i64 0) (.int .i64 0) (.string ⟨#[]⟩) (.int .i64 0) (.bool false) (.int .i64 0))
    rw [results_cell_tmp rfl]
    simp [go_sem, Result.andThen, fndV, fnd0, d0, d1, d2, d3, d4, d5, d6, d7]
  · have HD := Hid.in_ (fun w h => show Calls Tryd.prog 26 #[.string s, .int .i64 f, v, .int .i64 (j : Int)] w fun e w' => e = .returned (fndV (rsF f s l j)) ∧ Below w.heap.size w w' from spec_l09Sector (v := v) (n := n) (b := b) (l := l) s f j w h h1 h2 h3 hj hn2)
    rw [h0] at HC
    clear h1 h2 h3 hj h hn2
    generalize rsF f s l j = R at *
    unfold fndV at HD
    go_enter Tryd.func7, Tryd.ntmps7
    go_wp2_with fail
    refine (HC.out _ (ostep HB0.out HO.out)).mono ?_
    rintro e w1 ⟨rfl, hb1⟩
    have HW1 := Hid.in_ (Wr.step hb1 HW.out)
    have HB1 := Hid.in_ (bstep HB0.out hb1)
    have HO1 := Hid.in_ (ostep HB1.out HO.out)

    clear hb1
    go_wp2_with fail
    refine (HD.out _ HO1.out).mono ?_
    rintro e w2 ⟨rfl, hb2⟩
    have HW2 := Hid.in_ (Wr.step hb2 HW1.out)
    have HB2 := Hid.in_ (bstep HB1.out hb2)
    clear hb2
    obtain ⟨⟨y0, y1, y2, y3, y4, y5, y6, y7⟩, ⟨t0, t1, t2, t3, t4, t5, t6, t7⟩⟩ := wr8 HW2.out
    go_wp2
    (try simp only [Exit.inBlock, Exit.then])
    refine bodyPost_ret ?_ rfl ⟨(ret_fnd2 HV.out h0).symm, below_put8 HB2.out (Nat.le_refl _) _ _ _ _ _ _ _ _⟩
    obtain ⟨⟨d0, d1, d2, d3, d4, d5, d6, d7⟩, _⟩ := wr8 (Wr.put8 HW2.out (.int .i64 R.c) (.int .i64 R.h) (.int .i64 R.n) (.int .i64 R.s) (.string R.d) (.int .i64 R.t) (.bool R.l) (.int .i64 R.p))
    rw [results_cell_tmp rfl]
    simp [go_sem, Result.andThen, fndV, fnd0, d0, d1, d2, d3, d4, d5, d6, d7]
end Go.Proofs.YtklaakhdpfgffabDoor
