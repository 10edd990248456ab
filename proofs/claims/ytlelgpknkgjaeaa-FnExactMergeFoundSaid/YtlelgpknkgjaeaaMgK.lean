/- 'l10Key', 'l10Before' of the reference; 'addressOf', 'address.compare' of the program. -/
import Derived.Test.YtlelgpknkgjaeaaMgP
import Derived.Test.YtlelgpknkgjaeaaWr
namespace Go.Proofs.Ytlelgpknkgjaeaa
open Go.ChangeShapes Go.WideShapes Go.ChangeAt Go.RowKit
set_option linter.unusedSimpArgs false
set_option linter.unusedVariables false
set_option maxRecDepth 4000

theorem boxAt4 {w : World} {b o : Nat} {a0 a1 a2 a3 : Value} (h : BoxAt w b o [a0, a1, a2, a3]) : w.cell? ⟨b, o, none⟩ = some a0 ∧ w.cell? ⟨b, o + 1, none⟩ = some a1 ∧ w.cell? ⟨b, o + 2, none⟩ = some a2 ∧ w.cell? ⟨b, o + 3, none⟩ = some a3 :=
  ⟨h 0 _ rfl, h 1 _ rfl, h 2 _ rfl, h 3 _ rfl⟩
theorem key_beq (f : FndR) (a : AdrR) : keyF f a = ((f.t != 2) && ((f.c == a.c) && ((f.h == a.h) && ((f.n == a.n) && (f.s == a.s))))) := by
  unfold keyF eqA FndR.adr
  cases e0 : (f.t != 2) <;> cases e1 : (f.c == a.c) <;> cases e2 : (f.h == a.h) <;> cases e3 : (f.n == a.n) <;> cases e4 : (f.s == a.s) <;> simp_all
set_option maxHeartbeats 2000000 in
theorem spec_l10Key {bf of bv ov : Nat} {f : FndR} {a : AdrR} (w : World) (hf : BoxAt w bf of f.cells) (hv : BoxAt w bv ov a.cells) :
    Calls Try.prog 96 #[.pointer (some ⟨bf, of, none⟩), .pointer (some ⟨bv, ov, none⟩)] w fun e w' => e = .returned (.bool (keyF f a)) ∧ ∃ k, w' = w.drewN k := by
  have HC := Hid.in_ (key_beq f a)
  obtain ⟨x0, x1, x2, x3, x4, x5, x6, x7⟩ := boxAt8 hf
  obtain ⟨y0, y1, y2, y3⟩ := boxAt4 hv
  clear hf hv
  obtain ⟨fc, fh, fn, fs, fd, ft, fl, fp⟩ := f
  obtain ⟨ac, ah, an, as_⟩ := a
  change Hid (keyF ⟨fc, fh, fn, fs, fd, ft, fl, fp⟩ ⟨ac, ah, an, as_⟩ = ((ft != 2) && ((fc == ac) && ((fh == ah) && ((fn == an) && (fs == as_)))))) at HC
  simp only at x0 x1 x2 x3 x4 x5 x6 x7 y0 y1 y2 y3
  cases e0 : (ft != 2)
  · have HO := Hid.in_ (HC.out.trans (by rw [e0]; try rfl))
    go_enter Try.func96, Try.ntmps96
    go_wp2_with fail
    go_quiet (fail)
    go_wp2
    go_ret
    exact ⟨ret_bool HO.out.symm, _, rfl⟩
  cases e1 : (fc == ac)
  · have HO := Hid.in_ (HC.out.trans (by rw [e0, e1] <;> try rfl))
    go_enter Try.func96, Try.ntmps96
    go_wp2_with fail
    go_quiet (fail)
    go_wp2
    go_ret
    exact ⟨ret_bool HO.out.symm, _, rfl⟩
  cases e2 : (fh == ah)
  · have HO := Hid.in_ (HC.out.trans (by rw [e0, e1, e2] <;> try rfl))
    go_enter Try.func96, Try.ntmps96
    go_wp2_with fail
    go_quiet (fail)
    go_wp2
    go_ret
    exact ⟨ret_bool HO.out.symm, _, rfl⟩
  cases e3 : (fn == an)
  · have HO := Hid.in_ (HC.out.trans (by rw [e0, e1, e2, e3] <;> try rfl))
    go_enter Try.func96, Try.ntmps96
    go_wp2_with fail
    go_quiet (fail)
    go_wp2
    go_ret
    exact ⟨ret_bool HO.out.symm, _, rfl⟩
  cases e4 : (fs == as_)
  · have HO := Hid.in_ (HC.out.trans (by rw [e0, e1, e2, e3, e4] <;> try rfl))
    go_enter Try.func96, Try.ntmps96
    go_wp2_with fail
    go_quiet (fail)
    go_wp2
    go_ret
    exact ⟨ret_bool HO.out.symm, _, rfl⟩
  · have HO := Hid.in_ (HC.out.trans (by rw [e0, e1, e2, e3, e4] <;> try rfl))
    go_enter Try.func96, Try.ntmps96
    go_wp2_with fail
    go_quiet (fail)
    go_wp2
    go_ret
    exact ⟨ret_bool HO.out.symm, _, rfl⟩
theorem dd2 (w : World) (a b : Nat) : (w.drewN a).drewN b = w.drewN (a + b) := by
  show ({ w with drawn := w.drawn + a + b } : World) = { w with drawn := w.drawn + (a + b) }
  rw [Nat.add_assoc]
theorem dd3 (w : World) (a b c : Nat) : ((w.drewN a).drewN b).drewN c = w.drewN (a + (b + c)) := by rw [dd2, dd2]
theorem dd4 (w : World) (a b c d : Nat) : (((w.drewN a).drewN b).drewN c).drewN d = w.drewN (a + (b + (c + d))) := by rw [dd2, dd2, dd2]
theorem dd5 (w : World) (a b c d e : Nat) : ((((w.drewN a).drewN b).drewN c).drewN d).drewN e = w.drewN (a + (b + (c + (d + e)))) := by rw [dd2, dd2, dd2, dd2]
theorem lt_cases (a b : AdrR) :
    (a.c ≠ b.c ∧ ((a.c < b.c ∧ Hid (ltA a b)) ∨ (¬ a.c < b.c ∧ Hid (¬ ltA a b)))) ∨
    (a.c = b.c ∧ a.h ≠ b.h ∧ ((a.h < b.h ∧ Hid (ltA a b)) ∨ (¬ a.h < b.h ∧ Hid (¬ ltA a b)))) ∨
    (a.c = b.c ∧ a.h = b.h ∧ a.n ≠ b.n ∧ ((a.n < b.n ∧ Hid (ltA a b)) ∨ (¬ a.n < b.n ∧ Hid (¬ ltA a b)))) ∨
    (a.c = b.c ∧ a.h = b.h ∧ a.n = b.n ∧ ((a.s < b.s ∧ Hid (ltA a b)) ∨ (¬ a.s < b.s ∧ Hid (¬ ltA a b)))) := by
  unfold Hid ltA
  omega
set_option maxHeartbeats 2000000 in
theorem spec_l10Before {bf of bv ov : Nat} {a b : AdrR} (w : World) (hf : BoxAt w bf of a.cells) (hv : BoxAt w bv ov b.cells) :
    Calls Try.prog 112 #[.pointer (some ⟨bf, of, none⟩), .pointer (some ⟨bv, ov, none⟩)] w fun e w' => e = .returned (.bool (decide (ltA a b))) ∧ ∃ k, w' = w.drewN k := by
  have HC := lt_cases a b
  obtain ⟨x0, x1, x2, x3⟩ := boxAt4 hf
  obtain ⟨y0, y1, y2, y3⟩ := boxAt4 hv
  clear hf hv
  obtain ⟨fc, fh, fn, fs⟩ := a
  obtain ⟨ac, ah, an, as_⟩ := b
  simp only at HC x0 x1 x2 x3 y0 y1 y2 y3
  obtain ⟨h1, ⟨h5, HO⟩ | ⟨h5, HO⟩⟩ | ⟨h1, h2, ⟨h5, HO⟩ | ⟨h5, HO⟩⟩ | ⟨h1, h2, h3, ⟨h5, HO⟩ | ⟨h5, HO⟩⟩ | ⟨h1, h2, h3, ⟨h5, HO⟩ | ⟨h5, HO⟩⟩ := HC
  all_goals
    try subst h1
    try subst h2
    try subst h3
    go_enter Try.func112, Try.ntmps112
    repeat (go_wp2_with fail; go_quiet (fail))
    go_wp2
    go_ret
    first
    | exact ⟨ret_bool (decide_eq_true HO.out).symm, by first | exact ⟨_, dd2 _ _ _⟩ | exact ⟨_, dd3 _ _ _ _⟩ | exact ⟨_, dd4 _ _ _ _ _⟩ | exact ⟨_, dd5 _ _ _ _ _ _⟩ | exact ⟨_, rfl⟩⟩
    | exact ⟨ret_bool (decide_eq_decide.2 (iff_of_false (by omega) HO.out)), by first | exact ⟨_, dd2 _ _ _⟩ | exact ⟨_, dd3 _ _ _ _⟩ | exact ⟨_, dd4 _ _ _ _ _⟩ | exact ⟨_, dd5 _ _ _ _ _ _⟩ | exact ⟨_, rfl⟩⟩
theorem wr_twoT (w : World) (t t' : TypeId) (Z F : List Value) : Wr ((w.alloc (.cells Z.toArray t)).alloc (.cells F.toArray t')) w.heap.size Z ∧ Wr ((w.alloc (.cells Z.toArray t)).alloc (.cells F.toArray t')) (w.heap.size + 1) F ∧
    Below w.heap.size w ((w.alloc (.cells Z.toArray t)).alloc (.cells F.toArray t')) := by
  have h1 : (w.alloc (.cells Z.toArray t)).heap.size = w.heap.size + 1 := by unfold World.alloc; rw [Array.size_push]
  refine ⟨Wr.step (balloc (Below.refl _ _) _) (Wr.new w Z t), ?_, balloc (balloc (Below.refl _ _) _) _⟩
  have := Wr.new (w.alloc (.cells Z.toArray t)) F t'
  rw [h1] at this
  exact this
theorem wr4a {w : World} {b : Nat} {a0 a1 a2 a3 : Value} (h : Wr w b [a0, a1, a2, a3]) : (w.cell? ⟨b, 0, none⟩ = some a0 ∧ w.cell? ⟨b, 1, none⟩ = some a1 ∧ w.cell? ⟨b, 2, none⟩ = some a2 ∧ w.cell? ⟨b, 3, none⟩ = some a3) ∧
    (w.frozen? ⟨b, 0, none⟩ = false ∧ w.frozen? ⟨b, 1, none⟩ = false ∧ w.frozen? ⟨b, 2, none⟩ = false ∧ w.frozen? ⟨b, 3, none⟩ = false) :=
  ⟨⟨h.box 0 _ rfl, h.box 1 _ rfl, h.box 2 _ rfl, h.box 3 _ rfl⟩, h.soft 0, h.soft 1, h.soft 2, h.soft 3⟩
theorem Wr.put4a {w : World} {b : Nat} {a0 a1 a2 a3 : Value} (h : Wr w b [a0, a1, a2, a3]) (x0 x1 x2 x3 : Value) :
    Wr ((((w.setCell ⟨b, 0, none⟩ x0).setCell ⟨b, 1, none⟩ x1).setCell ⟨b, 2, none⟩ x2).setCell ⟨b, 3, none⟩ x3) b [x0, x1, x2, x3] :=
  (((h.set x0 (i := 0) (by simp)).set x1 (i := 1) (by simp)).set x2 (i := 2) (by simp)).set x3 (i := 3) (by simp)
theorem below_put4a {W w : World} {B b : Nat} (h : Below B W w) (hb : B ≤ b) (x0 x1 x2 x3 : Value) :
    Below B W ((((w.setCell ⟨b, 0, none⟩ x0).setCell ⟨b, 1, none⟩ x1).setCell ⟨b, 2, none⟩ x2).setCell ⟨b, 3, none⟩ x3) :=
  (((h.setCell (p := ⟨b, 0, none⟩) hb _).setCell (p := ⟨b, 1, none⟩) hb _).setCell (p := ⟨b, 2, none⟩) hb _).setCell (p := ⟨b, 3, none⟩) hb _
set_option maxHeartbeats 1000000 in
theorem impl_addressOf (c h n s : Int) (d t l p : Value) (w : World) :
    Calls Try.prog 101 #[.agg #[.int .i64 c, .int .i64 h, .int .i64 n, .int .i64 s, d, t, l, p]] w fun e w' => e = .returned (.agg #[.int .i64 c, .int .i64 h, .int .i64 n, .int .i64 s]) ∧ Below w.heap.size w w' := by
  have hW := wr_twoT w 128 136 [.int .i64 c, .int .i64 h, .int .i64 n, .int .i64 s, d, t, l, p] [.int .i64 0, .int .i64 0, .int .i64 0, .int .i64 0]
  obtain ⟨⟨x0, x1, x2, x3, x4, x5, x6, x7⟩, _⟩ := wr8 hW.1
  have hW2 := wr_twoT w 128 136 [.int .i64 c, .int .i64 h, .int .i64 n, .int .i64 s, d, t, l, p] [.int .i64 c, .int .i64 h, .int .i64 n, .int .i64 s]
  obtain ⟨⟨d0, d1, d2, d3⟩, _⟩ := wr4a hW2.2.1
  have HB := Hid.in_ hW2.2.2
  clear hW hW2
  go_enter Try.func101, Try.ntmps101
  go_wp2
  refine bodyPost_ret ?_ rfl ⟨rfl, HB.out⟩
  simp [results, Try.results101, go_sem, d0, d1, d2, d3]
end Go.Proofs.Ytlelgpknkgjaeaa
