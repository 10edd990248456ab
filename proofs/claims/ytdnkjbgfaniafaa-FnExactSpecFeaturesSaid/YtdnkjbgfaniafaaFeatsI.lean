/- 'sectorFeatures' of the program: its two closures, and the features of sectors. -/
import Derived.Test.YtdnkjbgfaniafaaFeats
import Derived.Test.YtdnkjbgfaniafaaWr
import Derived.Test.YtdnkjbgfaniafaaSame
import Derived.Test.YtdnkjbgfaniafaaShelfF
import Derived.Deep.DeepCutAuto
import Derived.Deep.RegionHeld3
namespace Go.Proofs.Ytdnkjbgfaniafaa
open Go.ChangeShapes Go.WideShapes Go.ChangeAt Go.RowKit
set_option linter.unusedVariables false
set_option linter.unusedSimpArgs false
set_option maxRecDepth 4000

instance : Inhabited FndR := ⟨FndR.zero⟩
theorem impl_addressOf (c h n s : Int) (d : ByteArray) (t : Int) (l : Bool) (p : Int) (w : World) :
    Calls Try.prog 99 #[.agg #[.int .i64 c, .int .i64 h, .int .i64 n, .int .i64 s, .string d, .int .i64 t, .bool l, .int .i64 p]] w fun e w' => e = .returned (.agg #[.int .i64 c, .int .i64 h, .int .i64 n, .int .i64 s]) ∧ Below w.heap.size w w' := by
  go_enter Try.func99, Try.ntmps99
  go_wp2
  go_returns
  exact ⟨rfl, by go_grown⟩
theorem Try.guard_Addr (a b c d a' b' c' d' : Int) (op : BinOp) (x y : Operand) (w : World) : (eqGuard op 129 x y (.agg #[.int .i64 a, .int .i64 b, .int .i64 c, .int .i64 d]) (.agg #[.int .i64 a', .int .i64 b', .int .i64 c', .int .i64 d'])).run Try.prog w = .ok () w := run_eqGuard_agg w op 129 x y _ _ (by kernel_rfl)
theorem Try.eql_Addr (a b c d a' b' c' d' : Int) (w : World) : (binOp .eql 129 (.agg #[.int .i64 a, .int .i64 b, .int .i64 c, .int .i64 d]) (.agg #[.int .i64 a', .int .i64 b', .int .i64 c', .int .i64 d'])).run Try.prog w = .ok (.bool ((a == a') && ((b == b') && ((c == c') && (d == d'))))) w := by
  have hE : (Op.equalIn 10000 129 (.agg #[.int .i64 a, .int .i64 b, .int .i64 c, .int .i64 d]) (.agg #[.int .i64 a', .int .i64 b', .int .i64 c', .int .i64 d'])).run Try.prog w = .ok ((a == a') && ((b == b') && ((c == c') && ((d == d') && true)))) w := by
    refine (run_equalIn_agg w 9999 129 _ _ (by kernel_rfl) (by kernel_rfl)).trans ?_
    simp only [Program.fieldsOf, Try.underlying129]
    refine eqF_step (by kernel_rfl) (by kernel_rfl) rfl rfl (run_equalIn_int w 9998 2 .i64 .i64 _ _ Try.underlying2) ?_
    refine eqF_step (by kernel_rfl) (by kernel_rfl) rfl rfl (run_equalIn_int w 9998 2 .i64 .i64 _ _ Try.underlying2) ?_
    refine eqF_step (by kernel_rfl) (by kernel_rfl) rfl rfl (run_equalIn_int w 9998 2 .i64 .i64 _ _ Try.underlying2) ?_
    refine eqF_step (by kernel_rfl) (by kernel_rfl) rfl rfl (run_equalIn_int w 9998 2 .i64 .i64 _ _ Try.underlying2) ?_
    rfl
  rw [run_eql_struct, hE, Bool.and_true]
  rfl
set_option maxHeartbeats 2000000 in
theorem impl_pred (f : FndR) (F : Nat) (w : World) (hF : F < w.heap.size) (hB : Box w F f.cells) :
    PredBelow Try.prog 113 #[.pointer (some ⟨F, 0, none⟩)] (fun x : FndR => .agg x.cells.toArray) (fun y => isFirst f y) w := fun W x hb => by
  have hW := hB.step hb
  have hBW : F < W.heap.size := Nat.lt_of_lt_of_le hF hb.size
  have hne : F ≠ W.heap.size := by omega
  obtain ⟨c, h, n, s, d, t, l, p⟩ := x
  obtain ⟨c', h', n', s', d', t', l', p'⟩ := f
  have HV := Hid.in_ (show isFirst ⟨c', h', n', s', d', t', l', p'⟩ ⟨c, h, n, s, d, t, l, p⟩ = (!(t == 2) && ((c == c') && ((h == h') && ((n == n') && (s == s'))))) from rfl)
  show Calls Try.prog 113 #[.agg #[.int .i64 c, .int .i64 h, .int .i64 n, .int .i64 s, .string d, .int .i64 t, .bool l, .int .i64 p], .pointer (some ⟨F, 0, none⟩)] W fun e w' => e = .returned (.bool (isFirst ⟨c', h', n', s', d', t', l', p'⟩ ⟨c, h, n, s, d, t, l, p⟩)) ∧ Below w.heap.size w w'
  obtain ⟨z0, z1, z2, z3, z4, z5, z6, z7⟩ := box8 hW
  have HZ := Hid.in_ hW
  have hq := Try.eql_Addr c h n s c' h' n' s'
  have hg := Try.guard_Addr c h n s c' h' n' s'
  have HB := Hid.in_ hb
  clear hb hB hF hW
  cases e2 : (t == 2)
  · have e2' : (t != 2) = true := by rw [bne, e2]; rfl
    rw [HV.out, e2]
    go_enter Try.func113, Try.ntmps113
    go_wp2_with fail
    have hN := Box.new W [.int .i64 c, .int .i64 h, .int .i64 n, .int .i64 s, .string d, .int .i64 t, .bool l, .int .i64 p] 90
    have hZ2 := HZ.out.step (balloc (Below.refl _ W) (.cells #[.int .i64 c, .int .i64 h, .int .i64 n, .int .i64 s, .string d, .int .i64 t, .bool l, .int .i64 p] 90))
    have qB := balloc HB.out (.cells #[.int .i64 c, .int .i64 h, .int .i64 n, .int .i64 s, .string d, .int .i64 t, .bool l, .int .i64 p] 90)
    change Box (W.alloc (.cells #[.int .i64 c, .int .i64 h, .int .i64 n, .int .i64 s, .string d, .int .i64 t, .bool l, .int .i64 p] 90)) W.heap.size _ at hN
    generalize W.alloc (.cells #[.int .i64 c, .int .i64 h, .int .i64 n, .int .i64 s, .string d, .int .i64 t, .bool l, .int .i64 p] 90) = W1 at *
    obtain ⟨G, hG⟩ : ∃ G, W.heap.size = G := ⟨_, rfl⟩
    rw [hG] at hN ⊢
    clear z0 z1 z2 z3 z4 z5 z6 z7
    obtain ⟨z0, z1, z2, z3, z4, z5, z6, z7⟩ := box8 hZ2
    obtain ⟨y0, y1, y2, y3, y4, y5, y6, y7⟩ := box8 hN
    clear hN hZ2
    go_region_held3 (fun w' => w'.cell? ⟨F, 0, none⟩ = some (.int .i64 c') ∧ w'.cell? ⟨F, 1, none⟩ = some (.int .i64 h') ∧ w'.cell? ⟨F, 2, none⟩ = some (.int .i64 n') ∧ w'.cell? ⟨F, 3, none⟩ = some (.int .i64 s') ∧ w'.cell? ⟨F, 4, none⟩ = some (.string d') ∧ w'.cell? ⟨F, 5, none⟩ = some (.int .i64 t') ∧ w'.cell? ⟨F, 6, none⟩ = some (.bool l') ∧ w'.cell? ⟨F, 7, none⟩ = some (.int .i64 p') ∧ w'.cell? ⟨G, 0, none⟩ = some (.int .i64 c) ∧ w'.cell? ⟨G, 1, none⟩ = some (.int .i64 h) ∧ w'.cell? ⟨G, 2, none⟩ = some (.int .i64 n) ∧ w'.cell? ⟨G, 3, none⟩ = some (.int .i64 s) ∧ w'.cell? ⟨G, 4, none⟩ = some (.string d) ∧ w'.cell? ⟨G, 5, none⟩ = some (.int .i64 t) ∧ w'.cell? ⟨G, 6, none⟩ = some (.bool l) ∧ w'.cell? ⟨G, 7, none⟩ = some (.int .i64 p) ∧ Below w.heap.size w w')
      (first | exact ⟨z0, z1, z2, z3, z4, z5, z6, z7, y0, y1, y2, y3, y4, y5, y6, y7, qB.drew⟩ | exact ⟨e0, e1, e2, e3, e4, e5, e6, e7, e8, e9, e10, e11, e12, e13, e14, e15, eB⟩ | assumption)
      (first | (go_at_call 99; refine (impl_addressOf _ _ _ _ _ _ _ _ _).mono ?_; rintro e w6 ⟨rfl, hb6⟩; have e0 : w6.cell? ⟨F, 0, none⟩ = some (.int .i64 c') := (by first | exact cstep hb6 e0 | exact cstep hb6 z0); have e1 : w6.cell? ⟨F, 1, none⟩ = some (.int .i64 h') := (by first | exact cstep hb6 e1 | exact cstep hb6 z1); have e2 : w6.cell? ⟨F, 2, none⟩ = some (.int .i64 n') := (by first | exact cstep hb6 e2 | exact cstep hb6 z2); have e3 : w6.cell? ⟨F, 3, none⟩ = some (.int .i64 s') := (by first | exact cstep hb6 e3 | exact cstep hb6 z3); have e4 : w6.cell? ⟨F, 4, none⟩ = some (.string d') := (by first | exact cstep hb6 e4 | exact cstep hb6 z4); have e5 : w6.cell? ⟨F, 5, none⟩ = some (.int .i64 t') := (by first | exact cstep hb6 e5 | exact cstep hb6 z5); have e6 : w6.cell? ⟨F, 6, none⟩ = some (.bool l') := (by first | exact cstep hb6 e6 | exact cstep hb6 z6); have e7 : w6.cell? ⟨F, 7, none⟩ = some (.int .i64 p') := (by first | exact cstep hb6 e7 | exact cstep hb6 z7); have e8 : w6.cell? ⟨G, 0, none⟩ = some (.int .i64 c) := (by first | exact cstep hb6 e8 | exact cstep hb6 y0); have e9 : w6.cell? ⟨G, 1, none⟩ = some (.int .i64 h) := (by first | exact cstep hb6 e9 | exact cstep hb6 y1); have e10 : w6.cell? ⟨G, 2, none⟩ = some (.int .i64 n) := (by first | exact cstep hb6 e10 | exact cstep hb6 y2); have e11 : w6.cell? ⟨G, 3, none⟩ = some (.int .i64 s) := (by first | exact cstep hb6 e11 | exact cstep hb6 y3); have e12 : w6.cell? ⟨G, 4, none⟩ = some (.string d) := (by first | exact cstep hb6 e12 | exact cstep hb6 y4); have e13 : w6.cell? ⟨G, 5, none⟩ = some (.int .i64 t) := (by first | exact cstep hb6 e13 | exact cstep hb6 y5); have e14 : w6.cell? ⟨G, 6, none⟩ = some (.bool l) := (by first | exact cstep hb6 e14 | exact cstep hb6 y6); have e15 : w6.cell? ⟨G, 7, none⟩ = some (.int .i64 p) := (by first | exact cstep hb6 e15 | exact cstep hb6 y7); have eB : Below w.heap.size w w6 := (by first | exact bstep eB hb6 | exact bstep qB hb6 | exact bstep qB.drew hb6)))
    all_goals
      go_wp2
      go_ret
      exact ⟨by first | rfl | simp, eB⟩
  · have e2' : (t != 2) = false := by rw [bne, e2]; rfl
    rw [HV.out, e2]
    go_enter Try.func113, Try.ntmps113
    go_wp2_with fail
    go_quiet (fail)
    go_wp2
    go_ret
    exact ⟨rfl, below_drewN (balloc HB.out _) _⟩
theorem grown_set (w : World) (b i : Nat) (u : Value) : w.grownBy (w.setCell ⟨b, i, none⟩ u) (some b) where
  os := rfl
  tape := rfl
  output := rfl
  size := by simp [World.setCell]
  block := fun k _ hk => Below.heap_setCell _ _ _ k (fun e => hk (by rw [e]))
/-- The state of a round of the program: the variable of the features (block B), the index (block I), the sector (block F). -/
structure RSt (w0 w : World) (B I F : Nat) (f : FndR) (kk : Int) (v : Value) (L : List FeatR) : Prop where
  st : SSt w0 w v F f L
  cB : w.cell? ⟨B, 0, none⟩ = some v
  sB : w.frozen? ⟨B, 0, none⟩ = false
  cI : w.cell? ⟨I, 0, none⟩ = some (.int .i64 kk)
  lB : B < w.heap.size
  lI : I < w.heap.size
  gB : w0.heap.size ≤ B
  nB : v.ownBlock ≠ some B
  nI : v.ownBlock ≠ some I
  BI : B ≠ I
  BF : B ≠ F
theorem RSt.step {w0 w w' : World} {B I F : Nat} {f : FndR} {kk : Int} {v : Value} {L : List FeatR} (h : RSt w0 w B I F f kk v L) (k : Below w.heap.size w w') : RSt w0 w' B I F f kk v L :=
  ⟨h.st.step k, cstep k h.cB, (k.frozen (p := ⟨B, 0, none⟩) h.lB).trans h.sB, cstep k h.cI, Nat.lt_of_lt_of_le h.lB k.size, Nat.lt_of_lt_of_le h.lI k.size, h.gB, h.nB, h.nI, h.BI, h.BF⟩
theorem RSt.alloc {w0 w : World} {B I F : Nat} {f : FndR} {kk : Int} {v : Value} {L : List FeatR} (h : RSt w0 w B I F f kk v L) (o : Obj) : RSt w0 (w.alloc o) B I F f kk v L := h.step (balloc (Below.refl _ _) o)
theorem RSt.push {w0 w w' : World} {B I F g cap : Nat} {f : FndR} {kk : Int} {v : Value} {L : List FeatR} (h : RSt w0 w B I F f kk v L) {a b c : Int}
    (ho : w'.ownsRow w0.heap.size 115 3 (.slice (some ⟨g, 0, none⟩) (L.length + 1) cap) (L.length + 1) (L.flatMap FeatR.cells ++ [.int .i64 a, .int .i64 b, .int .i64 c])) (hg : w.grownBy w' v.ownBlock) (hat : v.ownBlock = some g ∨ g = w.heap.size) :
    RSt w0 (w'.setCell ⟨B, 0, none⟩ (.slice (some ⟨g, 0, none⟩) (L.length + 1) cap)) B I F f kk (.slice (some ⟨g, 0, none⟩) (L.length + 1) cap) (L ++ [⟨a, b, c⟩]) := by
  have h1 := h.st.push ho hg hat
  have hgB : g ≠ B := fun e => by
    rcases hat with h2 | h2
    · exact h.nB (by rw [h2, e])
    · have := h.lB; omega
  have hgI : g ≠ I := fun e => by
    rcases hat with h2 | h2
    · exact h.nI (by rw [h2, e])
    · have := h.lI; omega
  have hsz : (w'.setCell ⟨B, 0, none⟩ (.slice (some ⟨g, 0, none⟩) (L.length + 1) cap)).heap.size = w'.heap.size := by simp [World.setCell]
  have cB : w'.cell? ⟨B, 0, none⟩ = some v := hg.cell h.cB (fun e => h.nB e.symm)
  have cI : w'.cell? ⟨I, 0, none⟩ = some (.int .i64 kk) := hg.cell h.cI (fun e => h.nI e.symm)
  have hG := grown_set w' B 0 (.slice (some ⟨g, 0, none⟩) (L.length + 1) cap)
  refine ⟨⟨h1.row.kept hG (.inr fun e => hgB (by simpa [Value.ownBlock] using e)), h1.box.far h.BF 0 _, by rw [hsz]; exact h1.lt, h1.far, h1.below.setCell (p := ⟨B, 0, none⟩) h.gB _⟩, World.cell?_setCell_same _ _ _ cB, ?_, ?_, by rw [hsz]; exact Nat.lt_of_lt_of_le h.lB hg.size, by rw [hsz]; exact Nat.lt_of_lt_of_le h.lI hg.size, h.gB, ?_, ?_, h.BI, h.BF⟩
  · rw [World.frozen?_setCell]
    exact (World.frozen?_of_block (hg.block B h.lB (fun e => h.nB e.symm))).trans h.sB
  · exact hG.cell cI (fun e => h.BI (by injection e with e; exact e.symm))
  · intro e
    exact hgB (by simpa [Value.ownBlock] using e)
  · intro e
    exact hgI (by simpa [Value.ownBlock] using e)
set_option maxHeartbeats 2000000 in
theorem impl_add {w0 w : World} {B I F : Nat} {f : FndR} {kk : Int} {v : Value} {L : List FeatR} (kind value : Int) (h : RSt w0 w B I F f kk v L) (hL : L.length ≤ 16777216) :
    Calls Try.prog 111 #[.int .i64 kind, .int .i64 value, .pointer (some ⟨B, 0, none⟩), .pointer (some ⟨I, 0, none⟩)] w fun e w' => e = .returned (.tuple #[]) ∧ ∃ v', RSt w0 w' B I F f kk v' (L ++ [⟨kind, kk, value⟩]) := by
  obtain ⟨i0, hti, hz0, hz1, hz2⟩ := info_parts Try.info_Feature
  have HS := Hid.in_ h
  have c1 := h.cB
  have c2 := h.sB
  have c3 := h.cI
  have h63 : L.length + 1 ≤ maxLen := by unfold maxLen; omega
  have hby : (L.length + 1) * 24 ≤ 140737488355328 := by omega
  clear h
  go_enter Try.func111, Try.ntmps111
  go_wp2_with (at_builtin; refine wpList_append_lies _ rfl _ _ 68 rfl w0.heap.size 115 i0 (.agg #[.int .i64 0, .int .i64 0, .int .i64 0]) 3 24 Try.underlying68 hti hz0 hz1 hz2 rfl (by decide) _ _ _ rfl (HS.out.alloc _).st.row ⟨_, 0, none⟩ 1 1 [_, _, _] rfl rfl (cells3a rfl) (fun x hx => by simp at hx; rcases hx with rfl | rfl | rfl <;> rfl) (by decide) h63 hby (HS.out.alloc _).st.below.size _ rfl ?_; intro g6 cp6 w6 ho6 hg6 hat6 hlt6; have HR := Hid.in_ ((HS.out.alloc _).push ho6 hg6 hat6); have d1 : w6.cell? ⟨B, 0, none⟩ = some v := hg6.cell (HS.out.alloc _).cB (fun e => HS.out.nB e.symm); have d2 : w6.frozen? ⟨B, 0, none⟩ = false := (World.frozen?_of_block (hg6.block B (HS.out.alloc _).lB (fun e => HS.out.nB e.symm))).trans (HS.out.alloc _).sB; clear ho6 hg6 hat6 hlt6)
  go_end0
  exact ⟨rfl, _, HR.out⟩
theorem fnd_get! (l : List FndR) (j : Nat) : l[j]! = fndAt l j := by
  unfold fndAt
  rw [List.getD_eq_getElem?_getD, List.getElem!_eq_getElem?_getD]
  rfl
theorem idx_first {l : List FndR} {k : Nat} {m : FndR} (hm : fndAt l k = m) (hk : k ≤ l.length) : Lib.idxBy (fun _ y => isFirst m y) (l.take k) default = if firstOf l k < k then (firstOf l k : Int) else -1 := by
  rcases firstN_cases (fun j => isFirst (fndAt l k) (fndAt l j)) k with h | ⟨i, hi, hp, ha⟩
  · have e : firstOf l k = k := firstN_miss h
    rw [e, if_neg (by omega)]
    exact Lib.idxBy_miss (fun _ y => isFirst m y) l k default (fun j hj => by rw [fnd_get!, ← hm]; exact h j hj)
  · have e : firstOf l k = i := firstN_hit hp ha hi
    rw [e, if_pos hi]
    exact Lib.idxBy_hit (fun _ y => isFirst m y) l k i default hi hk (by show isFirst m l[i]! = true; rw [fnd_get!, ← hm]; exact hp) (fun j hj => by rw [fnd_get!, ← hm]; exact ha j hj)
/-- The state between two rounds. -/
structure QSt (w0 w : World) (B : Nat) (v : Value) (L : List FeatR) : Prop where
  row : w.ownsRow w0.heap.size 115 3 v L.length (L.flatMap FeatR.cells)
  cB : w.cell? ⟨B, 0, none⟩ = some v
  sB : w.frozen? ⟨B, 0, none⟩ = false
  lB : B < w.heap.size
  gB : w0.heap.size ≤ B
  nB : v.ownBlock ≠ some B
  below : Below w0.heap.size w0 w
theorem RSt.toQ {w0 w : World} {B I F : Nat} {f : FndR} {kk : Int} {v : Value} {L M : List FeatR} (h : RSt w0 w B I F f kk v L) (e : L = M) : QSt w0 w B v M := by
  subst e
  exact ⟨h.st.row, h.cB, h.sB, h.lB, h.gB, h.nB, h.st.below⟩
theorem RSt.cast {w0 w : World} {B I F : Nat} {f : FndR} {kk : Int} {v : Value} {L M : List FeatR} (h : RSt w0 w B I F f kk v L) (e : L = M) : RSt w0 w B I F f kk v M := by rw [← e]; exact h
theorem QSt.start {w0 w : World} {B : Nat} {v : Value} {L : List FeatR} (h : QSt w0 w B v L) (k : Int) (m : FndR) (t1 : TypeId) :
    RSt w0 ((w.alloc (.cells #[.int .i64 k] t1)).alloc (.cells m.cells.toArray 90)) B w.heap.size (w.heap.size + 1) m k v L := by
  have h1 := balloc (Below.refl w.heap.size w) (.cells #[.int .i64 k] t1)
  have h2 := balloc h1 (.cells m.cells.toArray 90)
  have hs : (w.alloc (.cells #[.int .i64 k] t1)).heap.size = w.heap.size + 1 := by simp
  have hs2 : ((w.alloc (.cells #[.int .i64 k] t1)).alloc (.cells m.cells.toArray 90)).heap.size = w.heap.size + 2 := by simp
  have hn := Box.new (w.alloc (.cells #[.int .i64 k] t1)) m.cells 90
  rw [hs] at hn
  have hI := Box.new w [.int .i64 k] t1
  have hfar : ∀ q, w.heap.size ≤ q → v.ownBlock ≠ some q := fun q hq e => by
    have := (h.row.lt _ e).2
    omega
  exact ⟨⟨ostep h2 h.row, hn, by rw [hs2]; omega, hfar _ (by omega), bstep h.below h2⟩, cstep h2 h.cB, (h2.frozen (p := ⟨B, 0, none⟩) h.lB).trans h.sB,
    cstep (balloc (Below.refl _ _) _) (hI 0 _ rfl), by rw [hs2]; have := h.lB; omega, by rw [hs2]; omega, h.gB, h.nB, hfar _ (Nat.le_refl _), by have := h.lB; omega, by have := h.lB; omega⟩
theorem own_cap {w : World} {base : Nat} {e : TypeId} {size n c : Nat} {A : Option Addr} {xs : List Value} (h : w.ownsRow base e size (.slice A n c) n xs) : n ≤ c := by
  rcases h.2 with ⟨hv, h0⟩ | ⟨g, cap, cur, hv, _, _, hc, _⟩
  · omega
  · injection hv with _ _ h3
    omega
theorem len_pushI {M : List FeatR} {N : Nat} (h : M.length ≤ N) (b : Bool) (x : FeatR) : (M ++ (if b = true then [x] else [])).length ≤ N + 1 := by
  rw [List.length_append]
  cases b <;> simp <;> omega
set_option maxHeartbeats 16000000 in
theorem impl_sectorFeatures {v : Value} {n b0 : Nat} {l : List FndR} (cy hd : Int) (w : World) (h : w.ownsRow b0 90 8 v n (l.flatMap FndR.cells)) (hn2 : n ≤ 1048576) :
    Calls Try.prog 84 #[v, .int .i64 cy, .int .i64 hd] w fun e w' => ∃ v', e = .returned v' ∧ w'.ownsRow w.heap.size 115 3 v' (featsTo l cy hd n).length ((featsTo l cy hd n).flatMap FeatR.cells) ∧ Below w.heap.size w w' := by
  obtain ⟨A, c, rfl, hl, hn, hA⟩ := own_shape h
  have HL : Hid (l.length = n) := by rw [flat_len FndR.len] at hl; unfold Hid; omega
  have H1 := Hid.in_ hA
  have hcap := own_cap h
  have hWr := Wr.new w [.slice none 0 0] 68
  have HQ0 := Hid.in_ (show QSt w (w.alloc (.cells #[.slice none 0 0] 68)) w.heap.size (.slice none 0 0) [] from ⟨World.ownsRow_nil _ _ _ _, hWr.box 0 _ rfl, hWr.soft 0, hWr.lt, Nat.le_refl _, by simp [Value.ownBlock], balloc (Below.refl _ _) _⟩)
  obtain ⟨B, hBB⟩ : ∃ B, w.heap.size = B := ⟨_, rfl⟩
  have HBB := Hid.in_ hBB
  clear hA hl h hWr
  go_enter Try.func84, Try.ntmps84
  go_wp2_with fail
  rw [hBB] at HQ0
  clear hBB
  go_loopg [14] n (fun m i wr => ∃ k : Nat, k + m = n ∧ i = .int .i64 k ∧ ∃ v, Hid (QSt w wr B v (featsTo l cy hd k)))
  case atStart => exact ⟨0, by omega, rfl, _, HQ0⟩
  case round =>
    obtain ⟨k, hkm, rfl, v, HQ⟩ := hrel
    have HK := Hid.in_ hkm
    clear hkm
    by_cases hlt : k < n
    · obtain ⟨g1, rfl, _, hg1, hx1, _⟩ := H1.out (by omega)
      obtain ⟨m, hm⟩ := get_lt l k (by rw [HL.out]; exact hlt)
      obtain ⟨x0, x1, x2, x3, x4, x5, x6, x7⟩ := boxAt8 ((Box.elem FndR.len hx1 hm).step HQ.out.below)
      have HX := Hid.in_ hx1
      have HM := Hid.in_ (fndAt_eq hm)
      have HLL := Hid.in_ (show (featsTo l cy hd k).length ≤ 5242880 from by have := featsTo_len l cy hd k; omega)
      have HNN := Hid.in_ (show featsTo l cy hd (k + 1) = featsTo l cy hd k ++ featsAt l cy hd k from rfl)
      have HR := Hid.in_ (HQ.out.start (k : Int) m 3)
      obtain ⟨mc, mh, mn, ms, md, mt, ml, mp⟩ := m
      obtain ⟨r, hr⟩ : ∃ r, wr.heap.size = r := ⟨_, rfl⟩
      rw [hr] at HR
      obtain ⟨y0, y1, y2, y3, y4, y5, y6, y7⟩ := box8 HR.out.st.box
      cases e2 : (mt == 2)
      case true =>
        have HFA := Hid.in_ (featsAt_2 (cy := cy) (hd := hd) HM.out e2)
        go_wp2_with fail
        refine (impl_add _ _ HR.out (by have := HLL.out; omega)).mono ?_
        rintro e w6 ⟨rfl, v6, hR6⟩
        have HR := Hid.in_ hR6
        clear hR6
        go_wp2
        have hk := HK.out
        go_roundg (gk - 1)
        case measure => omega
        case rel => exact ⟨k + 1, by omega, by go_num, _, HR.out.toQ (by rw [HNN.out, HFA.out])⟩
      case false =>
        have hkc : (k : Int) ≤ (c : Int) := by omega
        obtain ⟨i, hi⟩ : ∃ i, firstOf l k = i := ⟨_, rfl⟩
        obtain ⟨bi, ei⟩ : ∃ b : Bool, decide (i < k) = b := ⟨_, rfl⟩
        obtain ⟨bc, ec⟩ : ∃ b : Bool, (mc != cy) = b := ⟨_, rfl⟩
        obtain ⟨bh, eh⟩ : ∃ b : Bool, (mh != hd) = b := ⟨_, rfl⟩
        obtain ⟨b3, e3⟩ : ∃ b : Bool, (mt == 3) = b := ⟨_, rfl⟩
        obtain ⟨b4, e4⟩ : ∃ b : Bool, (mt == 4) = b := ⟨_, rfl⟩
        have HFA := Hid.in_ (featsAt_n (cy := cy) (hd := hd) HM.out e2 hi ei ec eh e3 e4 rfl)
        have hix := idx_first HM.out (show k ≤ l.length by rw [HL.out]; omega)
        obtain ⟨z, hz⟩ : ∃ z, Lib.idxBy (fun _ y => isFirst ⟨mc, mh, mn, ms, md, mt, ml, mp⟩ y) (l.take k) default = z := ⟨_, rfl⟩
        rw [hz, hi] at hix
        have HZ := Hid.in_ (show bi = true → z = (i : Int) from fun h => by rw [hix, if_pos (by rw [← ei] at h; exact of_decide_eq_true h)])
        have ez : decide ((0 : Int) ≤ z) = bi := by
          rw [hix, ← ei]
          by_cases h : i < k
          · rw [if_pos h, decide_eq_true h, decide_eq_true (by omega)]
          · rw [if_neg h, decide_eq_false h]; rfl
        have HIX := Hid.in_ (fun (w1 : World) (hb : Below w.heap.size w w1) (hF : r + 1 < w1.heap.size) (hB : Box w1 (r + 1) (FndR.cells ⟨mc, mh, mn, ms, md, mt, ml, mp⟩)) =>
          show Calls Try.prog 112 #[.slice (some ⟨g1, 0, none⟩) k c, .func (.func 113) #[] #[.pointer (some ⟨r + 1, 0, none⟩)]] w1 fun e w' => e = .returned (.int .i64 z) ∧ Below w1.heap.size w1 w' from by
            rw [← hz]
            exact AnyQ.slices_IndexFunc Try.lays112 8 Try.isAgg90 Try.sizeOf90 FndR.cells (fun _ => rfl) (fun y => isFirst ⟨mc, mh, mn, ms, md, mt, ml, mp⟩ y) 113 #[.pointer (some ⟨r + 1, 0, none⟩)]
              (enters_of Try.func113 (by kernel_rfl) rfl) g1 0 k c l w1 (impl_pred ⟨mc, mh, mn, ms, md, mt, ml, mp⟩ (r + 1) w1 hF hB) (by rw [HL.out]; omega) (by omega) (Nat.lt_of_lt_of_le hg1 hb.size) (fun j hj q u hu => by
                have hjm : l[j]? = some l[j]! := by rw [List.getElem!_eq_getElem?_getD, List.getElem?_eq_getElem hj]; rfl
                have := (Box.elem FndR.len HX.out hjm).step hb q u hu
                rw [Nat.zero_add]
                exact this))
        clear hi ei hix hz HX
        go_wp2_with fail
        refine (HIX.out _ HR.out.st.below HR.out.st.lt HR.out.st.box).mono ?_
        rintro e w5 ⟨rfl, hb5⟩
        have HR := Hid.in_ (HR.out.step hb5)
        clear hb5 x0 x1 x2 x3 x4 x5 x6 x7 y0 y1 y2 y3 y4 y5 y6 y7
        obtain ⟨y0, y1, y2, y3, y4, y5, y6, y7⟩ := box8 HR.out.st.box
        go_upto_if 31 with fail
        go_cut [] (fun wx => ∃ v, Hid (RSt w wx B r (r + 1) ⟨mc, mh, mn, ms, md, mt, ml, mp⟩ k v (featsTo l cy hd k ++ (if bi = true then ([⟨1, (k : Int), z⟩] : List FeatR) else []))))
        case first =>
          cases bi
          case false =>
            go_wp2_with fail
            go_meet
            exact ⟨_, RSt.cast HR.out (by simp)⟩
          case true =>
            go_wp2_with fail
            refine (impl_add _ _ HR.out (by have := HLL.out; omega)).mono ?_
            rintro e w6 ⟨rfl, v6, hR6⟩
            have HR := Hid.in_ hR6
            clear hR6
            go_wp2_with fail
            go_meet
            exact ⟨_, RSt.cast HR.out (by simp)⟩
        case rest =>
          obtain ⟨v7, HR⟩ := hcut
          have HLL := Hid.in_ (show (featsTo l cy hd k ++ (if bi = true then ([⟨1, (k : Int), z⟩] : List FeatR) else [])).length ≤ 5242881 from len_pushI HLL.out bi _)
          generalize hL : featsTo l cy hd k ++ (if bi = true then ([⟨1, (k : Int), z⟩] : List FeatR) else []) = L1 at HR HLL
          have HL1 := Hid.in_ hL
          clear hL
          obtain ⟨y0, y1, y2, y3, y4, y5, y6, y7⟩ := box8 HR.out.st.box
          go_upto_region 11 with fail
          go_cut [44] (fun b wx => b = .bool (bc || bh) ∧ wx = wc)
          case first =>
            rcases bc <;> rcases bh
            all_goals
              go_wp2_with fail
              go_meet
              exact ⟨rfl, rfl⟩
          case rest =>
            obtain ⟨rfl, rfl⟩ := hcut
            generalize (bc || bh) = bf at *
            go_upto_if 44 with fail
            go_cut [] (fun wx => ∃ v, Hid (RSt w wx B r (r + 1) ⟨mc, mh, mn, ms, md, mt, ml, mp⟩ k v (L1 ++ (if bf = true then ([⟨2, (k : Int), 0⟩] : List FeatR) else []))))
            case first =>
              cases bf
              case false =>
                go_wp2_with fail
                go_meet
                exact ⟨_, RSt.cast HR.out (by simp)⟩
              case true =>
                go_wp2_with fail
                refine (impl_add _ _ HR.out (by have := HLL.out; omega)).mono ?_
                rintro e w6 ⟨rfl, v6, hR6⟩
                have HR := Hid.in_ hR6
                clear hR6
                go_wp2_with fail
                go_meet
                exact ⟨_, RSt.cast HR.out (by simp)⟩
            case rest =>
              obtain ⟨v7, HR⟩ := hcut
              have HLL := Hid.in_ (show (L1 ++ (if bf = true then ([⟨2, (k : Int), 0⟩] : List FeatR) else [])).length ≤ 5242882 from len_pushI HLL.out bf _)
              generalize hL : L1 ++ (if bf = true then ([⟨2, (k : Int), 0⟩] : List FeatR) else []) = L2 at HR HLL
              have HL2 := Hid.in_ hL
              clear hL
              obtain ⟨y0, y1, y2, y3, y4, y5, y6, y7⟩ := box8 HR.out.st.box
              go_upto_if 49 with fail
              go_cut [] (fun wx => ∃ v, Hid (RSt w wx B r (r + 1) ⟨mc, mh, mn, ms, md, mt, ml, mp⟩ k v (L2 ++ (if b3 = true then ([⟨4, (k : Int), 0⟩] : List FeatR) else []))))
              case first =>
                cases b3
                case false =>
                  go_wp2_with fail
                  go_meet
                  exact ⟨_, RSt.cast HR.out (by simp)⟩
                case true =>
                  go_wp2_with fail
                  refine (impl_add _ _ HR.out (by have := HLL.out; omega)).mono ?_
                  rintro e w6 ⟨rfl, v6, hR6⟩
                  have HR := Hid.in_ hR6
                  clear hR6
                  go_wp2_with fail
                  go_meet
                  exact ⟨_, RSt.cast HR.out (by simp)⟩
              case rest =>
                obtain ⟨v7, HR⟩ := hcut
                have HLL := Hid.in_ (show (L2 ++ (if b3 = true then ([⟨4, (k : Int), 0⟩] : List FeatR) else [])).length ≤ 5242883 from len_pushI HLL.out b3 _)
                generalize hL : L2 ++ (if b3 = true then ([⟨4, (k : Int), 0⟩] : List FeatR) else []) = L3 at HR HLL
                have HL3 := Hid.in_ hL
                clear hL
                obtain ⟨y0, y1, y2, y3, y4, y5, y6, y7⟩ := box8 HR.out.st.box
                go_upto_if 54 with fail
                go_cut [] (fun wx => ∃ v, Hid (RSt w wx B r (r + 1) ⟨mc, mh, mn, ms, md, mt, ml, mp⟩ k v (L3 ++ (if b4 = true then ([⟨5, (k : Int), 0⟩] : List FeatR) else []))))
                case first =>
                  cases b4
                  case false =>
                    go_wp2_with fail
                    go_meet
                    exact ⟨_, RSt.cast HR.out (by simp)⟩
                  case true =>
                    go_wp2_with fail
                    refine (impl_add _ _ HR.out (by have := HLL.out; omega)).mono ?_
                    rintro e w6 ⟨rfl, v6, hR6⟩
                    have HR := Hid.in_ hR6
                    clear hR6
                    go_wp2_with fail
                    go_meet
                    exact ⟨_, RSt.cast HR.out (by simp)⟩
                case rest =>
                  obtain ⟨v7, HR⟩ := hcut
                  have HLL := Hid.in_ (show (L3 ++ (if b4 = true then ([⟨5, (k : Int), 0⟩] : List FeatR) else [])).length ≤ 5242884 from len_pushI HLL.out b4 _)
                  generalize hL : L3 ++ (if b4 = true then ([⟨5, (k : Int), 0⟩] : List FeatR) else []) = L4 at HR HLL
                  have HL4 := Hid.in_ hL
                  clear hL
                  obtain ⟨y0, y1, y2, y3, y4, y5, y6, y7⟩ := box8 HR.out.st.box
                  have HE := Hid.in_ (show featsTo l cy hd (k + 1) = L4 ++ (if ml = true then ([⟨6, (k : Int), 0⟩] : List FeatR) else []) from by
                    rw [HNN.out, HFA.out, ← HL4.out, ← HL3.out, ← HL2.out, ← HL1.out]
                    cases bi
                    · simp
                    · rw [HZ.out rfl]; simp)
                  cases ml
                  case false =>
                    go_wp2
                    have hk := HK.out
                    go_roundg (gk - 1)
                    case measure => omega
                    case rel => exact ⟨k + 1, by omega, by go_num, _, HR.out.toQ (by rw [HE.out]; simp)⟩
                  case true =>
                    go_wp2_with fail
                    refine (impl_add _ _ HR.out (by have := HLL.out; omega)).mono ?_
                    rintro e w6 ⟨rfl, v6, hR6⟩
                    have HR := Hid.in_ hR6
                    clear hR6
                    go_wp2
                    have hk := HK.out
                    go_roundg (gk - 1)
                    case measure => omega
                    case rel => exact ⟨k + 1, by omega, by go_num, _, HR.out.toQ (by rw [HE.out]; simp)⟩
    · have hk := HK.out
      obtain rfl : k = n := by omega
      have c1 := HQ.out.cB
      go_wp2
      go_ret
      exact ⟨_, rfl, HQ.out.row, HQ.out.below⟩
end Go.Proofs.Ytdnkjbgfaniafaa
