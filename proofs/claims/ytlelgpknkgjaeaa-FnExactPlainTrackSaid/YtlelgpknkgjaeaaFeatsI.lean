/- 'sectorFeatures' of the program: its two closures, and the features of sectors. -/
import Derived.Test.YtlelgpknkgjaeaaFeats
import Derived.Test.YtlelgpknkgjaeaaWr
import Derived.Test.YtlelgpknkgjaeaaSame
import Derived.Test.YtlelgpknkgjaeaaShelfF
import Derived.Deep.DeepCutAuto
import Derived.Deep.RegionHeld3
namespace Go.Proofs.Ytlelgpknkgjaeaa
open Go.ChangeShapes Go.WideShapes Go.ChangeAt Go.RowKit
set_option linter.unusedVariables false
set_option linter.unusedSimpArgs false
set_option maxRecDepth 4000

instance : Inhabited FndR := ⟨FndR.zero⟩
theorem impl_addressOf (c h n s : Int) (d : ByteArray) (t : Int) (l : Bool) (p : Int) (w : World) :
    Calls Try.prog 101 #[.agg #[.int .i64 c, .int .i64 h, .int .i64 n, .int .i64 s, .string d, .int .i64 t, .bool l, .int .i64 p]] w fun e w' => e = .returned (.agg #[.int .i64 c, .int .i64 h, .int .i64 n, .int .i64 s]) ∧ Below w.heap.size w w' := by
  go_enter Try.func101, Try.ntmps101
  go_wp2
  go_returns
  exact ⟨rfl, by go_grown⟩
theorem Try.guard_Addr (a b c d a' b' c' d' : Int) (op : BinOp) (x y : Operand) (w : World) : (eqGuard op 136 x y (.agg #[.int .i64 a, .int .i64 b, .int .i64 c, .int .i64 d]) (.agg #[.int .i64 a', .int .i64 b', .int .i64 c', .int .i64 d'])).run Try.prog w = .ok () w := run_eqGuard_agg w op 136 x y _ _ (by kernel_rfl)
theorem Try.eql_Addr (a b c d a' b' c' d' : Int) (w : World) : (binOp .eql 136 (.agg #[.int .i64 a, .int .i64 b, .int .i64 c, .int .i64 d]) (.agg #[.int .i64 a', .int .i64 b', .int .i64 c', .int .i64 d'])).run Try.prog w = .ok (.bool ((a == a') && ((b == b') && ((c == c') && (d == d'))))) w := by
  have hE : (Op.equalIn 10000 136 (.agg #[.int .i64 a, .int .i64 b, .int .i64 c, .int .i64 d]) (.agg #[.int .i64 a', .int .i64 b', .int .i64 c', .int .i64 d'])).run Try.prog w = .ok ((a == a') && ((b == b') && ((c == c') && ((d == d') && true)))) w := by
    refine (run_equalIn_agg w 9999 136 _ _ (by kernel_rfl) (by kernel_rfl)).trans ?_
    simp only [Program.fieldsOf, Try.underlying136]
    refine eqF_step (by kernel_rfl) (by kernel_rfl) rfl rfl (run_equalIn_int w 9998 2 .i64 .i64 _ _ Try.underlying2) ?_
    refine eqF_step (by kernel_rfl) (by kernel_rfl) rfl rfl (run_equalIn_int w 9998 2 .i64 .i64 _ _ Try.underlying2) ?_
    refine eqF_step (by kernel_rfl) (by kernel_rfl) rfl rfl (run_equalIn_int w 9998 2 .i64 .i64 _ _ Try.underlying2) ?_
    refine eqF_step (by kernel_rfl) (by kernel_rfl) rfl rfl (run_equalIn_int w 9998 2 .i64 .i64 _ _ Try.underlying2) ?_
    rfl
  rw [run_eql_struct, hE, Bool.and_true]
  rfl
theorem grown_set (w : World) (b i : Nat) (u : Value) : w.grownBy (w.setCell ⟨b, i, none⟩ u) (some b) where
  os := rfl
  tape := rfl
  output := rfl
  size := by simp [World.setCell]
  block := fun k _ hk => Below.heap_setCell _ _ _ k (fun e => hk (by rw [e]))
/-- The state of a round of the program: the variable of the features (block B), the index (block I), the sector (block F). -/
structure RSt (w0 w : World) (B I F : Nat) (f : FndR) (kk : Int) (v : Value) (L : List FeatR) : Prop where
  st : SSt w0 w v F f L
  cB : w.cell? ⟨B, 0, none⟩ = some v
  sB : w.frozen? ⟨B, 0, none⟩ = false
  cI : w.cell? ⟨I, 0, none⟩ = some (.int .i64 kk)
  lB : B < w.heap.size
  lI : I < w.heap.size
  gB : w0.heap.size ≤ B
  nB : v.ownBlock ≠ some B
  nI : v.ownBlock ≠ some I
  BI : B ≠ I
  BF : B ≠ F
theorem RSt.step {w0 w w' : World} {B I F : Nat} {f : FndR} {kk : Int} {v : Value} {L : List FeatR} (h : RSt w0 w B I F f kk v L) (k : Below w.heap.size w w') : RSt w0 w' B I F f kk v L :=
  ⟨h.st.step k, cstep k h.cB, (k.frozen (p := ⟨B, 0, none⟩) h.lB).trans h.sB, cstep k h.cI, Nat.lt_of_lt_of_le h.lB k.size, Nat.lt_of_lt_of_le h.lI k.size, h.gB, h.nB, h.nI, h.BI, h.BF⟩
theorem RSt.alloc {w0 w : World} {B I F : Nat} {f : FndR} {kk : Int} {v : Value} {L : List FeatR} (h : RSt w0 w B I F f kk v L) (o : Obj) : RSt w0 (w.alloc o) B I F f kk v L := h.step (balloc (Below.refl _ _) o)
theorem RSt.push {w0 w w' : World} {B I F g cap : Nat} {f : FndR} {kk : Int} {v : Value} {L : List FeatR} (h : RSt w0 w B I F f kk v L) {a b c : Int}
    (ho : w'.ownsRow w0.heap.size 95 3 (.slice (some ⟨g, 0, none⟩) (L.length + 1) cap) (L.length + 1) (L.flatMap FeatR.cells ++ [.int .i64 a, .int .i64 b, .int .i64 c])) (hg : w.grownBy w' v.ownBlock) (hat : v.ownBlock = some g ∨ g = w.heap.size) :
    RSt w0 (w'.setCell ⟨B, 0, none⟩ (.slice (some ⟨g, 0, none⟩) (L.length + 1) cap)) B I F f kk (.slice (some ⟨g, 0, none⟩) (L.length + 1) cap) (L ++ [⟨a, b, c⟩]) := by
  have h1 := h.st.push ho hg hat
  have hgB : g ≠ B := fun e => by
    rcases hat with h2 | h2
    · exact h.nB (by rw [h2, e])
    · have := h.lB; omega
  have hgI : g ≠ I := fun e => by
    rcases hat with h2 | h2
    · exact h.nI (by rw [h2, e])
    · have := h.lI; omega
  have hsz : (w'.setCell ⟨B, 0, none⟩ (.slice (some ⟨g, 0, none⟩) (L.length + 1) cap)).heap.size = w'.heap.size := by simp [World.setCell]
  have cB : w'.cell? ⟨B, 0, none⟩ = some v := hg.cell h.cB (fun e => h.nB e.symm)
  have cI : w'.cell? ⟨I, 0, none⟩ = some (.int .i64 kk) := hg.cell h.cI (fun e => h.nI e.symm)
  have hG := grown_set w' B 0 (.slice (some ⟨g, 0, none⟩) (L.length + 1) cap)
  refine ⟨⟨h1.row.kept hG (.inr fun e => hgB (by simpa [Value.ownBlock] using e)), h1.box.far h.BF 0 _, by rw [hsz]; exact h1.lt, h1.far, h1.below.setCell (p := ⟨B, 0, none⟩) h.gB _⟩, World.cell?_setCell_same _ _ _ cB, ?_, ?_, by rw [hsz]; exact Nat.lt_of_lt_of_le h.lB hg.size, by rw [hsz]; exact Nat.lt_of_lt_of_le h.lI hg.size, h.gB, ?_, ?_, h.BI, h.BF⟩
  · rw [World.frozen?_setCell]
    exact (World.frozen?_of_block (hg.block B h.lB (fun e => h.nB e.symm))).trans h.sB
  · exact hG.cell cI (fun e => h.BI (by injection e with e; exact e.symm))
  · intro e
    exact hgB (by simpa [Value.ownBlock] using e)
  · intro e
    exact hgI (by simpa [Value.ownBlock] using e)
theorem fnd_get! (l : List FndR) (j : Nat) : l[j]! = fndAt l j := by
  unfold fndAt
  rw [List.getD_eq_getElem?_getD, List.getElem!_eq_getElem?_getD]
  rfl
theorem idx_first {l : List FndR} {k : Nat} {m : FndR} (hm : fndAt l k = m) (hk : k ≤ l.length) : Lib.idxBy (fun _ y => isFirst m y) (l.take k) default = if firstOf l k < k then (firstOf l k : Int) else -1 := by
  rcases firstN_cases (fun j => isFirst (fndAt l k) (fndAt l j)) k with h | ⟨i, hi, hp, ha⟩
  · have e : firstOf l k = k := firstN_miss h
    rw [e, if_neg (by omega)]
    exact Lib.idxBy_miss (fun _ y => isFirst m y) l k default (fun j hj => by rw [fnd_get!, ← hm]; exact h j hj)
  · have e : firstOf l k = i := firstN_hit hp ha hi
    rw [e, if_pos hi]
    exact Lib.idxBy_hit (fun _ y => isFirst m y) l k i default hi hk (by show isFirst m l[i]! = true; rw [fnd_get!, ← hm]; exact hp) (fun j hj => by rw [fnd_get!, ← hm]; exact ha j hj)
/-- The state between two rounds. -/
structure QSt (w0 w : World) (B : Nat) (v : Value) (L : List FeatR) : Prop where
  row : w.ownsRow w0.heap.size 95 3 v L.length (L.flatMap FeatR.cells)
  cB : w.cell? ⟨B, 0, none⟩ = some v
  sB : w.frozen? ⟨B, 0, none⟩ = false
  lB : B < w.heap.size
  gB : w0.heap.size ≤ B
  nB : v.ownBlock ≠ some B
  below : Below w0.heap.size w0 w
theorem RSt.toQ {w0 w : World} {B I F : Nat} {f : FndR} {kk : Int} {v : Value} {L M : List FeatR} (h : RSt w0 w B I F f kk v L) (e : L = M) : QSt w0 w B v M := by
  subst e
  exact ⟨h.st.row, h.cB, h.sB, h.lB, h.gB, h.nB, h.st.below⟩
theorem RSt.cast {w0 w : World} {B I F : Nat} {f : FndR} {kk : Int} {v : Value} {L M : List FeatR} (h : RSt w0 w B I F f kk v L) (e : L = M) : RSt w0 w B I F f kk v M := by rw [← e]; exact h
theorem QSt.start {w0 w : World} {B : Nat} {v : Value} {L : List FeatR} (h : QSt w0 w B v L) (k : Int) (m : FndR) (t1 : TypeId) :
    RSt w0 ((w.alloc (.cells #[.int .i64 k] t1)).alloc (.cells m.cells.toArray 128)) B w.heap.size (w.heap.size + 1) m k v L := by
  have h1 := balloc (Below.refl w.heap.size w) (.cells #[.int .i64 k] t1)
  have h2 := balloc h1 (.cells m.cells.toArray 128)
  have hs : (w.alloc (.cells #[.int .i64 k] t1)).heap.size = w.heap.size + 1 := by simp
  have hs2 : ((w.alloc (.cells #[.int .i64 k] t1)).alloc (.cells m.cells.toArray 128)).heap.size = w.heap.size + 2 := by simp
  have hn := Box.new (w.alloc (.cells #[.int .i64 k] t1)) m.cells 128
  rw [hs] at hn
  have hI := Box.new w [.int .i64 k] t1
  have hfar : ∀ q, w.heap.size ≤ q → v.ownBlock ≠ some q := fun q hq e => by
    have := (h.row.lt _ e).2
    omega
  exact ⟨⟨ostep h2 h.row, hn, by rw [hs2]; omega, hfar _ (by omega), bstep h.below h2⟩, cstep h2 h.cB, (h2.frozen (p := ⟨B, 0, none⟩) h.lB).trans h.sB,
    cstep (balloc (Below.refl _ _) _) (hI 0 _ rfl), by rw [hs2]; have := h.lB; omega, by rw [hs2]; omega, h.gB, h.nB, hfar _ (Nat.le_refl _), by have := h.lB; omega, by have := h.lB; omega⟩
theorem own_cap {w : World} {base : Nat} {e : TypeId} {size n c : Nat} {A : Option Addr} {xs : List Value} (h : w.ownsRow base e size (.slice A n c) n xs) : n ≤ c := by
  rcases h.2 with ⟨hv, h0⟩ | ⟨g, cap, cur, hv, _, _, hc, _⟩
  · omega
  · injection hv with _ _ h3
    omega
theorem len_pushI {M : List FeatR} {N : Nat} (h : M.length ≤ N) (b : Bool) (x : FeatR) : (M ++ (if b = true then [x] else [])).length ≤ N + 1 := by
  rw [List.length_append]
  cases b <;> simp <;> omega
end Go.Proofs.Ytlelgpknkgjaeaa
