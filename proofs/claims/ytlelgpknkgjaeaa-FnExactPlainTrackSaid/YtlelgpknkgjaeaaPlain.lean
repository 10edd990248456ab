/- 'PlainTrack' of the program and of the reference: plain side, the state of the loops, the closure. -/
import Derived.Test.YtlelgpknkgjaeaaSpecF
import Derived.Test.YtlelgpknkgjaeaaWr
import Derived.Test.YtlelgpknkgjaeaaShelfF
import Derived.Deep.DeepCutAuto
namespace Go.Proofs.Ytlelgpknkgjaeaa
open Go.ChangeShapes Go.WideShapes Go.ChangeAt Go.RowKit
set_option linter.unusedVariables false
set_option linter.unusedSimpArgs false
set_option maxRecDepth 4000

instance : Inhabited SecR := ⟨SecR.zero⟩
def sameS (a b : SecR) : Bool := (a.c == b.c) && ((a.h == b.h) && ((a.n == b.n) && (a.s == b.s)))
def secAt (l : List SecR) (k : Nat) : SecR := l.getD k SecR.zero
theorem secAt_eq {l : List SecR} {k : Nat} {m : SecR} (h : l[k]? = some m) : secAt l k = m := by unfold secAt; rw [List.getD_eq_getElem?_getD, h]; rfl
def strip (r : SecR) : SecR := ⟨r.c, r.h, r.n, r.s, r.d, false, false, false⟩
def dupAt (l : List SecR) (k : Nat) : Bool := (l.take k).any (sameS (secAt l k))
def dropAt (l : List SecR) (cy hd : Int) (k : Nat) : Bool := dupAt l k || ((secAt l k).c != cy || (secAt l k).h != hd)
def plainTo (l : List SecR) (cy hd : Int) : Nat → List SecR
  | 0 => []
  | k + 1 => plainTo l cy hd k ++ (if dropAt l cy hd k = true then [] else [strip (secAt l k)])
theorem plainTo_len (l : List SecR) (cy hd : Int) : ∀ k, (plainTo l cy hd k).length ≤ k
  | 0 => Nat.le_refl _
  | k + 1 => by
    have := plainTo_len l cy hd k
    unfold plainTo
    rw [List.length_append]
    split <;> simp <;> omega
theorem plain_no {l : List SecR} {cy hd : Int} {k : Nat} (h : dropAt l cy hd k = true) : plainTo l cy hd (k + 1) = plainTo l cy hd k := by
  show plainTo l cy hd k ++ (if dropAt l cy hd k = true then [] else [strip (secAt l k)]) = _
  rw [if_pos h, List.append_nil]
theorem plain_yes {l : List SecR} {cy hd : Int} {k : Nat} {m : SecR} (hm : secAt l k = m) (h : dropAt l cy hd k = false) : plainTo l cy hd (k + 1) = plainTo l cy hd k ++ [strip m] := by
  show plainTo l cy hd k ++ (if dropAt l cy hd k = true then [] else [strip (secAt l k)]) = _
  rw [if_neg (by rw [h]; decide), hm]
structure PlnR where
  f : Int
  g : Int
  l : List SecR
  c : Int
def plnR (f g : Int) (l : List SecR) (cy hd : Int) : PlnR :=
  if trkCode f g l cy hd = 0 then ⟨f, g, plainTo l cy hd l.length, 0⟩ else ⟨0, 0, [], trkCode f g l cy hd⟩
theorem pln_no {f g cy hd : Int} {l : List SecR} {c : Int} (h : trkCode f g l cy hd = c) (hc : c ≠ 0) : plnR f g l cy hd = ⟨0, 0, [], c⟩ := by
  unfold plnR
  rw [h, if_neg hc]
theorem pln_ok {f g cy hd : Int} {l : List SecR} {n : Nat} (hl : l.length = n) (h : trkCode f g l cy hd = 0) : plnR f g l cy hd = ⟨f, g, plainTo l cy hd n, 0⟩ := by
  unfold plnR
  rw [h, if_pos rfl, hl]
theorem plnR_len (f g : Int) (l : List SecR) (cy hd : Int) : (plnR f g l cy hd).l.length ≤ 8 := by
  unfold plnR
  split
  · rename_i h
    have h1 := track_len (trk_valid h)
    have := plainTo_len l cy hd l.length
    show (plainTo l cy hd l.length).length ≤ 8
    omega
  · exact Nat.zero_le _
theorem Wr.low {w w' : World} {n b : Nat} {cs : List Value} (k : Below n w w') (h : Wr w b cs) (hb : b < n) : Wr w' b cs :=
  ⟨fun j u hu => (k.cell (p := ⟨b, j, none⟩) hb).trans (h.box j u hu), fun i => (k.frozen (p := ⟨b, i, none⟩) hb).trans (h.soft i), Nat.lt_of_lt_of_le h.lt k.size⟩
theorem TrkAt.low {w w' : World} {n b : Nat} {f g : Int} {v : Value} (k : Below n w w') (h : TrkAt w b f g v) (hb : b < n) : TrkAt w' b f g v :=
  ⟨(k.cell (p := ⟨b, 0, none⟩) hb).trans h.1, (k.cell (p := ⟨b, 1, none⟩) hb).trans h.2.1, (k.cell (p := ⟨b, 2, none⟩) hb).trans h.2.2⟩
theorem wr3 {w : World} {b : Nat} {a0 a1 a2 : Value} (h : Wr w b [a0, a1, a2]) : (w.cell? ⟨b, 0, none⟩ = some a0 ∧ w.cell? ⟨b, 1, none⟩ = some a1 ∧ w.cell? ⟨b, 2, none⟩ = some a2) ∧
    w.frozen? ⟨b, 0, none⟩ = false ∧ w.frozen? ⟨b, 1, none⟩ = false ∧ w.frozen? ⟨b, 2, none⟩ = false :=
  ⟨⟨h.box 0 _ rfl, h.box 1 _ rfl, h.box 2 _ rfl⟩, h.soft 0, h.soft 1, h.soft 2⟩
theorem grown_setS (w : World) (b i : Nat) (u : Value) : w.grownBy (w.setCell ⟨b, i, none⟩ u) (some b) where
  os := rfl
  tape := rfl
  output := rfl
  size := by simp [World.setCell]
  block := fun k _ hk => Below.heap_setCell _ _ _ k (fun e => hk (by rw [e]))
/-- The state of the loop: the rest of the track (block B, below H), the sectors so far (blocks from H on). -/
structure OSt (w1 w : World) (B H : Nat) (f g : Int) (v : Value) (L : List SecR) : Prop where
  row : w.ownsRow H 85 8 v L.length (L.flatMap SecR.cells)
  out : Wr w B [.int .i64 f, .int .i64 g, v]
  bel : Below B w1 w
  BH : B < H
  hH : H ≤ w.heap.size
theorem OSt.step {w1 w w' : World} {B H : Nat} {f g : Int} {v : Value} {L : List SecR} (h : OSt w1 w B H f g v L) (k : Below w.heap.size w w') : OSt w1 w' B H f g v L :=
  ⟨ostep k h.row, Wr.step k h.out, h.bel.trans (k.mono (Nat.le_of_lt h.out.lt)), h.BH, Nat.le_trans h.hH k.size⟩
theorem OSt.alloc {w1 w : World} {B H : Nat} {f g : Int} {v : Value} {L : List SecR} (h : OSt w1 w B H f g v L) (o : Obj) : OSt w1 (w.alloc o) B H f g v L := h.step (balloc (Below.refl _ _) o)
theorem OSt.cast {w1 w : World} {B H : Nat} {f g : Int} {v : Value} {L M : List SecR} (h : OSt w1 w B H f g v L) (e : L = M) : OSt w1 w B H f g v M := by rw [← e]; exact h
/-- A store into a block that is none of the row's and not B. -/
theorem OSt.set {w1 w : World} {B H S i : Nat} {f g : Int} {v : Value} {L : List SecR} (h : OSt w1 w B H f g v L) (hS : B < S) (hv : v.ownBlock ≠ some S) (x : Value) : OSt w1 (w.setCell ⟨S, i, none⟩ x) B H f g v L :=
  ⟨h.row.kept (grown_setS w S i x) (.inr hv), h.out.far (by omega) i x, h.bel.setCell (p := ⟨S, i, none⟩) (Nat.le_of_lt hS) x, h.BH, by simpa [World.setCell] using h.hH⟩
theorem OSt.push {w1 w w' : World} {B H gg cap : Nat} {f g : Int} {v : Value} {L : List SecR} (h : OSt w1 w B H f g v L) {x : SecR}
    (ho : w'.ownsRow H 85 8 (.slice (some ⟨gg, 0, none⟩) (L.length + 1) cap) (L.length + 1) (L.flatMap SecR.cells ++ x.cells)) (hg : w.grownBy w' v.ownBlock) :
    OSt w1 (w'.setCell ⟨B, 2, none⟩ (.slice (some ⟨gg, 0, none⟩) (L.length + 1) cap)) B H f g (.slice (some ⟨gg, 0, none⟩) (L.length + 1) cap) (L ++ [x]) := by
  have hlow : ∀ k, v.ownBlock = some k → H ≤ k := fun k hk => (h.row.lt k hk).1
  have hb : Below B w1 w' := h.bel.grown hg (Nat.le_of_lt h.out.lt) (fun k hk => Nat.le_trans (Nat.le_of_lt h.BH) (hlow k hk))
  have hne : some B ≠ v.ownBlock := fun e => by have := hlow B e.symm; have := h.BH; omega
  have hW : Wr w' B [.int .i64 f, .int .i64 g, v] := ⟨fun j u hu => hg.cell (h.out.box j u hu) hne, fun i => (World.frozen?_of_block (hg.block B h.out.lt hne)).trans (h.out.soft i), Nat.lt_of_lt_of_le h.out.lt hg.size⟩
  have hggH : H ≤ gg := (ho.lt gg rfl).1
  refine ⟨?_, hW.set _ (i := 2) (by simp), hb.setCell (p := ⟨B, 2, none⟩) (Nat.le_refl _) _, h.BH, ?_⟩
  · rw [List.length_append, flat_snoc]
    exact ho.kept (grown_setS w' B 2 _) (.inr fun e => by have e2 : gg = B := by simpa [Value.ownBlock] using e
                                                          have := h.BH; omega)
  · have := hg.size
    have := h.hH
    simp [World.setCell]
    omega
theorem impl_sameAddress (a b : SecR) (w : World) :
    Calls Try.prog 63 #[.agg #[.int .i64 a.c, .int .i64 a.h, .int .i64 a.n, .int .i64 a.s, .string a.d, .bool a.x, .bool a.y, .bool a.z], .agg #[.int .i64 b.c, .int .i64 b.h, .int .i64 b.n, .int .i64 b.s, .string b.d, .bool b.x, .bool b.y, .bool b.z]] w fun e w' => e = .returned (.bool (sameS a b)) ∧ Below w.heap.size w w' := by
  obtain ⟨c, h, n, s, d, x, y, z⟩ := a
  obtain ⟨c', h', n', s', d', x', y', z'⟩ := b
  have hB := Hid.in_ (balloc (balloc (Below.refl w.heap.size w) (.cells #[.int .i64 c, .int .i64 h, .int .i64 n, .int .i64 s, .string d, .bool x, .bool y, .bool z] 85)) (.cells #[.int .i64 c', .int .i64 h', .int .i64 n', .int .i64 s', .string d', .bool x', .bool y', .bool z'] 85))
  have HV := Hid.in_ (show sameS ⟨c, h, n, s, d, x, y, z⟩ ⟨c', h', n', s', d', x', y', z'⟩ = ((c == c') && ((h == h') && ((n == n') && (s == s')))) from rfl)
  cases e0 : (c == c')
  · rw [HV.out, e0]
    go_enter Try.func63, Try.ntmps63
    go_wp2
    go_ret
    exact ⟨rfl, hB.out⟩
  · cases e1 : (h == h')
    · rw [HV.out, e0, e1]
      go_enter Try.func63, Try.ntmps63
      go_wp2
      go_ret
      exact ⟨rfl, hB.out⟩
    · cases e2 : (n == n')
      · rw [HV.out, e0, e1, e2]
        go_enter Try.func63, Try.ntmps63
        go_wp2
        go_ret
        exact ⟨rfl, hB.out⟩
      · cases e3 : (s == s')
        all_goals
          rw [HV.out, e0, e1, e2, e3]
          go_enter Try.func63, Try.ntmps63
          go_wp2
          go_ret
          exact ⟨rfl, hB.out⟩
theorem impl_ptPred (f : SecR) (F : Nat) (w : World) (hF : F < w.heap.size) (hB : Box w F f.cells) :
    PredBelow Try.prog 62 #[.pointer (some ⟨F, 0, none⟩)] (fun x : SecR => .agg x.cells.toArray) (fun y => sameS f y) w := fun W x hb => by
  obtain ⟨z0, z1, z2, z3, z4, z5, z6, z7⟩ := box8 (hB.step hb)
  have hne : F ≠ W.heap.size := by have := hb.size; omega
  have hFW : F < W.heap.size := Nat.lt_of_lt_of_le hF hb.size
  have HS := Hid.in_ (fun w1 => impl_sameAddress f x w1)
  have HB := Hid.in_ (balloc hb (.cells #[.int .i64 x.c, .int .i64 x.h, .int .i64 x.n, .int .i64 x.s, .string x.d, .bool x.x, .bool x.y, .bool x.z] 85))
  show Calls Try.prog 62 #[.agg #[.int .i64 x.c, .int .i64 x.h, .int .i64 x.n, .int .i64 x.s, .string x.d, .bool x.x, .bool x.y, .bool x.z], .pointer (some ⟨F, 0, none⟩)] W fun e w' => e = .returned (.bool (sameS f x)) ∧ Below w.heap.size w w'
  clear hb hB hF
  go_enter Try.func62, Try.ntmps62
  go_wp2_with fail
  refine (HS.out _).mono ?_
  rintro e w2 ⟨rfl, hb2⟩
  have HB2 := Hid.in_ (bstep HB.out hb2)
  clear hb2
  go_wp2
  go_ret
  exact ⟨rfl, HB2.out⟩
end Go.Proofs.Ytlelgpknkgjaeaa
