/- 'mergeAddress' of the program: what is merged at an address; two maps of the call's own. -/
import Derived.Test.YtlelgpknkgjaeaaMgS
import Derived.Test.YtlelgpknkgjaeaaMapV
import Derived.Deep.RegionHeld3
import Derived.BigRegion
namespace Go.Proofs.Ytlelgpknkgjaeaa
open Go.ChangeShapes Go.WideShapes Go.ChangeAt Go.RowKit
set_option linter.unusedSimpArgs false
set_option linter.unusedVariables false
set_option maxRecDepth 4000

theorem wr9v {w : World} {b : Nat} {a0 a1 a2 a3 a4 a5 a6 a7 a8 : Value} (h : Wr w b [a0, a1, a2, a3, a4, a5, a6, a7, a8]) : (w.cell? ⟨b, 0, none⟩ = some a0 ∧ w.cell? ⟨b, 1, none⟩ = some a1 ∧ w.cell? ⟨b, 2, none⟩ = some a2 ∧ w.cell? ⟨b, 3, none⟩ = some a3 ∧ w.cell? ⟨b, 4, none⟩ = some a4 ∧ w.cell? ⟨b, 5, none⟩ = some a5 ∧ w.cell? ⟨b, 6, none⟩ = some a6 ∧ w.cell? ⟨b, 7, none⟩ = some a7 ∧ w.cell? ⟨b, 8, none⟩ = some a8) ∧
    (w.frozen? ⟨b, 0, none⟩ = false ∧ w.frozen? ⟨b, 1, none⟩ = false ∧ w.frozen? ⟨b, 2, none⟩ = false ∧ w.frozen? ⟨b, 3, none⟩ = false ∧ w.frozen? ⟨b, 4, none⟩ = false ∧ w.frozen? ⟨b, 5, none⟩ = false ∧ w.frozen? ⟨b, 6, none⟩ = false ∧ w.frozen? ⟨b, 7, none⟩ = false ∧ w.frozen? ⟨b, 8, none⟩ = false) :=
  ⟨⟨h.box 0 _ rfl, h.box 1 _ rfl, h.box 2 _ rfl, h.box 3 _ rfl, h.box 4 _ rfl, h.box 5 _ rfl, h.box 6 _ rfl, h.box 7 _ rfl, h.box 8 _ rfl⟩, h.soft 0, h.soft 1, h.soft 2, h.soft 3, h.soft 4, h.soft 5, h.soft 6, h.soft 7, h.soft 8⟩
theorem Wr.kept {w w' : World} {b : Nat} {cs : List Value} {r : Option Nat} (h : Wr w b cs) (hg : w.grownBy w' r) (hne : some b ≠ r) : Wr w' b cs :=
  ⟨fun j u hu => (World.cell?_of_block (a := ⟨b, j, none⟩) (hg.block b h.lt hne)).trans (h.box j u hu), fun i => (World.frozen?_of_block (a := ⟨b, i, none⟩) (hg.block b h.lt hne)).trans (h.soft i), Nat.lt_of_lt_of_le h.lt hg.size⟩
/-- The state of the two maps and of the sector that is filled: B the address, B + 1 the result, B + 2 the sector, B + 3 and B + 4 the maps. -/
structure MA (w wr : World) (B : Nat) (a : AdrR) (fs : List FndR) (vo : Nat) (F : Int → Value) : Prop where
  bx : Wr wr B a.cells
  res : Wr wr (B + 1) [.int .i64 0, .int .i64 0, .int .i64 0, .int .i64 0, .string ⟨#[]⟩, .int .i64 0, .bool false, .slice none 0 0, .int .i64 0]
  v : Wr wr (B + 2) [.int .i64 a.c, .int .i64 a.h, .int .i64 a.n, .int .i64 a.s, .string ⟨#[]⟩, .int .i64 4, .bool false, .slice none 0 0, .int .i64 (vo : Nat)]
  data : MapV wr (B + 3) fs.length F (.slice none 0 0)
  row : ∀ st, wr.ownsRow (B + 5) 9 1 (F st) (dataOf fs a st).length (Strs (dataOf fs a st))
  apart : ∀ s t, s ≠ t → (F s).ownBlock = none ∨ (F s).ownBlock ≠ (F t).ownBlock
  del : MapV wr (B + 4) fs.length (fun st => .int .i64 (delOf fs a st : Nat)) (.int .i64 0)
  size : B + 5 ≤ wr.heap.size
  base : w.heap.size = B
  low : Below w.heap.size w wr
theorem MA.step {w wr w' : World} {B vo : Nat} {a : AdrR} {fs : List FndR} {F : Int → Value} (k : Below wr.heap.size wr w') (h : MA w wr B a fs vo F) : MA w w' B a fs vo F :=
  ⟨h.bx.step k, h.res.step k, h.v.step k, h.data.step k, fun st => ostep k (h.row st), h.apart, h.del.step k, Nat.le_trans h.size k.size, h.base, h.low.trans (k.mono h.low.size)⟩
/-- a sector of another address, or without one. -/
theorem MA.skip {w wr : World} {B vo : Nat} {a : AdrR} {fs : List FndR} {F : Int → Value} {f : FndR} (h : MA w wr B a fs vo F) (hk : keyF f a = false) : MA w wr B a (fs ++ [f]) vo F := by
  have hp : ∀ st, pickF (fs ++ [f]) a st = pickF fs a st := fun st => pick_no (by rw [hk]; rfl)
  have hd : ∀ st, dataOf (fs ++ [f]) a st = dataOf fs a st := fun st => by unfold dataOf; rw [hp]
  have he : ∀ st, delOf (fs ++ [f]) a st = delOf fs a st := fun st => by unfold delOf; rw [hp]
  have hl : fs.length ≤ (fs ++ [f]).length := by rw [List.length_append]; exact Nat.le_add_right _ _
  exact ⟨h.bx, h.res, h.v, h.data.mono hl, fun st => by rw [hd]; exact h.row st, h.apart, (h.del.mono hl).same (fun st => by rw [he]), h.size, h.base, h.low⟩
theorem del_at {fs : List FndR} {a : AdrR} {f : FndR} (hk : keyF f a = true) (st : Int) : delOf (fs ++ [f]) a st = if st = f.t ∧ f.l = true then delOf fs a st + 1 else delOf fs a st := by
  unfold delOf
  by_cases hst : f.t = st
  · rw [pick_yes (by rw [hk, decide_eq_true hst]; rfl), List.filter_append, List.length_append]
    cases hl : f.l
    · rw [List.filter_cons_of_neg (by rw [hl]; decide), if_neg (fun h => by cases h.2)]; rfl
    · rw [List.filter_cons_of_pos hl, if_pos ⟨hst.symm, rfl⟩]; rfl
  · rw [pick_no (by rw [hk, decide_eq_false hst]; rfl), if_neg (fun h => hst h.1.symm)]
theorem data_at {fs : List FndR} {a : AdrR} {f : FndR} (hk : keyF f a = true) (st : Int) : dataOf (fs ++ [f]) a st = if st = f.t then dataOf fs a st ++ [f.d] else dataOf fs a st := by
  unfold dataOf
  by_cases hst : f.t = st
  · rw [pick_yes (by rw [hk, decide_eq_true hst]; rfl), if_pos hst.symm, List.map_append]; rfl
  · rw [pick_no (by rw [hk, decide_eq_false hst]; rfl), if_neg (fun h => hst h.symm)]
/-- a sector of the address: its data are appended (worlds wr to w1), then the map is written (w1 to w2). -/
theorem MA.put {w wr w1 w2 : World} {B vo : Nat} {a : AdrR} {fs : List FndR} {F : Int → Value} {f : FndR} {v' : Value} (h : MA w wr B a fs vo F) (hk : keyF f a = true) (hl : f.l = false)
    (ho : w1.ownsRow (B + 5) 9 1 v' (dataOf (fs ++ [f]) a f.t).length (Strs (dataOf (fs ++ [f]) a f.t))) (hg : wr.grownBy w1 (F f.t).ownBlock) (hloc : v'.ownBlock = (F f.t).ownBlock ∨ ∃ g, v'.ownBlock = some g ∧ wr.heap.size ≤ g)
    (hm : MapV w2 (B + 3) (fs.length + 1) (putF F f.t v') (.slice none 0 0)) (hg2 : w1.grownBy w2 (some (B + 3))) : MA w w2 B a (fs ++ [f]) vo (putF F f.t v') := by
  have hF : ∀ g, (F f.t).ownBlock = some g → B + 5 ≤ g := fun g hg => ((h.row f.t).lt g hg).1
  have hne : ∀ k, k < B + 5 → some k ≠ (F f.t).ownBlock := fun k hk e => by have := hF k e.symm; omega
  have hne2 : ∀ k, k ≠ B + 3 → some k ≠ some (B + 3) := fun k hk e => by injection e with e; exact hk e
  have hsz : wr.heap.size ≤ w1.heap.size := hg.size
  have hlen : (fs ++ [f]).length = fs.length + 1 := by rw [List.length_append]; rfl
  refine ⟨(h.bx.kept hg (hne _ (by omega))).kept hg2 (hne2 _ (by omega)), (h.res.kept hg (hne _ (by omega))).kept hg2 (hne2 _ (by omega)), (h.v.kept hg (hne _ (by omega))).kept hg2 (hne2 _ (by omega)), by rw [hlen]; exact hm, fun st => ?_, fun s t hst => ?_, ?_, Nat.le_trans h.size (Nat.le_trans hg.size hg2.size), h.base, ?_⟩
  · have key : w1.ownsRow (B + 5) 9 1 (putF F f.t v' st) (dataOf (fs ++ [f]) a st).length (Strs (dataOf (fs ++ [f]) a st)) := by
      by_cases hs : st = f.t
      · subst hs; rw [putF_same]; exact ho
      · rw [putF_other hs, data_at hk, if_neg hs]
        refine (h.row st).kept hg ?_
        exact h.apart st f.t hs
    refine key.kept hg2 ?_
    cases hb : (putF F f.t v' st).ownBlock with
    | none => exact .inl rfl
    | some g => exact .inr (by have := (key.lt g hb).1; intro e; injection e with e; omega)
  · by_cases hs : s = f.t
    · by_cases ht : t = f.t
      · exact absurd (hs.trans ht.symm) hst
      · rw [hs, putF_same, putF_other ht]
        rcases hloc with e | ⟨g, e, hgs⟩
        · rw [e]
          rcases h.apart f.t t (fun e => ht e.symm) with h1 | h1
          · exact .inl h1
          · exact .inr h1
        · right
          rw [e]
          intro e2
          have := ((h.row t).lt g e2.symm).2
          omega
    · by_cases ht : t = f.t
      · rw [ht, putF_same, putF_other hs]
        rcases hloc with e | ⟨g, e, hgs⟩
        · rw [e]
          exact h.apart s f.t hs
        · right
          rw [e]
          intro e2
          have := ((h.row s).lt g e2).2
          omega
      · rw [putF_other hs, putF_other ht]
        exact h.apart s t hst
  · have h1 : MapV w2 (B + 4) fs.length (fun st => .int .i64 (delOf fs a st : Nat)) (.int .i64 0) := (h.del.kept hg (hne _ (by omega))).kept hg2 (hne2 _ (by omega))
    refine (h1.mono (by rw [hlen]; omega)).same (fun st => ?_)
    rw [del_at hk, if_neg (fun e => by rw [hl] at e; cases e.2)]
  · have hb : w.heap.size ≤ wr.heap.size := h.low.size
    have h1 : Below w.heap.size w w1 := h.low.grown hg hb (fun k hk => by have := hF k hk; have := h.base; omega)
    exact h1.grown hg2 (Nat.le_trans hb hg.size) (fun k hk => by injection hk with hk; have := h.base; omega)
/-- .. and the deleted ones are counted. -/
theorem MA.count {w wr w2 : World} {B vo n : Nat} {a : AdrR} {fs : List FndR} {F : Int → Value} {f : FndR} (hk : keyF f a = true) (hl : f.l = true) (h : MA w wr B a (fs ++ [{ f with l := false }]) vo F)
    (hm : MapV w2 (B + 4) n (putF (fun st => .int .i64 (delOf fs a st : Nat)) f.t (.int .i64 ((delOf fs a f.t : Nat) + 1))) (.int .i64 0)) (hn : n ≤ (fs ++ [f]).length) (hg : wr.grownBy w2 (some (B + 4))) : MA w w2 B a (fs ++ [f]) vo F := by
  have hne2 : ∀ k, k ≠ B + 4 → some k ≠ some (B + 4) := fun k hk e => by injection e with e; exact hk e
  have hd : ∀ st, dataOf (fs ++ [f]) a st = dataOf (fs ++ [{ f with l := false }]) a st := fun st => by rw [data_at hk, data_at (f := { f with l := false }) hk]
  have hlen : (fs ++ [f]).length = (fs ++ [{ f with l := false }]).length := by rw [List.length_append, List.length_append]; rfl
  refine ⟨h.bx.kept hg (hne2 _ (by omega)), h.res.kept hg (hne2 _ (by omega)), h.v.kept hg (hne2 _ (by omega)), by rw [hlen]; exact h.data.kept hg (hne2 _ (by omega)), fun st => ?_, h.apart, ?_, Nat.le_trans h.size hg.size, h.base, ?_⟩
  · rw [hd]
    refine (h.row st).kept hg ?_
    cases hb : (F st).ownBlock with
    | none => exact .inl rfl
    | some g => exact .inr (by have := ((h.row st).lt g hb).1; intro e; injection e with e; omega)
  · refine (hm.mono hn).same (fun st => ?_)
    rw [del_at hk]
    by_cases hs : st = f.t
    · subst hs
      rw [putF_same, if_pos ⟨rfl, hl⟩]
      rfl
    · rw [putF_other hs, if_neg (fun e => hs e.1)]
  · exact h.low.grown hg h.low.size (fun k hk => by injection hk with hk; have := h.base; omega)
theorem grown_one (w : World) (b i : Nat) (x : Value) : w.grownBy (w.setCell ⟨b, i, none⟩ x) (some b) := by
  have h := (Below.refl b w).setCell (p := ⟨b, i, none⟩) (Nat.le_refl _) x
  refine ⟨h.os, h.tape, h.output, by simp [World.setCell], fun k hk hne => ?_⟩
  simp only [World.setCell]
  rw [Array.getElem?_modify, if_neg (fun e => hne (by rw [e]))]
theorem MA.vote {w wr : World} {B vo : Nat} {a : AdrR} {fs : List FndR} {F : Int → Value} (h : MA w wr B a fs vo F) : MA w (wr.setCell ⟨B + 2, 8, none⟩ (.int .i64 ((vo : Int) + 1))) B a fs (vo + 1) F := by
  have hg := grown_one wr (B + 2) 8 (.int .i64 ((vo : Int) + 1))
  have hne : ∀ k, k ≠ B + 2 → some k ≠ some (B + 2) := fun k hk e => by injection e with e; exact hk e
  refine ⟨h.bx.far (by omega) 8 _, h.res.far (by omega) 8 _, h.v.set _ (show 8 < 9 by decide), h.data.kept hg (hne _ (by omega)), fun st => (h.row st).kept hg ?_, h.apart, h.del.kept hg (hne _ (by omega)), Nat.le_trans h.size hg.size, h.base, h.low.setCell (p := ⟨B + 2, 8, none⟩) (by show w.heap.size ≤ B + 2; rw [h.base]; omega) _⟩
  cases hb : (F st).ownBlock with
  | none => exact .inl rfl
  | some g => exact .inr (by have := ((h.row st).lt g hb).1; intro e; injection e with e; omega)
theorem Wr.put9 {w : World} {b : Nat} {a0 a1 a2 a3 a4 a5 a6 a7 a8 : Value} (h : Wr w b [a0, a1, a2, a3, a4, a5, a6, a7, a8]) (x0 x1 x2 x3 x4 x5 x6 x7 x8 : Value) : Wr (((((((((w.setCell ⟨b, 0, none⟩ x0).setCell ⟨b, 1, none⟩ x1).setCell ⟨b, 2, none⟩ x2).setCell ⟨b, 3, none⟩ x3).setCell ⟨b, 4, none⟩ x4).setCell ⟨b, 5, none⟩ x5).setCell ⟨b, 6, none⟩ x6).setCell ⟨b, 7, none⟩ x7).setCell ⟨b, 8, none⟩ x8) b [x0, x1, x2, x3, x4, x5, x6, x7, x8] :=
  ((((((((h.set x0 (i := 0) (by simp)).set x1 (i := 1) (by simp)).set x2 (i := 2) (by simp)).set x3 (i := 3) (by simp)).set x4 (i := 4) (by simp)).set x5 (i := 5) (by simp)).set x6 (i := 6) (by simp)).set x7 (i := 7) (by simp)).set x8 (i := 8) (by simp)
theorem below_put9 {W w : World} {B b : Nat} (h : Below B W w) (hb : B ≤ b) (x0 x1 x2 x3 x4 x5 x6 x7 x8 : Value) : Below B W (((((((((w.setCell ⟨b, 0, none⟩ x0).setCell ⟨b, 1, none⟩ x1).setCell ⟨b, 2, none⟩ x2).setCell ⟨b, 3, none⟩ x3).setCell ⟨b, 4, none⟩ x4).setCell ⟨b, 5, none⟩ x5).setCell ⟨b, 6, none⟩ x6).setCell ⟨b, 7, none⟩ x7).setCell ⟨b, 8, none⟩ x8) :=
  ((((((((h.setCell (p := ⟨b, 0, none⟩) hb _).setCell (p := ⟨b, 1, none⟩) hb _).setCell (p := ⟨b, 2, none⟩) hb _).setCell (p := ⟨b, 3, none⟩) hb _).setCell (p := ⟨b, 4, none⟩) hb _).setCell (p := ⟨b, 5, none⟩) hb _).setCell (p := ⟨b, 6, none⟩) hb _).setCell (p := ⟨b, 7, none⟩) hb _).setCell (p := ⟨b, 8, none⟩) hb _
theorem own_put9 {w : World} {b : Nat} {R : World → Prop} (f : ∀ (w' : World) (i : Nat) (x : Value), R w' → R (w'.setCell ⟨b, i, none⟩ x)) (h : R w) (x0 x1 x2 x3 x4 x5 x6 x7 x8 : Value) : R (((((((((w.setCell ⟨b, 0, none⟩ x0).setCell ⟨b, 1, none⟩ x1).setCell ⟨b, 2, none⟩ x2).setCell ⟨b, 3, none⟩ x3).setCell ⟨b, 4, none⟩ x4).setCell ⟨b, 5, none⟩ x5).setCell ⟨b, 6, none⟩ x6).setCell ⟨b, 7, none⟩ x7).setCell ⟨b, 8, none⟩ x8) :=
  f _ 8 _ (f _ 7 _ (f _ 6 _ (f _ 5 _ (f _ 4 _ (f _ 3 _ (f _ 2 _ (f _ 1 _ (f _ 0 _ h))))))))
end Go.Proofs.Ytlelgpknkgjaeaa
