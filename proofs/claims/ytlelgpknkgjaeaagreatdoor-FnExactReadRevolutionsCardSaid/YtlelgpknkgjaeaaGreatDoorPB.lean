/- Several texts in one: MgM, MgY, MgT, MgN, MgF. -/
import Derived.Test.YtlelgpknkgjaeaaGreatDoorPA
import Derived.Deep.RegionHeld3
import Derived.BigRegion
/- 'mergeAddress' of the program: what is merged at an address; two maps of the call's own. -/
namespace Go.Proofs.YtlelgpknkgjaeaaGreatDoor
open Go.ChangeShapes Go.WideShapes Go.ChangeAt Go.RowKit
set_option linter.unusedSimpArgs false
set_option linter.unusedVariables false
set_option maxRecDepth 4000

theorem wr9v {w : World} {b : Nat} {a0 a1 a2 a3 a4 a5 a6 a7 a8 : Value} (h : Wr w b [a0, a1, a2, a3, a4, a5, a6, a7, a8]) : (w.cell? ⟨b, 0, none⟩ = some a0 ∧ w.cell? ⟨b, 1, none⟩ = some a1 ∧ w.cell? ⟨b, 2, none⟩ = some a2 ∧ w.cell? ⟨b, 3, none⟩ = some a3 ∧ w.cell? ⟨b, 4, none⟩ = some a4 ∧ w.cell? ⟨b, 5, none⟩ = some a5 ∧ w.cell? ⟨b, 6, none⟩ = some a6 ∧ w.cell? ⟨b, 7, none⟩ = some a7 ∧ w.cell? ⟨b, 8, none⟩ = some a8) ∧
    (w.frozen? ⟨b, 0, none⟩ = false ∧ w.frozen? ⟨b, 1, none⟩ = false ∧ w.frozen? ⟨b, 2, none⟩ = false ∧ w.frozen? ⟨b, 3, none⟩ = false ∧ w.frozen? ⟨b, 4, none⟩ = false ∧ w.frozen? ⟨b, 5, none⟩ = false ∧ w.frozen? ⟨b, 6, none⟩ = false ∧ w.frozen? ⟨b, 7, none⟩ = false ∧ w.frozen? ⟨b, 8, none⟩ = false) :=
  ⟨⟨h.box 0 _ rfl, h.box 1 _ rfl, h.box 2 _ rfl, h.box 3 _ rfl, h.box 4 _ rfl, h.box 5 _ rfl, h.box 6 _ rfl, h.box 7 _ rfl, h.box 8 _ rfl⟩, h.soft 0, h.soft 1, h.soft 2, h.soft 3, h.soft 4, h.soft 5, h.soft 6, h.soft 7, h.soft 8⟩
theorem Wr.kept {w w' : World} {b : Nat} {cs : List Value} {r : Option Nat} (h : Wr w b cs) (hg : w.grownBy w' r) (hne : some b ≠ r) : Wr w' b cs :=
  ⟨fun j u hu => (World.cell?_of_block (a := ⟨b, j, none⟩) (hg.block b h.lt hne)).trans (h.box j u hu), fun i => (World.frozen?_of_block (a := ⟨b, i, none⟩) (hg.block b h.lt hne)).trans (h.soft i), Nat.lt_of_lt_of_le h.lt hg.size⟩
/-- The state of the two maps and of the sector that is filled: B the address, B + 1 the result, B + 2 the sector, B + 3 and B + 4 the maps. -/
structure MA (w wr : World) (B : Nat) (a : AdrR) (fs : List FndR) (vo : Nat) (F : Int → Value) : Prop where
  bx : Wr wr B a.cells
  res : Wr wr (B + 1) [.int .i64 0, .int .i64 0, .int .i64 0, .int .i64 0, .string ⟨#[]⟩, .int .i64 0, .bool false, .slice none 0 0, .int .i64 0]
  v : Wr wr (B + 2) [.int .i64 a.c, .int .i64 a.h, .int .i64 a.n, .int .i64 a.s, .string ⟨#[]⟩, .int .i64 4, .bool false, .slice none 0 0, .int .i64 (vo : Nat)]
  data : MapV wr (B + 3) fs.length F (.slice none 0 0)
  row : ∀ st, wr.ownsRow (B + 5) 9 1 (F st) (dataOf fs a st).length (Strs (dataOf fs a st))
  apart : ∀ s t, s ≠ t → (F s).ownBlock = none ∨ (F s).ownBlock ≠ (F t).ownBlock
  del : MapV wr (B + 4) fs.length (fun st => .int .i64 (delOf fs a st : Nat)) (.int .i64 0)
  size : B + 5 ≤ wr.heap.size
  base : w.heap.size = B
  low : Below w.heap.size w wr
theorem MA.step {w wr w' : World} {B vo : Nat} {a : AdrR} {fs : List FndR} {F : Int → Value} (k : Below wr.heap.size wr w') (h : MA w wr B a fs vo F) : MA w w' B a fs vo F :=
  ⟨h.bx.step k, h.res.step k, h.v.step k, h.data.step k, fun st => ostep k (h.row st), h.apart, h.del.step k, Nat.le_trans h.size k.size, h.base, h.low.trans (k.mono h.low.size)⟩
/-- a sector of another address, or without one. -/
theorem MA.skip {w wr : World} {B vo : Nat} {a : AdrR} {fs : List FndR} {F : Int → Value} {f : FndR} (h : MA w wr B a fs vo F) (hk : keyF f a = false) : MA w wr B a (fs ++ [f]) vo F := by
  have hp : ∀ st, pickF (fs ++ [f]) a st = pickF fs a st := fun st => pick_no (by rw [hk]; rfl)
  have hd : ∀ st, dataOf (fs ++ [f]) a st = dataOf fs a st := fun st => by unfold dataOf; rw [hp]
  have he : ∀ st, delOf (fs ++ [f]) a st = delOf fs a st := fun st => by unfold delOf; rw [hp]
  have hl : fs.length ≤ (fs ++ [f]).length := by rw [List.length_append]; exact Nat.le_add_right _ _
  exact ⟨h.bx, h.res, h.v, h.data.mono hl, fun st => by rw [hd]; exact h.row st, h.apart, (h.del.mono hl).same (fun st => by rw [he]), h.size, h.base, h.low⟩
theorem del_at {fs : List FndR} {a : AdrR} {f : FndR} (hk : keyF f a = true) (st : Int) : delOf (fs ++ [f]) a st = if st = f.t ∧ f.l = true then delOf fs a st + 1 else delOf fs a st := by
  unfold delOf
  by_cases hst : f.t = st
  · rw [pick_yes (by rw [hk, decide_eq_true hst]; rfl), List.filter_append, List.length_append]
    cases hl : f.l
    · rw [List.filter_cons_of_neg (by rw [hl]; decide), if_neg (fun h => by cases h.2)]; rfl
    · rw [List.filter_cons_of_pos hl, if_pos ⟨hst.symm, rfl⟩]; rfl
  · rw [pick_no (by rw [hk, decide_eq_false hst]; rfl), if_neg (fun h => hst h.1.symm)]
theorem data_at {fs : List FndR} {a : AdrR} {f : FndR} (hk : keyF f a = true) (st : Int) : dataOf (fs ++ [f]) a st = if st = f.t then dataOf fs a st ++ [f.d] else dataOf fs a st := by
  unfold dataOf
  by_cases hst : f.t = st
  · rw [pick_yes (by rw [hk, decide_eq_true hst]; rfl), if_pos hst.symm, List.map_append]; rfl
  · rw [pick_no (by rw [hk, decide_eq_false hst]; rfl), if_neg (fun h => hst h.symm)]
/-- a sector of the address: its data are appended (worlds wr to w1), then the map is written (w1 to w2). -/
theorem MA.put {w wr w1 w2 : World} {B vo : Nat} {a : AdrR} {fs : List FndR} {F : Int → Value} {f : FndR} {v' : Value} (h : MA w wr B a fs vo F) (hk : keyF f a = true) (hl : f.l = false)
    (ho : w1.ownsRow (B + 5) 9 1 v' (dataOf (fs ++ [f]) a f.t).length (Strs (dataOf (fs ++ [f]) a f.t))) (hg : wr.grownBy w1 (F f.t).ownBlock) (hloc : v'.ownBlock = (F f.t).ownBlock ∨ ∃ g, v'.ownBlock = some g ∧ wr.heap.size ≤ g)
    (hm : MapV w2 (B + 3) (fs.length + 1) (putF F f.t v') (.slice none 0 0)) (hg2 : w1.grownBy w2 (some (B + 3))) : MA w w2 B a (fs ++ [f]) vo (putF F f.t v') := by
  have hF : ∀ g, (F f.t).ownBlock = some g → B + 5 ≤ g := fun g hg => ((h.row f.t).lt g hg).1
  have hne : ∀ k, k < B + 5 → some k ≠ (F f.t).ownBlock := fun k hk e => by have := hF k e.symm; omega
  have hne2 : ∀ k, k ≠ B + 3 → some k ≠ some (B + 3) := fun k hk e => by injection e with e; exact hk e
  have hsz : wr.heap.size ≤ w1.heap.size := hg.size
  have hlen : (fs ++ [f]).length = fs.length + 1 := by rw [List.length_append]; rfl
  refine ⟨(h.bx.kept hg (hne _ (by omega))).kept hg2 (hne2 _ (by omega)), (h.res.kept hg (hne _ (by omega))).kept hg2 (hne2 _ (by omega)), (h.v.kept hg (hne _ (by omega))).kept hg2 (hne2 _ (by omega)), by rw [hlen]; exact hm, fun st => ?_, fun s t hst => ?_, ?_, Nat.le_trans h.size (Nat.le_trans hg.size hg2.size), h.base, ?_⟩
  · have key : w1.ownsRow (B + 5) 9 1 (putF F f.t v' st) (dataOf (fs ++ [f]) a st).length (Strs (dataOf (fs ++ [f]) a st)) := by
      by_cases hs : st = f.t
      · subst hs; rw [putF_same]; exact ho
      · rw [putF_other hs, data_at hk, if_neg hs]
        refine (h.row st).kept hg ?_
        exact h.apart st f.t hs
    refine key.kept hg2 ?_
    cases hb : (putF F f.t v' st).ownBlock with
    | none => exact .inl rfl
    | some g => exact .inr (by have := (key.lt g hb).1; intro e; injection e with e; omega)
  · by_cases hs : s = f.t
    · by_cases ht : t = f.t
      · exact absurd (hs.trans ht.symm) hst
      · rw [hs, putF_same, putF_other ht]
        rcases hloc with e | ⟨g, e, hgs⟩
        · rw [e]
          rcases h.apart f.t t (fun e => ht e.symm) with h1 | h1
          · exact .inl h1
          · exact .inr h1
        · right
          rw [e]
          intro e2
          have := ((h.row t).lt g e2.symm).2
          omega
    · by_cases ht : t = f.t
      · rw [ht, putF_same, putF_other hs]
        rcases hloc with e | ⟨g, e, hgs⟩
        · rw [e]
          exact h.apart s f.t hs
        · right
          rw [e]
          intro e2
          have := ((h.row s).lt g e2).2
          omega
      · rw [putF_other hs, putF_other ht]
        exact h.apart s t hst
  · have h1 : MapV w2 (B + 4) fs.length (fun st => .int .i64 (delOf fs a st : Nat)) (.int .i64 0) := (h.del.kept hg (hne _ (by omega))).kept hg2 (hne2 _ (by omega))
    refine (h1.mono (by rw [hlen]; omega)).same (fun st => ?_)
    rw [del_at hk, if_neg (fun e => by rw [hl] at e; cases e.2)]
  · have hb : w.heap.size ≤ wr.heap.size := h.low.size
    have h1 : Below w.heap.size w w1 := h.low.grown hg hb (fun k hk => by have := hF k hk; have := h.base; omega)
    exact h1.grown hg2 (Nat.le_trans hb hg.size) (fun k hk => by injection hk with hk; have := h.base; omega)
/-- .. and the deleted ones are counted. -/
theorem MA.count {w wr w2 : World} {B vo n : Nat} {a : AdrR} {fs : List FndR} {F : Int → Value} {f : FndR} (hk : keyF f a = true) (hl : f.l = true) (h : MA w wr B a (fs ++ [{ f with l := false }]) vo F)
    (hm : MapV w2 (B + 4) n (putF (fun st => .int .i64 (delOf fs a st : Nat)) f.t (.int .i64 ((delOf fs a f.t : Nat) + 1))) (.int .i64 0)) (hn : n ≤ (fs ++ [f]).length) (hg : wr.grownBy w2 (some (B + 4))) : MA w w2 B a (fs ++ [f]) vo F := by
  have hne2 : ∀ k, k ≠ B + 4 → some k ≠ some (B + 4) := fun k hk e => by injection e with e; exact hk e
  have hd : ∀ st, dataOf (fs ++ [f]) a st = dataOf (fs ++ [{ f with l := false }]) a st := fun st => by rw [data_at hk, data_at (f := { f with l := false }) hk]
  have hlen : (fs ++ [f]).length = (fs ++ [{ f with l := false }]).length := by rw [List.length_append, List.length_append]; rfl
  refine ⟨h.bx.kept hg (hne2 _ (by omega)), h.res.kept hg (hne2 _ (by omega)), h.v.kept hg (hne2 _ (by omega)), by rw [hlen]; exact h.data.kept hg (hne2 _ (by omega)), fun st => ?_, h.apart, ?_, Nat.le_trans h.size hg.size, h.base, ?_⟩
  · rw [hd]
    refine (h.row st).kept hg ?_
    cases hb : (F st).ownBlock with
    | none => exact .inl rfl
    | some g => exact .inr (by have := ((h.row st).lt g hb).1; intro e; injection e with e; omega)
  · refine (hm.mono hn).same (fun st => ?_)
    rw [del_at hk]
    by_cases hs : st = f.t
    · subst hs
      rw [putF_same, if_pos ⟨rfl, hl⟩]
      rfl
    · rw [putF_other hs, if_neg (fun e => hs e.1)]
  · exact h.low.grown hg h.low.size (fun k hk => by injection hk with hk; have := h.base; omega)
theorem grown_one (w : World) (b i : Nat) (x : Value) : w.grownBy (w.setCell ⟨b, i, none⟩ x) (some b) := by
  have h := (Below.refl b w).setCell (p := ⟨b, i, none⟩) (Nat.le_refl _) x
  refine ⟨h.os, h.tape, h.output, by simp [World.setCell], fun k hk hne => ?_⟩
  simp only [World.setCell]
  rw [Array.getElem?_modify, if_neg (fun e => hne (by rw [e]))]
theorem MA.vote {w wr : World} {B vo : Nat} {a : AdrR} {fs : List FndR} {F : Int → Value} (h : MA w wr B a fs vo F) : MA w (wr.setCell ⟨B + 2, 8, none⟩ (.int .i64 ((vo : Int) + 1))) B a fs (vo + 1) F := by
  have hg := grown_one wr (B + 2) 8 (.int .i64 ((vo : Int) + 1))
  have hne : ∀ k, k ≠ B + 2 → some k ≠ some (B + 2) := fun k hk e => by injection e with e; exact hk e
  refine ⟨h.bx.far (by omega) 8 _, h.res.far (by omega) 8 _, h.v.set _ (show 8 < 9 by decide), h.data.kept hg (hne _ (by omega)), fun st => (h.row st).kept hg ?_, h.apart, h.del.kept hg (hne _ (by omega)), Nat.le_trans h.size hg.size, h.base, h.low.setCell (p := ⟨B + 2, 8, none⟩) (by show w.heap.size ≤ B + 2; rw [h.base]; omega) _⟩
  cases hb : (F st).ownBlock with
  | none => exact .inl rfl
  | some g => exact .inr (by have := ((h.row st).lt g hb).1; intro e; injection e with e; omega)
theorem Wr.put9 {w : World} {b : Nat} {a0 a1 a2 a3 a4 a5 a6 a7 a8 : Value} (h : Wr w b [a0, a1, a2, a3, a4, a5, a6, a7, a8]) (x0 x1 x2 x3 x4 x5 x6 x7 x8 : Value) : Wr (((((((((w.setCell ⟨b, 0, none⟩ x0).setCell ⟨b, 1, none⟩ x1).setCell ⟨b, 2, none⟩ x2).setCell ⟨b, 3, none⟩ x3).setCell ⟨b, 4, none⟩ x4).setCell ⟨b, 5, none⟩ x5).setCell ⟨b, 6, none⟩ x6).setCell ⟨b, 7, none⟩ x7).setCell ⟨b, 8, none⟩ x8) b [x0, x1, x2, x3, x4, x5, x6, x7, x8] :=
  ((((((((h.set x0 (i := 0) (by simp)).set x1 (i := 1) (by simp)).set x2 (i := 2) (by simp)).set x3 (i := 3) (by simp)).set x4 (i := 4) (by simp)).set x5 (i := 5) (by simp)).set x6 (i := 6) (by simp)).set x7 (i := 7) (by simp)).set x8 (i := 8) (by simp)
theorem below_put9 {W w : World} {B b : Nat} (h : Below B W w) (hb : B ≤ b) (x0 x1 x2 x3 x4 x5 x6 x7 x8 : Value) : Below B W (((((((((w.setCell ⟨b, 0, none⟩ x0).setCell ⟨b, 1, none⟩ x1).setCell ⟨b, 2, none⟩ x2).setCell ⟨b, 3, none⟩ x3).setCell ⟨b, 4, none⟩ x4).setCell ⟨b, 5, none⟩ x5).setCell ⟨b, 6, none⟩ x6).setCell ⟨b, 7, none⟩ x7).setCell ⟨b, 8, none⟩ x8) :=
  ((((((((h.setCell (p := ⟨b, 0, none⟩) hb _).setCell (p := ⟨b, 1, none⟩) hb _).setCell (p := ⟨b, 2, none⟩) hb _).setCell (p := ⟨b, 3, none⟩) hb _).setCell (p := ⟨b, 4, none⟩) hb _).setCell (p := ⟨b, 5, none⟩) hb _).setCell (p := ⟨b, 6, none⟩) hb _).setCell (p := ⟨b, 7, none⟩) hb _).setCell (p := ⟨b, 8, none⟩) hb _
theorem own_put9 {w : World} {b : Nat} {R : World → Prop} (f : ∀ (w' : World) (i : Nat) (x : Value), R w' → R (w'.setCell ⟨b, i, none⟩ x)) (h : R w) (x0 x1 x2 x3 x4 x5 x6 x7 x8 : Value) : R (((((((((w.setCell ⟨b, 0, none⟩ x0).setCell ⟨b, 1, none⟩ x1).setCell ⟨b, 2, none⟩ x2).setCell ⟨b, 3, none⟩ x3).setCell ⟨b, 4, none⟩ x4).setCell ⟨b, 5, none⟩ x5).setCell ⟨b, 6, none⟩ x6).setCell ⟨b, 7, none⟩ x7).setCell ⟨b, 8, none⟩ x8) :=
  f _ 8 _ (f _ 7 _ (f _ 6 _ (f _ 5 _ (f _ 4 _ (f _ 3 _ (f _ 2 _ (f _ 1 _ (f _ 0 _ h))))))))
end Go.Proofs.YtlelgpknkgjaeaaGreatDoor

/- 'l10Keys' of the reference: the addresses of all sectors, in order, each once. -/
namespace Go.Proofs.YtlelgpknkgjaeaaGreatDoor
open Go.ChangeShapes Go.WideShapes Go.ChangeAt Go.RowKit
set_option linter.unusedSimpArgs false
set_option linter.unusedVariables false
set_option maxRecDepth 4000

theorem Tryz.info_Voted : (Tryz.prog.info? 72).map (fun i => (i.zero, i.size, i.bytes)) = some (some (.agg #[.int .i64 0, .int .i64 0, .int .i64 0, .int .i64 0, .string ⟨#[]⟩, .int .i64 0, .bool false, .slice none 0 0, .int .i64 0]), 9, 96) := by kernel_rfl
def keyO (a : AdrR) : VotO := ⟨⟨a.c, a.h, a.n, a.s, ⟨#[]⟩, 0, false, [], 0⟩, .slice none 0 0⟩
theorem keyO_box {w : World} {g k : Nat} {l : List AdrR} {a : AdrR} (h : Box w g ((l.map keyO).flatMap VotO.cells)) (hk : l[k]? = some a) : BoxAt w g (k * 9) a.cells := fun j u hu => by
  have hj : j < 4 := (List.getElem?_eq_some_iff.1 hu).1
  have := Box.elem VotO.len h (show (l.map keyO)[k]? = some (keyO a) by rw [List.getElem?_map, hk]; rfl) j
  refine this u ?_
  have h4 : j = 0 ∨ j = 1 ∨ j = 2 ∨ j = 3 := by omega
  rcases h4 with rfl | rfl | rfl | rfl <;> exact hu
theorem cells9g {w : World} {g : Nat} {a0 a1 a2 a3 a4 a5 a6 a7 a8 : Value} {t : TypeId} (hg : g = w.heap.size) : ∀ j u, ([a0, a1, a2, a3, a4, a5, a6, a7, a8] : List Value)[j]? = some u → (w.alloc (.cells #[a0, a1, a2, a3, a4, a5, a6, a7, a8] t)).cell? ((⟨g, 0, none⟩ : Addr).add j) = some u := fun j u hu => by
  subst hg
  have h := World.ownsRow_lit (e := t) w #[a0, a1, a2, a3, a4, a5, a6, a7, a8] 1 (base := w.heap.size) (size := 9) (Nat.le_refl _) (by decide) rfl
  exact h.cells (g := w.heap.size) rfl j u hu
theorem key_one {l : List AdrR} : ∀ u ∈ (l.map keyO).flatMap VotO.cells, u.oneCell' = true := by
  intro u hu
  obtain ⟨m, hm, h⟩ := List.mem_flatMap.1 hu
  obtain ⟨a, _, rfl⟩ := List.mem_map.1 hm
  simp only [keyO, VotO.cells, VotR.cells, List.mem_cons, List.not_mem_nil, or_false] at h
  rcases h with rfl | rfl | rfl | rfl | rfl | rfl | rfl | rfl | rfl <;> rfl
theorem kbox_take {w : World} {g k : Nat} {l : List AdrR} (h : Box w g ((l.map keyO).flatMap VotO.cells)) : ∀ j u, (((l.take k).map keyO).flatMap VotO.cells)[j]? = some u → w.cell? ((⟨g, 0, none⟩ : Addr).add j) = some u := fun j u hu => by
  rw [addr_add, Nat.zero_add]
  refine h j u ?_
  have hj := (List.getElem?_eq_some_iff.1 hu).1
  have e : (l.map keyO).flatMap VotO.cells = ((l.take k).map keyO).flatMap VotO.cells ++ ((l.drop k).map keyO).flatMap VotO.cells := by rw [← List.flatMap_append, ← List.map_append, List.take_append_drop]
  rw [e, List.getElem?_append_left hj]
  exact hu
theorem kbox_drop {w : World} {g k : Nat} {l : List AdrR} (hk : k ≤ l.length) (h : Box w g ((l.map keyO).flatMap VotO.cells)) : ∀ j u, (((l.drop k).map keyO).flatMap VotO.cells)[j]? = some u → w.cell? ((⟨g, k * 9, none⟩ : Addr).add j) = some u := fun j u hu => by
  rw [addr_add]
  refine h _ u ?_
  have e : (l.map keyO).flatMap VotO.cells = ((l.take k).map keyO).flatMap VotO.cells ++ ((l.drop k).map keyO).flatMap VotO.cells := by rw [← List.flatMap_append, ← List.map_append, List.take_append_drop]
  have hl : (((l.take k).map keyO).flatMap VotO.cells).length = k * 9 := by rw [flat_len VotO.len, List.length_map, List.length_take, Nat.min_eq_left hk]
  rw [e, List.getElem?_append_right (by omega), hl, show k * 9 + j - k * 9 = j by omega]
  exact hu
theorem putAt_cells (l : List AdrR) (a : AdrR) (k : Nat) : ((putAt l a k).map keyO).flatMap VotO.cells = ((l.take k).map keyO).flatMap VotO.cells ++ (keyO a).cells ++ ((l.drop k).map keyO).flatMap VotO.cells := by
  unfold putAt
  rw [List.map_append, List.map_append, List.flatMap_append, List.flatMap_append]
  simp
theorem putAt_cells' (l : List AdrR) (a : AdrR) (k : Nat) : ((putAt l a k).map keyO).flatMap VotO.cells = ((l.take k).map keyO).flatMap VotO.cells ++ [.int .i64 a.c, .int .i64 a.h, .int .i64 a.n, .int .i64 a.s, .string ⟨#[]⟩, .int .i64 0, .bool false, .slice none 0 0, .int .i64 0] ++ ((l.drop k).map keyO).flatMap VotO.cells := putAt_cells l a k
theorem box9z {w : World} {b : Nat} {a0 a1 a2 a3 a4 a5 a6 a7 a8 : Value} (h : Box w b [a0, a1, a2, a3, a4, a5, a6, a7, a8]) : w.cell? ⟨b, 0, none⟩ = some a0 ∧ w.cell? ⟨b, 1, none⟩ = some a1 ∧ w.cell? ⟨b, 2, none⟩ = some a2 ∧ w.cell? ⟨b, 3, none⟩ = some a3 ∧ w.cell? ⟨b, 4, none⟩ = some a4 ∧ w.cell? ⟨b, 5, none⟩ = some a5 ∧ w.cell? ⟨b, 6, none⟩ = some a6 ∧ w.cell? ⟨b, 7, none⟩ = some a7 ∧ w.cell? ⟨b, 8, none⟩ = some a8 :=
  ⟨h 0 _ rfl, h 1 _ rfl, h 2 _ rfl, h 3 _ rfl, h 4 _ rfl, h 5 _ rfl, h 6 _ rfl, h 7 _ rfl, h 8 _ rfl⟩
theorem putAt_len {l : List AdrR} {a : AdrR} {k : Nat} (h : k ≤ l.length) : (putAt l a k).length = k + 1 + (l.length - k) := by
  unfold putAt
  rw [List.length_append, List.length_append, List.length_take, List.length_drop, Nat.min_eq_left h]
  rfl
set_option maxHeartbeats 8000000 in
theorem spec_l10Keys {v : Value} {b n : Nat} {os : List FsO} {ls : List (List FndR)} (w : World) (h : FsRow w b v os) (hl : os.map FsO.r = ls) (hn : ls.length = n) (h64 : ∀ fs ∈ ls, fs.length ≤ 64) (hn5 : n ≤ 5) :
    Calls Tryz.prog 75 #[v] w fun e w' => ∃ g c, e = .returned (.slice (some ⟨g, 0, none⟩) (keysOf ls.flatten).length c) ∧ w'.ownsRow w.heap.size 72 9 (.slice (some ⟨g, 0, none⟩) (keysOf ls.flatten).length c) (keysOf ls.flatten).length (((keysOf ls.flatten).map keyO).flatMap VotO.cells) ∧ Below w.heap.size w w' := by
  obtain ⟨i0, hti, hz0, hz1, hz2⟩ := info_parts Tryz.info_Voted
  have hno : os.length = n := by rw [← hn, ← hl, List.length_map]
  have HE := Hid.in_ h.each
  obtain ⟨A, c, rfl, _, hcn, hA⟩ := own_shape h.row
  rw [hno] at hcn hA ⊢
  have H1 := Hid.in_ hA
  have HNO := Hid.in_ hno
  have HLS := Hid.in_ hl
  have HNN := Hid.in_ hn
  have H64 := Hid.in_ h64
  clear h hl hn h64 hno hA
  go_enter Tryz.func75, Tryz.ntmps75
  go_wp2_with fail
  go_loopg [3, 4] n (fun m v3 v4 wr => ∃ i K gq cq : Nat, i + m = n ∧ v4 = .int .i64 i ∧ v3 = .slice (some ⟨gq, 0, none⟩) K cq ∧ Hid (K = (keysOf (preF ls i 0)).length) ∧ Hid (wr.ownsRow w.heap.size 72 9 (.slice (some ⟨gq, 0, none⟩) K cq) K (((keysOf (preF ls i 0)).map keyO).flatMap VotO.cells)) ∧ Hid (Below w.heap.size w wr))
  case atStart => exact ⟨0, 0, w.heap.size, 0, by omega, rfl, rfl, by rw [preF_zero]; rfl, by rw [preF_zero]; exact World.ownsRow_lit w #[] 0 (Nat.le_refl _) (by decide) (by decide), balloc (Below.refl _ _) _⟩
  case round =>
    obtain ⟨i, K, gq, cq, him, rfl, rfl, HKL, HI, HB⟩ := hrel
    have HK := Hid.in_ him
    clear him
    by_cases hlt : i < n
    · obtain ⟨g, rfl, _, hg, hx, _⟩ := H1.out (by omega)
      obtain ⟨⟨fs, fv⟩, ho⟩ := get_lt os i (by rw [HNO.out]; exact hlt)
      have hbx := Box.elem FsO.len hx ho
      rw [Nat.mul_one] at hbx
      have HC0 : Hid (w.cell? ⟨g, i, none⟩ = some fv) := by have := hbx 0 _ rfl; exact this
      have hfr : w.ownsRow b 63 8 fv fs.length (fs.flatMap FndR.cells) := HE.out _ (List.mem_of_getElem? ho)
      have hli : ls[i]? = some fs := fso_get HLS.out ho
      have hfl : fs.length ≤ 64 := H64.out fs (List.mem_of_getElem? hli)
      have HLI := Hid.in_ hli
      obtain ⟨N, hN⟩ : ∃ N, fs.length = N := ⟨_, rfl⟩
      rw [hN] at hfr hfl
      obtain ⟨A2, c2, rfl, _, hc2, hA2⟩ := own_shape hfr
      have H2 := Hid.in_ hA2
      have HFN := Hid.in_ hN
      have hgw : g < wr.heap.size := Nat.lt_of_lt_of_le hg HB.out.size
      clear hbx hx ho hfr hli hA2 hN
      go_wp2_with fail
      obtain ⟨gO, rfl⟩ : ∃ g, g = gk := ⟨_, rfl⟩
      go_loopg [3, 5] N (fun m v3 v5 wr => ∃ k K gq cq : Nat, k + m = N ∧ v5 = .int .i64 k ∧ v3 = .slice (some ⟨gq, 0, none⟩) K cq ∧ Hid (K = (keysOf (preF ls i k)).length) ∧ Hid (wr.ownsRow w.heap.size 72 9 (.slice (some ⟨gq, 0, none⟩) K cq) K (((keysOf (preF ls i k)).map keyO).flatMap VotO.cells)) ∧ Hid (Below w.heap.size w wr))
      case atStart => exact ⟨0, K, gq, cq, by omega, rfl, rfl, HKL, HI, HB⟩
      case round =>
        clear HI HB HKL
        obtain ⟨k, K, gq, cq, hkm, rfl, rfl, HKL, HI, HB⟩ := hrel
        obtain ⟨wo, rfl⟩ : ∃ x, x = wr := ⟨_, rfl⟩
        have HQ := Hid.in_ hkm
        clear hkm
        have c0 : wo.cell? ⟨g, i, none⟩ = some (.slice A2 N c2) := cstep HB.out HC0.out
        by_cases hlk : k < N
        · obtain ⟨g2, rfl, _, hg2, hx2, _⟩ := H2.out (by omega)
          obtain ⟨f, hf⟩ := get_lt fs k (by rw [HFN.out]; exact hlk)
          obtain ⟨x0, x1, x2, x3, x4, x5, x6, x7⟩ := boxAt8 ((Box.elem FndR.len hx2 hf).step HB.out)
          have HPN := Hid.in_ (preF_next HLI.out hf)
          have hKb : K ≤ 320 := by
            rw [HKL.out]
            exact Nat.le_trans (keysOf_len _) (preF_small (by rw [HNN.out]; exact hn5) H64.out (by rw [HNN.out]; exact hlt) (by omega))
          have hg2w : g2 < wo.heap.size := Nat.lt_of_lt_of_le hg2 HB.out.size
          obtain ⟨_, _, hcq1, hcq2⟩ := own_box HI.out
          have hgqw : gq < wo.heap.size := (HI.out.lt gq rfl).2
          clear hx2 hf
          obtain ⟨fc, fh, fn, fs_, fd, ft, fl, fp⟩ := f
          simp only at x0 x1 x2 x3 x4 x5 x6 x7
          cases hst : (ft == 2)
          · have HN := Hid.in_ (show keysOf (preF ls i (k + 1)) = putA (keysOf (preF ls i k)) ⟨fc, fh, fn, fs_⟩ by
              rw [HPN.out, keysOf_yes (by simp only [beq_eq_false_iff_ne, ne_eq] at hst; exact hst)]; rfl)
            obtain ⟨KS, hKS⟩ : ∃ KS, keysOf (preF ls i k) = KS := ⟨_, rfl⟩
            rw [hKS] at HKL HI HN
            have HAW := Hid.in_ (show Below wo.heap.size wo ((wo.alloc (.cells #[.int .i64 fc, .int .i64 fh, .int .i64 fn, .int .i64 fs_, .string fd, .int .i64 ft, .bool fl, .int .i64 fp] 63)).alloc (.cells #[.int .i64 fc, .int .i64 fh, .int .i64 fn, .int .i64 fs_, .string ⟨#[]⟩, .int .i64 0, .bool false, .slice none 0 0, .int .i64 0] 72)) from balloc (balloc (Below.refl _ _) _) _)
            have HVB := Hid.in_ (show Box ((wo.alloc (.cells #[.int .i64 fc, .int .i64 fh, .int .i64 fn, .int .i64 fs_, .string fd, .int .i64 ft, .bool fl, .int .i64 fp] 63)).alloc (.cells #[.int .i64 fc, .int .i64 fh, .int .i64 fn, .int .i64 fs_, .string ⟨#[]⟩, .int .i64 0, .bool false, .slice none 0 0, .int .i64 0] 72)) (wo.heap.size + 1) [.int .i64 fc, .int .i64 fh, .int .i64 fn, .int .i64 fs_, .string ⟨#[]⟩, .int .i64 0, .bool false, .slice none 0 0, .int .i64 0] from (wr_twoT wo 63 72 [.int .i64 fc, .int .i64 fh, .int .i64 fn, .int .i64 fs_, .string fd, .int .i64 ft, .bool fl, .int .i64 fp] [.int .i64 fc, .int .i64 fh, .int .i64 fn, .int .i64 fs_, .string ⟨#[]⟩, .int .i64 0, .bool false, .slice none 0 0, .int .i64 0]).2.1.box)
            clear hKS HPN
            go_wp2_with fail
            obtain ⟨gM, rfl⟩ : ∃ g, g = gk := ⟨_, rfl⟩
            obtain ⟨wa, hwa⟩ : ∃ wa, wa = (wo.alloc (.cells #[.int .i64 fc, .int .i64 fh, .int .i64 fn, .int .i64 fs_, .string fd, .int .i64 ft, .bool fl, .int .i64 fp] 63)).alloc (.cells #[.int .i64 fc, .int .i64 fh, .int .i64 fn, .int .i64 fs_, .string ⟨#[]⟩, .int .i64 0, .bool false, .slice none 0 0, .int .i64 0] 72) := ⟨_, rfl⟩
            rw [← hwa] at HAW HVB
            have hwasz : wo.heap.size + 1 < wa.heap.size := by rw [hwa]; show _ < ((wo.heap.push _).push _).size; rw [Array.size_push, Array.size_push]; omega
            have HWA := Hid.in_ hwa
            clear hwa x0 x1 x2 x3 x4 x5 x6 x7
            try rw [← HWA.out]
            go_loopg [8] K (fun m v8 wr => ∃ p : Nat, p + m = K ∧ v8 = .int .i64 p ∧ Hid (∀ j x, j < p → KS[j]? = some x → ltA x ⟨fc, fh, fn, fs_⟩) ∧ Hid (Below wa.heap.size wa wr))
            case atStart => exact ⟨0, by omega, rfl, fun j x hj => absurd hj (by omega), by first | exact Below.refl _ _ | (rw [HWA.out]; exact Below.refl _ _)⟩
            case round =>
              obtain ⟨p, hpm, rfl, HP, HBP⟩ := hrel
              have HPP := Hid.in_ hpm
              have hpK : p ≤ K := by omega
              clear hpm
              have HBW := Hid.in_ (HAW.out.trans (HBP.out.mono HAW.out.size))
              have hIp := own_below HI.out HBW.out (Nat.le_refl _)
              have HIP := Hid.in_ hIp
              have HXP := Hid.in_ (own_box hIp).1
              have HVP := Hid.in_ (HVB.out.step HBP.out)
              have HBB := Hid.in_ (HB.out.trans (HBW.out.mono HB.out.size))
              have hgqr : gq < wr.heap.size := (hIp.lt gq rfl).2
              have hvr : wo.heap.size + 1 < wr.heap.size := Nat.lt_of_lt_of_le hwasz HBP.out.size
              have hVA : BoxAt wr (wo.heap.size + 1) 0 (AdrR.cells ⟨fc, fh, fn, fs_⟩) := fun j u hu => by
                have hj : j < 4 := (List.getElem?_eq_some_iff.1 hu).1
                rw [Nat.zero_add]
                refine HVP.out j u ?_
                have h4 : j = 0 ∨ j = 1 ∨ j = 2 ∨ j = 3 := by omega
                rcases h4 with rfl | rfl | rfl | rfl <;> exact hu
              have HVA := Hid.in_ hVA
              clear hIp hVA
              by_cases hlp : p < K
              · obtain ⟨y, hy⟩ := get_lt KS p (by rw [← HKL.out]; exact hlp)
                have HY := Hid.in_ hy
                have HYA := Hid.in_ (keyO_box HXP.out hy)
                have H01 := Hid.in_ (spec_l10Before wr HYA.out HVA.out)
                clear hy
                by_cases hyv : ltA y ⟨fc, fh, fn, fs_⟩
                · rw [decide_eq_true hyv] at H01
                  go_wp2_with fail
                  refine H01.out.mono ?_
                  rintro e w2 ⟨rfl, q, rfl⟩
                  go_wp2
                  have hp := HPP.out
                  go_roundg (gk - 1)
                  case measure => omega
                  case rel =>
                    refine ⟨p + 1, by omega, by go_num, Hid.in_ (fun j x hj hx => ?_), below_drewN HBP.out _⟩
                    rcases Nat.lt_or_ge j p with hjp | hjp
                    · exact HP.out j x hjp hx
                    · obtain rfl : j = p := by omega
                      rw [HY.out] at hx
                      injection hx with hx
                      rw [← hx]; exact hyv
                · rw [decide_eq_false hyv] at H01
                  by_cases hvy : ltA ⟨fc, fh, fn, fs_⟩ y
                  · have HS := Hid.in_ (putA_new HP.out HY.out hyv hvy)
                    go_wp2_with fail
                    refine H01.out.mono ?_
                    rintro e w2 ⟨rfl, q, rfl⟩
                    obtain ⟨w2, hw2⟩ : ∃ w2, w2 = wr.drewN q := ⟨_, rfl⟩
                    rw [← hw2]
                    have hb2 : Below wr.heap.size wr w2 := by rw [hw2]; exact below_drewN (Below.refl _ _) _
                    have H02 := Hid.in_ (spec_l10Before w2 (HVA.out.step hb2) (HYA.out.step hb2))
                    rw [decide_eq_true hvy] at H02
                    have HB2 := Hid.in_ hb2
                    clear hw2 hb2
                    go_wp2_with fail
                    refine H02.out.mono ?_
                    rintro e w3 ⟨rfl, q3, rfl⟩
                    obtain ⟨wq, hwq⟩ : ∃ wq, wq = w2.drewN q3 := ⟨_, rfl⟩
                    rw [← hwq]
                    have HBR := Hid.in_ (show Below wr.heap.size wr wq by rw [hwq]; exact below_drewN HB2.out _)
                    have HIQ := Hid.in_ (ostep HBR.out HIP.out)
                    have HVQ := Hid.in_ (HVP.out.step HBR.out)
                    have HBQ := Hid.in_ (HBB.out.trans (HBR.out.mono HBB.out.size))
                    clear hwq
                    have X1 : ∀ j u, (((KS.take p).map keyO).flatMap VotO.cells)[j]? = some u → (wq.alloc (.cells #[] 72)).cell? ((⟨gq, 0, none⟩ : Addr).add j) = some u := kbox_take ((own_box (HIQ.out.alloc _)).1)
                    have X9 := Hid.in_ (show p ≤ KS.length by rw [← HKL.out]; exact hpK)
                    have X2 : (((KS.take p).map keyO).flatMap VotO.cells).length = p * 9 := by rw [flat_len VotO.len, List.length_map, List.length_take, Nat.min_eq_left X9.out]
                    have X8 : (((KS.drop p).map keyO).flatMap VotO.cells).length = (K - p) * 9 := by rw [flat_len VotO.len, List.length_map, List.length_drop, HKL.out]
                    have X3 := World.ownsRow_lit (e := 72) (base := wq.heap.size) (size := 9) wq #[] 0 (Nat.le_refl _) (by decide) (by decide)
                    have X4 : (p : Int) ≤ K := by omega
                    have X5 : (K : Int) ≤ cq := by omega
                    have X6 : (0 : Int) ≤ p := by omega
                    have X7 : (p : Int) ≤ cq := by omega
                    have hKp : p + 1 + (K - p) = K + 1 := by omega
                    go_wp2_with (at_builtin; first
                      | (refine wpList_append_own _ rfl _ _ 35 rfl wq.heap.size 72 i0 (.agg #[.int .i64 0, .int .i64 0, .int .i64 0, .int .i64 0, .string ⟨#[]⟩, .int .i64 0, .bool false, .slice none 0 0, .int .i64 0]) 9 96 Tryz.underlying35 hti hz0 hz1 hz2 rfl (by decide) _ _ _ rfl X3 ⟨gq, 0, none⟩ p cq (((KS.take p).map keyO).flatMap VotO.cells) rfl X2 X1 key_one (by unfold maxLen; omega) (by omega) (balloc (Below.refl _ _) _).size ?_; intro v4 w4 ho4 hg4 _
                         have HO4 := Hid.in_ (show w4.ownsRow wq.heap.size 72 9 v4 p (((KS.take p).map keyO).flatMap VotO.cells) by simpa using ho4)
                         have HB4 := Hid.in_ (bgrown (balloc (Below.refl wq.heap.size wq) _) X3 (Nat.le_refl _) hg4)
                         clear ho4 hg4
                         obtain ⟨d0, d1, d2, d3, d4, d5, d6, d7, d8⟩ := box9z (HVQ.out.step HB4.out))
                      | (refine wpList_append_own _ rfl _ _ 35 rfl wq.heap.size 72 i0 (.agg #[.int .i64 0, .int .i64 0, .int .i64 0, .int .i64 0, .string ⟨#[]⟩, .int .i64 0, .bool false, .slice none 0 0, .int .i64 0]) 9 96 Tryz.underlying35 hti hz0 hz1 hz2 rfl (by decide) _ _ _ rfl (HO4.out.alloc _) ⟨w4.heap.size, 0, none⟩ 1 1 [.int .i64 fc, .int .i64 fh, .int .i64 fn, .int .i64 fs_, .string ⟨#[]⟩, .int .i64 0, .bool false, .slice none 0 0, .int .i64 0] rfl rfl (cells9g rfl) (fun x hx => by simp at hx; rcases hx with rfl | rfl | rfl | rfl | rfl | rfl | rfl | rfl | rfl <;> rfl) (by unfold maxLen; omega) (by omega) (balloc HB4.out _).size ?_; intro v5 w5 ho5 hg5 _
                         have HO5 := Hid.in_ ho5
                         have HB5 := Hid.in_ (bgrown (balloc HB4.out _) (HO4.out.alloc _) (Nat.le_refl _) hg5)
                         clear ho5 hg5)
                      | (refine wpList_append_own _ rfl _ _ 35 rfl wq.heap.size 72 i0 (.agg #[.int .i64 0, .int .i64 0, .int .i64 0, .int .i64 0, .string ⟨#[]⟩, .int .i64 0, .bool false, .slice none 0 0, .int .i64 0]) 9 96 Tryz.underlying35 hti hz0 hz1 hz2 rfl (by decide) _ _ _ rfl HO5.out ⟨gq, p * 9, none⟩ (K - p) (cq - p) (((KS.drop p).map keyO).flatMap VotO.cells) rfl X8 (kbox_drop X9.out ((own_box (ostep HB5.out HIQ.out)).1)) key_one (by unfold maxLen; omega) (by omega) HB5.out.size ?_; intro v6 w6 ho6 hg6 _
                         have HO6 := Hid.in_ ho6
                         have HB6 := Hid.in_ (bgrown HB5.out HO5.out (Nat.le_refl _) hg6)
                         clear ho6 hg6))
                    have ho := HO6.out
                    rw [← putAt_cells' KS ⟨fc, fh, fn, fs_⟩ p, hKp] at ho
                    have HOF := Hid.in_ (own_base ho (show w.heap.size ≤ wq.heap.size from HBQ.out.size))
                    obtain ⟨A6, c6, rfl, _, _, hA6⟩ := own_shape ho
                    obtain ⟨g6, rfl, _⟩ := hA6 (by omega)
                    have HLF := Hid.in_ (show K + 1 = (putAt KS ⟨fc, fh, fn, fs_⟩ p).length by rw [putAt_len X9.out, ← HKL.out, hKp])
                    have HBF := Hid.in_ (HBQ.out.trans (HB6.out.mono HBQ.out.size))
                    clear ho hA6 HO4 HO5 HO6 HB4 HB5 HB6 X1 X2 X3 X8
                    have hq := HQ.out
                    go_roundg (gM - 1)
                    case measure => omega
                    case rel => exact ⟨k + 1, K + 1, g6, c6, by omega, by go_num, by go_num, by rw [HN.out, HS.out]; exact HLF.out, by rw [HN.out, HS.out]; exact HOF.out, HBF.out⟩
                  · have HS := Hid.in_ (putA_old HP.out HY.out hyv hvy)
                    go_wp2_with fail
                    refine H01.out.mono ?_
                    rintro e w2 ⟨rfl, q, rfl⟩
                    obtain ⟨w2, hw2⟩ : ∃ w2, w2 = wr.drewN q := ⟨_, rfl⟩
                    rw [← hw2]
                    have hb2 : Below wr.heap.size wr w2 := by rw [hw2]; exact below_drewN (Below.refl _ _) _
                    have H02 := Hid.in_ (spec_l10Before w2 (HVA.out.step hb2) (HYA.out.step hb2))
                    rw [decide_eq_false hvy] at H02
                    have HB2 := Hid.in_ hb2
                    clear hw2 hb2
                    go_wp2_with fail
                    refine H02.out.mono ?_
                    rintro e w3 ⟨rfl, q3, rfl⟩
                    go_wp2
                    have hq := HQ.out
                    go_roundg (gM - 1)
                    case measure => omega
                    case rel => exact ⟨k + 1, K, gq, cq, by omega, by go_num, rfl, by rw [HN.out, HS.out]; exact HKL.out, by rw [HN.out, HS.out]; exact own_drewN (ostep HB2.out HIP.out) _, below_drewN (HBB.out.trans (HB2.out.mono HBB.out.size)) _⟩
              · have hpe : KS.length = p := by rw [← HKL.out]; omega
                have hS := putA_end (l := KS) (v := ⟨fc, fh, fn, fs_⟩) (fun j x hj hx => HP.out j x (by rw [← hpe]; exact hj) hx)
                rw [hpe] at hS
                have HS := Hid.in_ hS
                clear hS hpe
                by_cases hck : p < cq
                · have hck2 := hck
                  obtain ⟨wq, rfl⟩ : ∃ wq, wq = wr := ⟨_, rfl⟩
                  have HIQ := HIP
                  have HVQ := HVP
                  have HBQ := HBB
                  have X1 : ∀ j u, (((KS.take p).map keyO).flatMap VotO.cells)[j]? = some u → (wq.alloc (.cells #[] 72)).cell? ((⟨gq, 0, none⟩ : Addr).add j) = some u := kbox_take ((own_box (HIQ.out.alloc _)).1)
                  have X9 := Hid.in_ (show p ≤ KS.length by rw [← HKL.out]; exact hpK)
                  have X2 : (((KS.take p).map keyO).flatMap VotO.cells).length = p * 9 := by rw [flat_len VotO.len, List.length_map, List.length_take, Nat.min_eq_left X9.out]
                  have X8 : (((KS.drop p).map keyO).flatMap VotO.cells).length = (K - p) * 9 := by rw [flat_len VotO.len, List.length_map, List.length_drop, HKL.out]
                  have X3 := World.ownsRow_lit (e := 72) (base := wq.heap.size) (size := 9) wq #[] 0 (Nat.le_refl _) (by decide) (by decide)
                  have X4 : (p : Int) ≤ K := by omega
                  have X5 : (K : Int) ≤ cq := by omega
                  have X6 : (0 : Int) ≤ p := by omega
                  have X7 : (p : Int) ≤ cq := by omega
                  have hKp : p + 1 + (K - p) = K + 1 := by omega
                  go_wp2_with (at_builtin; first
                    | (refine wpList_append_own _ rfl _ _ 35 rfl wq.heap.size 72 i0 (.agg #[.int .i64 0, .int .i64 0, .int .i64 0, .int .i64 0, .string ⟨#[]⟩, .int .i64 0, .bool false, .slice none 0 0, .int .i64 0]) 9 96 Tryz.underlying35 hti hz0 hz1 hz2 rfl (by decide) _ _ _ rfl X3 ⟨gq, 0, none⟩ p cq (((KS.take p).map keyO).flatMap VotO.cells) rfl X2 X1 key_one (by unfold maxLen; omega) (by omega) (balloc (Below.refl _ _) _).size ?_; intro v4 w4 ho4 hg4 _
                       have HO4 := Hid.in_ (show w4.ownsRow wq.heap.size 72 9 v4 p (((KS.take p).map keyO).flatMap VotO.cells) by simpa using ho4)
                       have HB4 := Hid.in_ (bgrown (balloc (Below.refl wq.heap.size wq) _) X3 (Nat.le_refl _) hg4)
                       clear ho4 hg4
                       obtain ⟨d0, d1, d2, d3, d4, d5, d6, d7, d8⟩ := box9z (HVQ.out.step HB4.out))
                    | (refine wpList_append_own _ rfl _ _ 35 rfl wq.heap.size 72 i0 (.agg #[.int .i64 0, .int .i64 0, .int .i64 0, .int .i64 0, .string ⟨#[]⟩, .int .i64 0, .bool false, .slice none 0 0, .int .i64 0]) 9 96 Tryz.underlying35 hti hz0 hz1 hz2 rfl (by decide) _ _ _ rfl (HO4.out.alloc _) ⟨w4.heap.size, 0, none⟩ 1 1 [.int .i64 fc, .int .i64 fh, .int .i64 fn, .int .i64 fs_, .string ⟨#[]⟩, .int .i64 0, .bool false, .slice none 0 0, .int .i64 0] rfl rfl (cells9g rfl) (fun x hx => by simp at hx; rcases hx with rfl | rfl | rfl | rfl | rfl | rfl | rfl | rfl | rfl <;> rfl) (by unfold maxLen; omega) (by omega) (balloc HB4.out _).size ?_; intro v5 w5 ho5 hg5 _
                       have HO5 := Hid.in_ ho5
                       have HB5 := Hid.in_ (bgrown (balloc HB4.out _) (HO4.out.alloc _) (Nat.le_refl _) hg5)
                       clear ho5 hg5)
                    | (refine wpList_append_own _ rfl _ _ 35 rfl wq.heap.size 72 i0 (.agg #[.int .i64 0, .int .i64 0, .int .i64 0, .int .i64 0, .string ⟨#[]⟩, .int .i64 0, .bool false, .slice none 0 0, .int .i64 0]) 9 96 Tryz.underlying35 hti hz0 hz1 hz2 rfl (by decide) _ _ _ rfl HO5.out ⟨gq, p * 9, none⟩ (K - p) (cq - p) (((KS.drop p).map keyO).flatMap VotO.cells) rfl X8 (kbox_drop X9.out ((own_box (ostep HB5.out HIQ.out)).1)) key_one (by unfold maxLen; omega) (by omega) HB5.out.size ?_; intro v6 w6 ho6 hg6 _
                       have HO6 := Hid.in_ ho6
                       have HB6 := Hid.in_ (bgrown HB5.out HO5.out (Nat.le_refl _) hg6)
                       clear ho6 hg6))
                  have ho := HO6.out
                  rw [← putAt_cells' KS ⟨fc, fh, fn, fs_⟩ p, hKp] at ho
                  have HOF := Hid.in_ (own_base ho (show w.heap.size ≤ wq.heap.size from HBQ.out.size))
                  obtain ⟨A6, c6, rfl, _, _, hA6⟩ := own_shape ho
                  obtain ⟨g6, rfl, _⟩ := hA6 (by omega)
                  have HLF := Hid.in_ (show K + 1 = (putAt KS ⟨fc, fh, fn, fs_⟩ p).length by rw [putAt_len X9.out, ← HKL.out, hKp])
                  have HBF := Hid.in_ (HBQ.out.trans (HB6.out.mono HBQ.out.size))
                  clear ho hA6 HO4 HO5 HO6 HB4 HB5 HB6 X1 X2 X3 X8
                  have hq := HQ.out
                  go_roundg (gM - 1)
                  case measure => omega
                  case rel => exact ⟨k + 1, K + 1, g6, c6, by omega, by go_num, by go_num, by rw [HN.out, HS.out]; exact HLF.out, by rw [HN.out, HS.out]; exact HOF.out, HBF.out⟩
                · obtain rfl : p = cq := by omega
                  obtain ⟨wq, rfl⟩ : ∃ wq, wq = wr := ⟨_, rfl⟩
                  have HIQ := HIP
                  have HVQ := HVP
                  have HBQ := HBB
                  have X1 : ∀ j u, (((KS.take p).map keyO).flatMap VotO.cells)[j]? = some u → (wq.alloc (.cells #[] 72)).cell? ((⟨gq, 0, none⟩ : Addr).add j) = some u := kbox_take ((own_box (HIQ.out.alloc _)).1)
                  have X9 := Hid.in_ (show p ≤ KS.length by rw [← HKL.out]; exact hpK)
                  have X2 : (((KS.take p).map keyO).flatMap VotO.cells).length = p * 9 := by rw [flat_len VotO.len, List.length_map, List.length_take, Nat.min_eq_left X9.out]
                  have X8 : (((KS.drop p).map keyO).flatMap VotO.cells).length = (K - p) * 9 := by rw [flat_len VotO.len, List.length_map, List.length_drop, HKL.out]
                  have X3 := World.ownsRow_lit (e := 72) (base := wq.heap.size) (size := 9) wq #[] 0 (Nat.le_refl _) (by decide) (by decide)
                  have X4 : (p : Int) ≤ K := by omega
                  have X5 : (K : Int) ≤ p := by omega
                  have X6 : (0 : Int) ≤ p := by omega
                  have X7 : (p : Int) ≤ p := by omega
                  have hKp : p + 1 + (K - p) = K + 1 := by omega
                  go_wp2_with (at_builtin; first
                    | (refine wpList_append_own _ rfl _ _ 35 rfl wq.heap.size 72 i0 (.agg #[.int .i64 0, .int .i64 0, .int .i64 0, .int .i64 0, .string ⟨#[]⟩, .int .i64 0, .bool false, .slice none 0 0, .int .i64 0]) 9 96 Tryz.underlying35 hti hz0 hz1 hz2 rfl (by decide) _ _ _ rfl X3 ⟨gq, 0, none⟩ p p (((KS.take p).map keyO).flatMap VotO.cells) rfl X2 X1 key_one (by unfold maxLen; omega) (by omega) (balloc (Below.refl _ _) _).size ?_; intro v4 w4 ho4 hg4 _
                       have HO4 := Hid.in_ (show w4.ownsRow wq.heap.size 72 9 v4 p (((KS.take p).map keyO).flatMap VotO.cells) by simpa using ho4)
                       have HB4 := Hid.in_ (bgrown (balloc (Below.refl wq.heap.size wq) _) X3 (Nat.le_refl _) hg4)
                       clear ho4 hg4
                       obtain ⟨d0, d1, d2, d3, d4, d5, d6, d7, d8⟩ := box9z (HVQ.out.step HB4.out))
                    | (refine wpList_append_own _ rfl _ _ 35 rfl wq.heap.size 72 i0 (.agg #[.int .i64 0, .int .i64 0, .int .i64 0, .int .i64 0, .string ⟨#[]⟩, .int .i64 0, .bool false, .slice none 0 0, .int .i64 0]) 9 96 Tryz.underlying35 hti hz0 hz1 hz2 rfl (by decide) _ _ _ rfl (HO4.out.alloc _) ⟨w4.heap.size, 0, none⟩ 1 1 [.int .i64 fc, .int .i64 fh, .int .i64 fn, .int .i64 fs_, .string ⟨#[]⟩, .int .i64 0, .bool false, .slice none 0 0, .int .i64 0] rfl rfl (cells9g rfl) (fun x hx => by simp at hx; rcases hx with rfl | rfl | rfl | rfl | rfl | rfl | rfl | rfl | rfl <;> rfl) (by unfold maxLen; omega) (by omega) (balloc HB4.out _).size ?_; intro v5 w5 ho5 hg5 _
                       have HO5 := Hid.in_ ho5
                       have HB5 := Hid.in_ (bgrown (balloc HB4.out _) (HO4.out.alloc _) (Nat.le_refl _) hg5)
                       clear ho5 hg5)
                    | (refine wpList_append_own _ rfl _ _ 35 rfl wq.heap.size 72 i0 (.agg #[.int .i64 0, .int .i64 0, .int .i64 0, .int .i64 0, .string ⟨#[]⟩, .int .i64 0, .bool false, .slice none 0 0, .int .i64 0]) 9 96 Tryz.underlying35 hti hz0 hz1 hz2 rfl (by decide) _ _ _ rfl HO5.out ⟨gq, 0, none⟩ 0 0 [] rfl rfl (fun j u hu => by cases hu) (fun x hx => by cases hx) (by unfold maxLen; omega) (by omega) HB5.out.size ?_; intro v6 w6 ho6 hg6 _
                       have HO6 := Hid.in_ (show w6.ownsRow wq.heap.size 72 9 v6 (p + 1 + (K - p)) (((KS.take p).map keyO).flatMap VotO.cells ++ [.int .i64 fc, .int .i64 fh, .int .i64 fn, .int .i64 fs_, .string ⟨#[]⟩, .int .i64 0, .bool false, .slice none 0 0, .int .i64 0] ++ ((KS.drop p).map keyO).flatMap VotO.cells) by rw [show K - p = 0 by omega, List.drop_of_length_le (by rw [← HKL.out]; omega)]; simpa using ho6)
                       have HB6 := Hid.in_ (bgrown HB5.out HO5.out (Nat.le_refl _) hg6)
                       clear ho6 hg6))
                  have ho := HO6.out
                  rw [← putAt_cells' KS ⟨fc, fh, fn, fs_⟩ p, hKp] at ho
                  have HOF := Hid.in_ (own_base ho (show w.heap.size ≤ wq.heap.size from HBQ.out.size))
                  obtain ⟨A6, c6, rfl, _, _, hA6⟩ := own_shape ho
                  obtain ⟨g6, rfl, _⟩ := hA6 (by omega)
                  have HLF := Hid.in_ (show K + 1 = (putAt KS ⟨fc, fh, fn, fs_⟩ p).length by rw [putAt_len X9.out, ← HKL.out, hKp])
                  have HBF := Hid.in_ (HBQ.out.trans (HB6.out.mono HBQ.out.size))
                  clear ho hA6 HO4 HO5 HO6 HB4 HB5 HB6 X1 X2 X3 X8
                  have hq := HQ.out
                  go_roundg (gM - 1)
                  case measure => omega
                  case rel => exact ⟨k + 1, K + 1, g6, c6, by omega, by go_num, by go_num, by rw [HN.out, HS.out]; exact HLF.out, by rw [HN.out, HS.out]; exact HOF.out, HBF.out⟩
          · have HN := Hid.in_ (show keysOf (preF ls i (k + 1)) = keysOf (preF ls i k) by
              rw [HPN.out, keysOf_no (by simp only [beq_iff_eq] at hst; exact hst)])
            go_wp2
            have hq := HQ.out
            go_roundg (gk - 1)
            case measure => omega
            case rel => exact ⟨k + 1, K, gq, cq, by omega, by go_num, rfl, by rw [HN.out]; exact HKL.out, by rw [HN.out]; exact HI.out.alloc _, balloc HB.out _⟩
        · have hq := HQ.out
          obtain rfl : k = N := by omega
          have HT := Hid.in_ (show preF ls i k = preF ls (i + 1) 0 by rw [← HFN.out]; exact preF_turn HLI.out)
          rw [HT.out] at HI HKL
          go_wp2
          have hk := HK.out
          go_roundg (gO - 1)
          case measure => omega
          case rel => exact ⟨i + 1, K, gq, cq, by omega, by go_num, rfl, HKL, HI, HB⟩
    · have hk := HK.out
      obtain rfl : i = n := by omega
      have HP := Hid.in_ (show preF ls i 0 = ls.flatten by rw [← HNN.out]; exact preF_all ls)
      rw [HP.out] at HI HKL
      rw [HKL.out] at HI
      have HKE := Hid.in_ HKL.out
      go_wp2
      go_ret
      exact ⟨gq, cq, show Ending.returned (.slice (some ⟨gq, 0, none⟩) K cq) = _ by rw [HKE.out], HI.out, HB.out⟩
end Go.Proofs.YtlelgpknkgjaeaaGreatDoor

/- 'l10Merge' of the reference. -/
namespace Go.Proofs.YtlelgpknkgjaeaaGreatDoor
open Go.ChangeShapes Go.WideShapes Go.ChangeAt Go.RowKit
set_option linter.unusedSimpArgs false
set_option linter.unusedVariables false
set_option maxRecDepth 4000

def keyV (a : AdrR) (vo : Nat) : VotO := ⟨⟨a.c, a.h, a.n, a.s, ⟨#[]⟩, 0, false, [], (vo : Nat)⟩, .slice none 0 0⟩
/-- A row of sectors of which those in D are filled. -/
structure MT (w wr : World) (g c K : Nat) (D X : List VotO) : Prop where
  row : wr.ownsRow w.heap.size 72 9 (.slice (some ⟨g, 0, none⟩) K c) K ((D ++ X).flatMap VotO.cells)
  weak : ∀ o ∈ D, wr.ownsRow w.heap.size 2 1 o.v o.r.l.length (I64 o.r.l)
  apart : D.Pairwise fun a b => a.v.ownBlock = none ∨ a.v.ownBlock ≠ b.v.ownBlock
  low : Below w.heap.size w wr
theorem MT.step {w wr w' : World} {g c K : Nat} {D X : List VotO} (k : Below wr.heap.size wr w') (h : MT w wr g c K D X) : MT w w' g c K D X :=
  ⟨ostep k h.row, fun o ho => ostep k (h.weak o ho), h.apart, h.low.trans (k.mono h.low.size)⟩
theorem mid_get (D : List VotO) (o : VotO) (X : List VotO) : (D ++ o :: X)[D.length]? = some o := by rw [List.getElem?_append_right (Nat.le_refl _), Nat.sub_self]; rfl
theorem mid_set (D : List VotO) (o o' : VotO) (X : List VotO) : (D ++ o :: X).set D.length o' = D ++ o' :: X := by rw [List.set_append_right _ _ (Nat.le_refl _), Nat.sub_self, List.set_cons_zero]
theorem mid_set' {D X : List VotO} {o o' : VotO} {i : Nat} (h : D.length = i) : (D ++ o :: X).set i o' = D ++ o' :: X := by subst h; exact mid_set D o o' X
theorem MT.turn {w wr w' : World} {g c K : Nat} {D X X' : List VotO} (h : MT w wr g c K D X) (hr : w'.ownsRow w.heap.size 72 9 (.slice (some ⟨g, 0, none⟩) K c) K ((D ++ X').flatMap VotO.cells)) (hg : wr.grownBy w' (some g)) : MT w w' g c K D X' :=
  ⟨hr, fun o ho => kept_apart (by decide) (h.weak o ho) h.row hg, h.apart, h.low.grown hg h.low.size (fun k hk => by injection hk with hk; rw [← hk]; exact (h.row.lt g rfl).1)⟩
theorem MT.put {w wr : World} {g c K i j : Nat} {D X : List VotO} {o : VotO} (h : MT w wr g c K D (o :: X)) (hD : D.length = i) (o' : VotO) (x : Value) (hj : j < 9) (he : o'.cells = o.cells.set j x) :
    MT w (wr.setCell ⟨g, i * 9 + j, none⟩ x) g c K D (o' :: X) := by
  subst hD
  have := own_put VotO.len h.row (o' := o') x (mid_get D o X) hj he
  rw [mid_set] at this
  exact h.turn this.1 this.2
theorem MT.snoc {w wr : World} {g c K : Nat} {D X : List VotO} {o : VotO} (h : MT w wr g c K D (o :: X)) (hw : wr.ownsRow w.heap.size 2 1 o.v o.r.l.length (I64 o.r.l)) (ha : ∀ p ∈ D, p.v.ownBlock = none ∨ p.v.ownBlock ≠ o.v.ownBlock) : MT w wr g c K (D ++ [o]) X := by
  refine ⟨by rw [List.append_assoc]; exact h.row, fun p hp => ?_, ?_, h.low⟩
  · rcases List.mem_append.1 hp with hp | hp
    · exact h.weak p hp
    · rw [List.mem_singleton] at hp; subst hp; exact hw
  · rw [List.pairwise_append]
    refine ⟨h.apart, List.pairwise_singleton _ _, fun p hp q hq => ?_⟩
    rw [List.mem_singleton] at hq
    subst hq
    exact ha p hp
theorem MT.box {w wr : World} {g c K i : Nat} {D X : List VotO} {o : VotO} (h : MT w wr g c K D (o :: X)) (hD : D.length = i) : BoxAt wr g (i * 9) o.cells := by
  subst hD
  exact Box.elem VotO.len (own_box h.row).1 (mid_get D o X)
theorem head4 {w : World} {g o : Nat} {a : AdrR} {x : VotO} (h : BoxAt w g o x.cells) (hc : x.r.c = a.c) (hh : x.r.h = a.h) (hn : x.r.n = a.n) (hs : x.r.s = a.s) : BoxAt w g o a.cells := fun j u hu => by
  have hj : j < 4 := (List.getElem?_eq_some_iff.1 hu).1
  refine h j u ?_
  have h4 : j = 0 ∨ j = 1 ∨ j = 2 ∨ j = 3 := by omega
  have hx : x.cells = [.int .i64 x.r.c, .int .i64 x.r.h, .int .i64 x.r.n, .int .i64 x.r.s, .string x.r.d, .int .i64 x.r.t, .bool x.r.x, x.v, .int .i64 x.r.vo] := rfl
  rw [hx, hc, hh, hn, hs]
  rcases h4 with rfl | rfl | rfl | rfl <;> exact hu
theorem flat_small {ls : List (List FndR)} (h5 : ls.length ≤ 5) (h64 : ∀ fs ∈ ls, fs.length ≤ 64) : ls.flatten.length ≤ 320 := by
  by_cases h0 : ls.length = 0
  · have : ls = [] := List.eq_nil_of_length_eq_zero h0
    rw [this]; exact Nat.zero_le _
  · have hlast : ls.length - 1 < ls.length := by omega
    have h1 := preF_small (ls := ls) (i := ls.length - 1) (k := (ls.getD (ls.length - 1) []).length) h5 h64 hlast (by
      rw [List.getD_eq_getElem?_getD, List.getElem?_eq_getElem hlast]
      exact h64 _ (List.getElem_mem hlast))
    have h2 : preF ls (ls.length - 1) (ls.getD (ls.length - 1) []).length = ls.flatten := by
      have h3 := preF_turn (ls := ls) (i := ls.length - 1) (fs := ls[ls.length - 1]) (List.getElem?_eq_getElem hlast)
      rw [List.getD_eq_getElem?_getD, List.getElem?_eq_getElem hlast]
      show preF ls (ls.length - 1) (ls[ls.length - 1]).length = _
      rw [h3, show ls.length - 1 + 1 = ls.length by omega, preF_all]
    rw [h2] at h1
    exact h1
theorem drop_keys {KS : List AdrR} {i : Nat} {a : AdrR} (h : KS[i]? = some a) : (KS.drop i).map keyO = keyV a 0 :: (KS.drop (i + 1)).map keyO := by
  have hi : i < KS.length := (List.getElem?_eq_some_iff.1 h).1
  have e : KS[i] = a := (List.getElem?_eq_some_iff.1 h).2
  rw [List.drop_eq_getElem_cons hi, e, List.map_cons]
  rfl
theorem merge_one {ls : List (List FndR)} {a : AdrR} (h : (dataOf ls.flatten a 1).length ≠ 0) : mergeV ls a = fillV a (dataOf ls.flatten a 1) (delOf ls.flatten a 1) (if (placesTo (diffAt (dataOf ls.flatten a 1)) (revLen (dataOf ls.flatten a 1))).length = 0 then 1 else 5) (votesTo ls a ls.length) := if_pos h
theorem merge_two {ls : List (List FndR)} {a : AdrR} (h : ¬ (dataOf ls.flatten a 1).length ≠ 0) (h3 : (dataOf ls.flatten a 3).length ≠ 0) : mergeV ls a = fillV a (dataOf ls.flatten a 3) (delOf ls.flatten a 3) 3 (votesTo ls a ls.length) := by
  unfold mergeV; rw [if_neg h, if_pos h3]
theorem merge_none {ls : List (List FndR)} {a : AdrR} (h : ¬ (dataOf ls.flatten a 1).length ≠ 0) (h3 : ¬ (dataOf ls.flatten a 3).length ≠ 0) : mergeV ls a = ⟨a.c, a.h, a.n, a.s, ⟨#[]⟩, 4, false, [], (votesTo ls a ls.length : Nat)⟩ := by
  unfold mergeV; rw [if_neg h, if_neg h3]
theorem FsRow.below {w w' : World} {b B : Nat} {v : Value} {os : List FsO} (h : FsRow w b v os) (k : Below B w w') (hB : w.heap.size ≤ B) : FsRow w' b v os :=
  ⟨own_below h.row k hB, fun o ho => own_below (h.each o ho) k hB, h.apart⟩
set_option maxHeartbeats 16000000 in
theorem spec_l10Merge {v : Value} {b n : Nat} {os : List FsO} {ls : List (List FndR)} (w : World) (h : FsRow w b v os) (hl : os.map FsO.r = ls) (hn : ls.length = n) (h64 : ∀ fs ∈ ls, fs.length ≤ 64) (hn5 : n ≤ 5) (hg : ∀ f ∈ ls.flatten, goodF f) :
    Calls Tryz.prog 45 #[v] w fun e w' => ∃ v' os', e = .returned v' ∧ os'.map VotO.r = mgV ls ∧ VRow w' w.heap.size v' os' ∧ Below w.heap.size w w' := by
  have hno : os.length = n := by rw [← hn, ← hl, List.length_map]
  have HFS := Hid.in_ h
  have HE := Hid.in_ h.each
  have HKY := Hid.in_ (spec_l10Keys w h hl hn h64 hn5)
  obtain ⟨A, c, rfl, _, hcn, hA⟩ := own_shape h.row
  rw [hno] at hcn hA HFS HKY ⊢
  have H1 := Hid.in_ hA
  have HNO := Hid.in_ hno
  have HLS := Hid.in_ hl
  have HNN := Hid.in_ hn
  have H64 := Hid.in_ h64
  have HG := Hid.in_ hg
  clear h hl hn h64 hno hA hg
  obtain ⟨KS, hKS⟩ : ∃ KS, keysOf ls.flatten = KS := ⟨_, rfl⟩
  obtain ⟨K, hKL⟩ : ∃ K, KS.length = K := ⟨_, rfl⟩
  rw [hKS, hKL] at HKY
  have HMG := Hid.in_ (show mgV ls = KS.map (mergeV ls) by unfold mgV; rw [hKS])
  have HKL := Hid.in_ hKL
  have hKb : K ≤ 320 := by
    rw [← hKL, ← hKS]
    refine Nat.le_trans (keysOf_len _) ?_
    have h5 := HNN.out
    by_cases h0 : n = 0
    · have : ls = [] := List.eq_nil_of_length_eq_zero (by omega)
      rw [this]; exact Nat.zero_le _
    · have hlast : ls.length - 1 < ls.length := by omega
      have h1 := preF_small (ls := ls) (i := ls.length - 1) (k := (ls.getD (ls.length - 1) []).length) (by omega) H64.out hlast (by
        rw [List.getD_eq_getElem?_getD, List.getElem?_eq_getElem hlast]
        exact H64.out _ (List.getElem_mem hlast))
      have h2 : preF ls (ls.length - 1) (ls.getD (ls.length - 1) []).length = ls.flatten := by
        have h3 := preF_turn (ls := ls) (i := ls.length - 1) (fs := ls[ls.length - 1]) (List.getElem?_eq_getElem hlast)
        rw [List.getD_eq_getElem?_getD, List.getElem?_eq_getElem hlast]
        show preF ls (ls.length - 1) (ls[ls.length - 1]).length = _
        rw [h3, show ls.length - 1 + 1 = ls.length by omega, preF_all]
      rw [h2] at h1
      exact h1
  clear hKS hKL
  go_enter Tryz.func45, Tryz.ntmps45
  go_wp2_with fail
  refine HKY.out.mono ?_
  rintro e w1 ⟨g, cq, rfl, ho1, hb1⟩
  have HM1 := Hid.in_ (show MT w w1 g cq K [] (KS.map keyO) from ⟨ho1, (fun o ho => by cases ho), List.Pairwise.nil, hb1⟩)
  clear ho1 hb1 HKY
  go_wp2_with fail
  go_loopg [4] K (fun m v4 wr => ∃ (i : Nat) (D : List VotO), i + m = K ∧ v4 = .int .i64 i ∧ Hid (D.length = i ∧ D.map VotO.r = (KS.take i).map (mergeV ls)) ∧ Hid (MT w wr g cq K D ((KS.drop i).map keyO)))
  case atStart => exact ⟨0, [], by omega, rfl, ⟨rfl, rfl⟩, HM1⟩
  case round =>
    clear HM1
    obtain ⟨i, D, him, rfl, HD, HM⟩ := hrel
    have HK := Hid.in_ him
    clear him
    by_cases hlt : i < K
    · obtain ⟨a, ha⟩ := get_lt KS i (by rw [HKL.out]; exact hlt)
      have hm0 := HM.out
      rw [drop_keys ha] at hm0
      have HM0 := Hid.in_ hm0
      have HA := Hid.in_ ha
      have hgw : g < wr.heap.size := (hm0.row.lt g rfl).2
      clear ha hm0 HM
      go_wp2_with fail
      obtain ⟨gI, rfl⟩ : ∃ x, x = gk := ⟨_, rfl⟩
      go_loopg [6] n (fun m v6 wr => ∃ (k vo : Nat), k + m = n ∧ v6 = .int .i64 k ∧ Hid (vo = votesTo ls a k) ∧ Hid (MT w wr g cq K D (keyV a vo :: (KS.drop (i + 1)).map keyO)))
      case atStart => exact ⟨0, 0, by omega, rfl, rfl, HM0⟩
      case round =>
        clear HM0
        obtain ⟨k, vo, hkm, rfl, HVO, HM⟩ := hrel
        have HQ := Hid.in_ hkm
        clear hkm
        by_cases hlk : k < n
        · obtain ⟨g1, rfl, _, hg1, hx, _⟩ := H1.out (by omega)
          obtain ⟨⟨fs, fv⟩, ho⟩ := get_lt os k (by rw [HNO.out]; exact hlk)
          have hbx := Box.elem FsO.len hx ho
          rw [Nat.mul_one] at hbx
          have HC0 : Hid (w.cell? ⟨g1, k, none⟩ = some fv) := by have := hbx 0 _ rfl; exact this
          have hfr : w.ownsRow b 63 8 fv fs.length (fs.flatMap FndR.cells) := HE.out _ (List.mem_of_getElem? ho)
          have hli : ls[k]? = some fs := fso_get HLS.out ho
          have HVN := Hid.in_ (votesTo_next (a := a) hli)
          have hvo5 : vo ≤ 5 := by rw [HVO.out]; exact Nat.le_trans (votesTo_le _ _ _) (by omega)
          obtain ⟨N, hN⟩ : ∃ N, fs.length = N := ⟨_, rfl⟩
          rw [hN] at hfr
          obtain ⟨A2, c2, rfl, _, hc2, hA2⟩ := own_shape hfr
          have H2 := Hid.in_ hA2
          have HFN := Hid.in_ hN
          clear hbx hx ho hfr hli hA2 hN
          go_wp2_with fail
          obtain ⟨gJ, rfl⟩ : ∃ x, x = gk := ⟨_, rfl⟩
          go_loopg [7, 8] N (fun m v7 v8 wr => ∃ (j : Nat) (has : Bool), j + m = N ∧ v7 = .bool has ∧ v8 = .int .i64 j ∧ Hid (has = hasF (fs.take j) a) ∧ Hid (MT w wr g cq K D (keyV a vo :: (KS.drop (i + 1)).map keyO)))
          case atStart => exact ⟨0, false, by omega, rfl, rfl, rfl, HM⟩
          case round =>
            clear HM
            obtain ⟨j, has, hjm, rfl, rfl, HHS, HM⟩ := hrel
            have HJ := Hid.in_ hjm
            clear hjm
            have c0 : wr.cell? ⟨g1, k, none⟩ = some (.slice A2 N c2) := cstep HM.out.low HC0.out
            by_cases hlj : j < N
            · obtain ⟨g2, rfl, _, hg2, hx2, _⟩ := H2.out (by omega)
              obtain ⟨f, hf⟩ := get_lt fs j (by rw [HFN.out]; exact hlj)
              have HHN := Hid.in_ (show hasF (fs.take (j + 1)) a = (has || keyF f a) by rw [List.take_add_one, hf, HHS.out]; exact hasF_snoc _ _ _)
              have HKEY := Hid.in_ (spec_l10Key wr ((Box.elem FndR.len hx2 hf).step HM.out.low) (head4 (a := a) (HM.out.box HD.out.1) rfl rfl rfl rfl))
              have hg2w : g2 < wr.heap.size := Nat.lt_of_lt_of_le hg2 HM.out.low.size
              clear hx2 hf
              cases has
              · generalize keyF f a = kf at *
                go_wp2_with fail
                refine HKEY.out.mono ?_
                rintro e w2 ⟨rfl, q, rfl⟩
                go_wp2
                have hj := HJ.out
                go_roundg (gk - 1)
                case measure => omega
                case rel => exact ⟨j + 1, kf, by omega, by go_num, by go_num, Hid.in_ (by rw [HHN.out]; rfl), HM.out.step (below_drewN (Below.refl _ _) _)⟩
              · go_wp2
                have hj := HJ.out
                go_roundg (gk - 1)
                case measure => omega
                case rel => exact ⟨j + 1, true, by omega, rfl, by go_num, Hid.in_ (by rw [HHN.out]; rfl), HM⟩
            · have hj := HJ.out
              obtain rfl : j = N := by omega
              have HTF := Hid.in_ (show fs.take j = fs by rw [List.take_of_length_le (by rw [HFN.out]; exact Nat.le_refl _)])
              rw [HTF.out] at HHS
              cases has
              · have HVE := Hid.in_ (show vo = votesTo ls a (k + 1) by rw [HVN.out, ← HHS.out, ← HVO.out]; rfl)
                go_wp2
                have hq := HQ.out
                go_roundg (gJ - 1)
                case measure => omega
                case rel => exact ⟨k + 1, vo, by omega, by go_num, HVE, HM⟩
              · have HVE := Hid.in_ (show vo + 1 = votesTo ls a (k + 1) by rw [HVN.out, ← HHS.out, ← HVO.out]; rfl)
                have hbv := HM.out.box HD.out.1
                have d8 : wr.cell? ⟨g, i * 9 + 8, none⟩ = some (.int .i64 (vo : Nat)) := hbv 8 _ rfl
                have f8 := (own_box HM.out.row).2.1 (i * 9 + 8)
                have HP := Hid.in_ (HM.out.put HD.out.1 (keyV a (vo + 1)) (.int .i64 ((vo : Int) + 1)) (j := 8) (by decide) rfl)
                clear hbv
                go_wp2
                have hq := HQ.out
                go_roundg (gJ - 1)
                case measure => omega
                case rel => exact ⟨k + 1, vo + 1, by omega, by go_num, HVE, HP⟩
        · have hq := HQ.out
          obtain rfl : k = n := by omega
          have HVF := Hid.in_ (show vo = votesTo ls a ls.length by rw [HVO.out, HNN.out])
          go_wp2_with fail
          refine (spec_l10All 1 _ (HFS.out.below HM.out.low (Nat.le_refl _)) HLS.out HNN.out H64.out hn5 (head4 (a := a) (HM.out.box HD.out.1) rfl rfl rfl rfl)).mono ?_
          rintro e w2 ⟨v2, rfl, ho2, hb2⟩
          have HM2 := Hid.in_ (HM.out.step hb2)
          have HO2 := Hid.in_ ho2
          clear hb2 ho2
          go_wp2_with fail
          refine (spec_l10All 3 _ (HFS.out.below HM2.out.low (Nat.le_refl _)) HLS.out HNN.out H64.out hn5 (head4 (a := a) (HM2.out.box HD.out.1) rfl rfl rfl rfl)).mono ?_
          rintro e w3 ⟨v3, rfl, ho3, hb3⟩
          have HM3 := Hid.in_ (HM2.out.step hb3)
          have hO2 := ostep hb3 HO2.out
          have hfl : ls.flatten.length ≤ 320 := by
            by_cases h0 : k = 0
            · have : ls = [] := List.eq_nil_of_length_eq_zero (by rw [HNN.out]; exact h0)
              rw [this]; exact Nat.zero_le _
            · exact flat_small (by rw [HNN.out]; exact hn5) H64.out
          obtain ⟨P1, hP1⟩ : ∃ P1, pickF ls.flatten a 1 = P1 := ⟨_, rfl⟩
          obtain ⟨P3, hP3⟩ : ∃ P3, pickF ls.flatten a 3 = P3 := ⟨_, rfl⟩
          have hn1b : P1.length ≤ 320 := by rw [← hP1]; exact Nat.le_trans (pick_len _ _ _) hfl
          have hn3b : P3.length ≤ 320 := by rw [← hP3]; exact Nat.le_trans (pick_len _ _ _) hfl
          rw [hP1] at hO2
          rw [hP3] at ho3
          obtain ⟨n1, hn1⟩ : ∃ n1, P1.length = n1 := ⟨_, rfl⟩
          obtain ⟨n3, hn3⟩ : ∃ n3, P3.length = n3 := ⟨_, rfl⟩
          rw [hn1] at hO2 hn1b
          rw [hn3] at ho3 hn3b
          obtain ⟨A4, c4, rfl, _, _, _⟩ := own_shape hO2
          obtain ⟨A5, c5, rfl, _, _, _⟩ := own_shape ho3
          have HOG := Hid.in_ hO2
          have HOB := Hid.in_ ho3
          have HP1 := Hid.in_ hP1
          have HP3 := Hid.in_ hP3
          have Hn1 := Hid.in_ hn1
          have Hn3 := Hid.in_ hn3
          have hmid : (D ++ keyV a vo :: (KS.drop (i + 1)).map keyO)[i]? = some (keyV a vo) := by
            have := mid_get D (keyV a vo) ((KS.drop (i + 1)).map keyO)
            rw [HD.out.1] at this
            exact this
          have hgw3 : g < w3.heap.size := (HM3.out.row.lt g rfl).2
          clear hb3 ho3 hO2 hP1 hP3 hn1 hn3 hfl HM HM2 HO2
          by_cases hn1 : n1 = 0
          · by_cases hn3 : n3 = 0
            · have HMV := Hid.in_ (show mergeV ls a = ⟨a.c, a.h, a.n, a.s, ⟨#[]⟩, 4, false, [], (vo : Nat)⟩ by
                rw [merge_none (by rw [data_len, HP1.out, Hn1.out]; omega) (by rw [data_len, HP3.out, Hn3.out]; omega), HVF.out])
              have hb3 := HM3.out.box HD.out.1
              have d5 : w3.cell? ⟨g, i * 9 + 5, none⟩ = some (.int .i64 0) := hb3 5 _ rfl
              have f5 := (own_box HM3.out.row).2.1 (i * 9 + 5)
              have HP := Hid.in_ (HM3.out.put HD.out.1 (⟨⟨a.c, a.h, a.n, a.s, ⟨#[]⟩, 4, false, [], (vo : Nat)⟩, .slice none 0 0⟩) (.int .i64 4) (j := 5) (by decide) rfl)
              clear hb3 hmid
              subst hn1 hn3
              go_wp2
              have hk := HK.out
              go_roundg (gI - 1)
              case measure => omega
              case rel =>
                refine ⟨i + 1, D ++ [(⟨⟨a.c, a.h, a.n, a.s, ⟨#[]⟩, 4, false, [], (vo : Nat)⟩, .slice none 0 0⟩ : VotO)], by omega, by go_num, ⟨by rw [List.length_append, HD.out.1]; rfl, ?_⟩, Hid.in_ (HP.out.snoc (World.ownsRow_nil _ _ _ _) (fun p hp => by
                  cases hpb : p.v.ownBlock with
                  | none => exact .inl rfl
                  | some z => exact .inr (by intro e; cases e)))⟩
                rw [List.map_append, HD.out.2, List.take_add_one, HA.out, List.map_append]
                show _ ++ [(_ : VotR)] = _ ++ [mergeV ls a]
                rw [HMV.out]
            · subst hn1
              have hn3p : (0 : Int) < (n3 : Int) := by omega
              have hN := data_size (fs := ls.flatten) (a := a) (st := 3) HG.out (by omega)
              obtain ⟨NR, hNR⟩ : ∃ NR, revLen (dataOf ls.flatten a 3) = NR := ⟨_, rfl⟩
              have hN1 : ∀ s ∈ (P3).map FndR.d, s.size = NR := fun s hs => by rw [← hNR]; exact (hN s (by rw [← HP3.out] at hs; exact hs)).1
              have hN2 : NR ≤ 1024 := by
                obtain ⟨s, hs⟩ : ∃ s, s ∈ (P3).map FndR.d := by
                  cases hp : (P3) with
                  | nil => exfalso; have := Hn3.out; rw [hp] at this; exact hn3 this.symm
                  | cons x r => exact ⟨x.d, by simp⟩
                rw [← hN1 s hs]
                exact (hN s (by rw [← HP3.out] at hs; exact hs)).2
              have HFL := Hid.in_ (spec_l10Fill w3 HOB.out HM3.out.row hmid (by omega) hn3b hN1 hN2)
              obtain ⟨W, hW⟩ : ∃ W, placesTo (diffAt ((P3).map FndR.d)) NR = W := ⟨_, rfl⟩
              obtain ⟨DD, hDD⟩ : ∃ DD : ByteArray, (⟨(voteTo ((P3).map FndR.d) NR).toArray⟩ : ByteArray) = DD := ⟨_, rfl⟩
              obtain ⟨bx, hbx⟩ : ∃ bx, decide (n3 < 2 * ((P3).filter FndR.l).length) = bx := ⟨_, rfl⟩
              rw [hW, hDD, hbx] at HFL
              have HMV := Hid.in_ (show mergeV ls a = ⟨a.c, a.h, a.n, a.s, DD, 3, bx, W, (vo : Nat)⟩ by
                have e1 : (dataOf ls.flatten a 3).length = n3 := by rw [data_len, ← Hn3.out, HP3.out]
                rw [merge_two (by rw [data_len, HP1.out, Hn1.out]; omega) (by omega)]
                unfold fillV
                rw [e1, hNR, ← HVF.out]
                unfold dataOf delOf
                rw [HP3.out, hW, hDD, hbx])
              clear hN hN1 hN2 hNR hW hDD hbx
              go_wp2_with fail
              refine HFL.out.mono ?_
              rintro e w4 ⟨rfl, wv, how, hor, hgr⟩
              have hm4 := HM3.out.turn (X' := (keyV a vo).fill DD bx W wv :: (KS.drop (i + 1)).map keyO) (by
                rw [mid_set' HD.out.1] at hor
                exact hor) hgr
              have HAP := Hid.in_ (show ∀ p ∈ D, p.v.ownBlock = none ∨ p.v.ownBlock ≠ wv.ownBlock from fun p hp => own_apart (HM3.out.weak p hp) how (Nat.le_refl _))
              have HWV := Hid.in_ (own_base how HM3.out.low.size)
              have HM4 := Hid.in_ hm4
              have hb4 := hm4.box HD.out.1
              obtain ⟨A9, c9, rfl, _, _, _⟩ := own_shape how
              have f5 := (own_box hm4.row).2.1 (i * 9 + 5)
              have d5 : w4.cell? ⟨g, i * 9 + 5, none⟩ = some (.int .i64 0) := hb4 5 _ rfl
              have d7 : w4.cell? ⟨g, i * 9 + 7, none⟩ = some (.slice A9 W.length c9) := hb4 7 _ rfl
              have HP := Hid.in_ (HM4.out.put HD.out.1 (⟨⟨a.c, a.h, a.n, a.s, DD, 3, bx, W, (vo : Nat)⟩, .slice A9 W.length c9⟩) (.int .i64 3) (j := 5) (by decide) rfl)
              have HWP := Hid.in_ (kept_apart (by decide) HWV.out HM4.out.row (own_setCells [.int .i64 3] (i * 9 + 5) HM4.out.row).2)
              clear hm4 hb4 how hor hgr
              go_wp2
              have hk := HK.out
              go_roundg (gI - 1)
              case measure => omega
              case rel =>
                refine ⟨i + 1, D ++ [(⟨⟨a.c, a.h, a.n, a.s, DD, 3, bx, W, (vo : Nat)⟩, .slice A9 W.length c9⟩ : VotO)], by omega, by go_num, ⟨by rw [List.length_append, HD.out.1]; rfl, ?_⟩, Hid.in_ (HP.out.snoc HWP.out HAP.out)⟩
                rw [List.map_append, HD.out.2, List.take_add_one, HA.out, List.map_append]
                show _ ++ [(_ : VotR)] = _ ++ [mergeV ls a]
                rw [HMV.out]
          · have hn1p : (0 : Int) < (n1 : Int) := by omega
            have hN := data_size (fs := ls.flatten) (a := a) (st := 1) HG.out (by omega)
            obtain ⟨NR, hNR⟩ : ∃ NR, revLen (dataOf ls.flatten a 1) = NR := ⟨_, rfl⟩
            have hN1 : ∀ s ∈ (P1).map FndR.d, s.size = NR := fun s hs => by rw [← hNR]; exact (hN s (by rw [← HP1.out] at hs; exact hs)).1
            have hN2 : NR ≤ 1024 := by
              obtain ⟨s, hs⟩ : ∃ s, s ∈ (P1).map FndR.d := by
                cases hp : (P1) with
                | nil => exfalso; have := Hn1.out; rw [hp] at this; exact hn1 this.symm
                | cons x r => exact ⟨x.d, by simp⟩
              rw [← hN1 s hs]
              exact (hN s (by rw [← HP1.out] at hs; exact hs)).2
            have HFL := Hid.in_ (spec_l10Fill w3 HOG.out HM3.out.row hmid (by omega) hn1b hN1 hN2)
            obtain ⟨W, hW⟩ : ∃ W, placesTo (diffAt ((P1).map FndR.d)) NR = W := ⟨_, rfl⟩
            obtain ⟨DD, hDD⟩ : ∃ DD : ByteArray, (⟨(voteTo ((P1).map FndR.d) NR).toArray⟩ : ByteArray) = DD := ⟨_, rfl⟩
            obtain ⟨bx, hbx⟩ : ∃ bx, decide (n1 < 2 * ((P1).filter FndR.l).length) = bx := ⟨_, rfl⟩
            rw [hW, hDD, hbx] at HFL
            have HMV := Hid.in_ (show mergeV ls a = ⟨a.c, a.h, a.n, a.s, DD, if W.length = 0 then 1 else 5, bx, W, (vo : Nat)⟩ by
              have e1 : (dataOf ls.flatten a 1).length = n1 := by rw [data_len, ← Hn1.out, HP1.out]
              rw [merge_one (by omega)]
              unfold fillV
              rw [e1, hNR, ← HVF.out]
              unfold dataOf delOf
              rw [HP1.out, hW, hDD, hbx])
            clear hN hN1 hN2 hNR hW hDD hbx
            go_wp2_with fail
            refine HFL.out.mono ?_
            rintro e w4 ⟨rfl, wv, how, hor, hgr⟩
            have hm4 := HM3.out.turn (X' := (keyV a vo).fill DD bx W wv :: (KS.drop (i + 1)).map keyO) (by
              rw [mid_set' HD.out.1] at hor
              exact hor) hgr
            have HAP := Hid.in_ (show ∀ p ∈ D, p.v.ownBlock = none ∨ p.v.ownBlock ≠ wv.ownBlock from fun p hp => own_apart (HM3.out.weak p hp) how (Nat.le_refl _))
            have HWV := Hid.in_ (own_base how HM3.out.low.size)
            have HM4 := Hid.in_ hm4
            have hb4 := hm4.box HD.out.1
            obtain ⟨A9, c9, rfl, _, _, _⟩ := own_shape how
            have f5 := (own_box hm4.row).2.1 (i * 9 + 5)
            have d5 : w4.cell? ⟨g, i * 9 + 5, none⟩ = some (.int .i64 0) := hb4 5 _ rfl
            have d7 : w4.cell? ⟨g, i * 9 + 7, none⟩ = some (.slice A9 W.length c9) := hb4 7 _ rfl
            have HP := Hid.in_ (HM4.out.put HD.out.1 (⟨⟨a.c, a.h, a.n, a.s, DD, 1, bx, W, (vo : Nat)⟩, .slice A9 W.length c9⟩) (.int .i64 1) (j := 5) (by decide) rfl)
            have HWP := Hid.in_ (kept_apart (by decide) HWV.out HM4.out.row (own_setCells [.int .i64 1] (i * 9 + 5) HM4.out.row).2)
            clear hm4 hb4 how hor hgr
            by_cases hW0 : W.length = 0
            · rw [hW0] at d7
              go_wp2
              have hk := HK.out
              go_roundg (gI - 1)
              case measure => omega
              case rel =>
                refine ⟨i + 1, D ++ [(⟨⟨a.c, a.h, a.n, a.s, DD, 1, bx, W, (vo : Nat)⟩, .slice A9 W.length c9⟩ : VotO)], by omega, by go_num, ⟨by rw [List.length_append, HD.out.1]; rfl, ?_⟩, Hid.in_ (HP.out.snoc HWP.out HAP.out)⟩
                rw [List.map_append, HD.out.2, List.take_add_one, HA.out, List.map_append]
                show _ ++ [(_ : VotR)] = _ ++ [mergeV ls a]
                rw [HMV.out, if_pos hW0]
            · have hWp : (0 : Int) < (W.length : Int) := by omega
              have HQ5 := Hid.in_ (HP.out.put HD.out.1 (⟨⟨a.c, a.h, a.n, a.s, DD, 5, bx, W, (vo : Nat)⟩, .slice A9 W.length c9⟩) (.int .i64 5) (j := 5) (by decide) rfl)
              have HWQ := Hid.in_ (kept_apart (by decide) HWP.out HP.out.row (own_setCells [.int .i64 5] (i * 9 + 5) HP.out.row).2)
              go_wp2
              have hk := HK.out
              go_roundg (gI - 1)
              case measure => omega
              case rel =>
                refine ⟨i + 1, D ++ [(⟨⟨a.c, a.h, a.n, a.s, DD, 5, bx, W, (vo : Nat)⟩, .slice A9 W.length c9⟩ : VotO)], by omega, by go_num, ⟨by rw [List.length_append, HD.out.1]; rfl, ?_⟩, Hid.in_ (HQ5.out.snoc HWQ.out HAP.out)⟩
                rw [List.map_append, HD.out.2, List.take_add_one, HA.out, List.map_append]
                show _ ++ [(_ : VotR)] = _ ++ [mergeV ls a]
                rw [HMV.out, if_neg hW0]
    · have hk := HK.out
      obtain rfl : i = K := by omega
      have HF := Hid.in_ (show D.map VotO.r = mgV ls ∧ VRow wr w.heap.size (.slice (some ⟨g, 0, none⟩) i cq) D from ⟨by
        rw [HD.out.2, HMG.out, List.take_of_length_le (by rw [HKL.out]; exact Nat.le_refl _)], by
        have hr := HM.out.row
        rw [List.drop_of_length_le (by rw [HKL.out]; exact Nat.le_refl _), List.map_nil, List.append_nil] at hr
        refine ⟨?_, HM.out.weak, HM.out.apart⟩
        rw [HD.out.1]; exact hr⟩)
      go_wp2
      go_ret
      exact ⟨_, D, rfl, HF.out.1, HF.out.2, HM.out.low⟩
end Go.Proofs.YtlelgpknkgjaeaaGreatDoor

/- 'mergeAddress' of the program: the walk. -/
namespace Go.Proofs.YtlelgpknkgjaeaaGreatDoor
open Go.ChangeShapes Go.WideShapes Go.ChangeAt Go.RowKit
set_option linter.unusedSimpArgs false
set_option linter.unusedVariables false
set_option maxRecDepth 8000

def zero9 : List Value := [.int .i64 0, .int .i64 0, .int .i64 0, .int .i64 0, .string ⟨#[]⟩, .int .i64 0, .bool false, .slice none 0 0, .int .i64 0]
def start9 (a : AdrR) : List Value := [.int .i64 a.c, .int .i64 a.h, .int .i64 a.n, .int .i64 a.s, .string ⟨#[]⟩, .int .i64 4, .bool false, .slice none 0 0, .int .i64 0]
theorem size_al (w : World) (o : Obj) : (w.alloc o).heap.size = w.heap.size + 1 := by unfold World.alloc; rw [Array.size_push]
theorem MA.init (w : World) (a : AdrR) : MA w (((((w.alloc (.cells a.cells.toArray 103)).alloc (.cells zero9.toArray 72)).alloc (.cells (start9 a).toArray 72)).alloc (.map #[] 0)).alloc (.map #[] 0)) w.heap.size a [] 0 (fun _ => .slice none 0 0) := by
  obtain ⟨w1, h1⟩ : ∃ w1, w.alloc (.cells a.cells.toArray 103) = w1 := ⟨_, rfl⟩
  obtain ⟨w2, h2⟩ : ∃ w2, w1.alloc (.cells zero9.toArray 72) = w2 := ⟨_, rfl⟩
  obtain ⟨w3, h3⟩ : ∃ w3, w2.alloc (.cells (start9 a).toArray 72) = w3 := ⟨_, rfl⟩
  obtain ⟨w4, h4⟩ : ∃ w4, w3.alloc (.map #[] 0) = w4 := ⟨_, rfl⟩
  obtain ⟨w5, h5⟩ : ∃ w5, w4.alloc (.map #[] 0) = w5 := ⟨_, rfl⟩
  rw [h1, h2, h3, h4, h5]
  have s1 : w1.heap.size = w.heap.size + 1 := by rw [← h1]; exact size_al _ _
  have s2 : w2.heap.size = w.heap.size + 2 := by rw [← h2, size_al, s1]
  have s3 : w3.heap.size = w.heap.size + 3 := by rw [← h3, size_al, s2]
  have s4 : w4.heap.size = w.heap.size + 4 := by rw [← h4, size_al, s3]
  have s5 : w5.heap.size = w.heap.size + 5 := by rw [← h5, size_al, s4]
  have b12 : Below w1.heap.size w1 w2 := by rw [← h2]; exact balloc (Below.refl _ _) _
  have b23 : Below w2.heap.size w2 w3 := by rw [← h3]; exact balloc (Below.refl _ _) _
  have b34 : Below w3.heap.size w3 w4 := by rw [← h4]; exact balloc (Below.refl _ _) _
  have b45 : Below w4.heap.size w4 w5 := by rw [← h5]; exact balloc (Below.refl _ _) _
  have b01 : Below w.heap.size w w1 := by rw [← h1]; exact balloc (Below.refl _ _) _
  have c1 : Wr w1 w.heap.size a.cells := by rw [← h1]; exact Wr.new w a.cells 103
  have c2 : Wr w2 (w.heap.size + 1) zero9 := by rw [← h2, ← s1]; exact Wr.new w1 zero9 72
  have c3 : Wr w3 (w.heap.size + 2) (start9 a) := by rw [← h3, ← s2]; exact Wr.new w2 (start9 a) 72
  have c4 : MapV w4 (w.heap.size + 3) 0 (fun _ => .slice none 0 0) (.slice none 0 0) := by rw [← h4, ← s3]; exact MapV.made w3 _
  have c5 : MapV w5 (w.heap.size + 4) 0 (fun _ => .int .i64 0) (.int .i64 0) := by rw [← h5, ← s4]; exact MapV.made w4 _
  exact ⟨(((c1.step b12).step b23).step b34).step b45, ((c2.step b23).step b34).step b45, (c3.step b34).step b45, c4.step b45, fun st => World.ownsRow_nil _ _ _ _, fun s t _ => .inl rfl, c5, by omega, rfl, bstep (bstep (bstep (bstep b01 b12) b23) b34) b45⟩
set_option maxHeartbeats 16000000 in
theorem impl_mergeAddress {v : Value} {b n : Nat} {os : List FsO} {ls : List (List FndR)} (a : AdrR) (w : World) (h : FsRow w b v os) (hl : os.map FsO.r = ls) (hn : ls.length = n) (h64 : ∀ fs ∈ ls, fs.length ≤ 64) (hn5 : n ≤ 5)
    (hg : ∀ f ∈ ls.flatten, goodF f) (ht : ∀ f ∈ ls.flatten, 1 ≤ f.t ∧ f.t ≤ 4) :
    Calls Tryz.prog 84 #[v, .agg #[.int .i64 a.c, .int .i64 a.h, .int .i64 a.n, .int .i64 a.s]] w fun e w' => ∃ wv, e = .returned (.agg ((mergeV ls a).cells wv).toArray) ∧ w'.ownsRow w.heap.size 2 1 wv (mergeV ls a).l.length (I64 (mergeV ls a).l) ∧ Below w.heap.size w w' := by
  obtain ⟨i0, hti, hz0, hz1, hz2⟩ := info_parts Tryz.info_Str
  have hmm := @run_makeMap Tryz.prog
  have hno : os.length = n := by rw [← hn, ← hl, List.length_map]
  have HE := Hid.in_ h.each
  obtain ⟨A, c, rfl, _, hcn, hA⟩ := own_shape h.row
  rw [hno] at hcn hA ⊢
  have H1 := Hid.in_ hA
  have HNO := Hid.in_ hno
  have HLS := Hid.in_ hl
  have HNN := Hid.in_ hn
  have H64 := Hid.in_ h64
  have HG := Hid.in_ hg
  have HT := Hid.in_ ht
  have HINIT := Hid.in_ (MA.init w a)
  obtain ⟨ac, ah, an, as_⟩ := a
  simp only
  clear h hl hn h64 hno hA hg ht
  go_enter Tryz.func84, Tryz.ntmps84
  go_wp2_with fail
  clear hmm
  obtain ⟨B4, hB4⟩ : ∃ x, x = w.heap.size + 1 + 1 + 1 + 1 := ⟨_, rfl⟩
  rw [← hB4]
  obtain ⟨B3, hB3⟩ : ∃ x, x = w.heap.size + 1 + 1 + 1 := ⟨_, rfl⟩
  rw [← hB3]
  obtain ⟨B2, hB2⟩ : ∃ x, x = w.heap.size + 1 + 1 := ⟨_, rfl⟩
  rw [← hB2]
  have HB4 := Hid.in_ (show B4 = w.heap.size + 4 from hB4)
  have HB3 := Hid.in_ (show B3 = w.heap.size + 3 from hB3)
  have HB2 := Hid.in_ (show B2 = w.heap.size + 2 from hB2)
  clear hB4 hB3 hB2
  go_loopg [29] n (fun m v29 wr => ∃ (i vo : Nat) (F : Int → Value), i + m = n ∧ v29 = .int .i64 i ∧ Hid (vo = votesTo ls ⟨ac, ah, an, as_⟩ i) ∧ Hid (MA w wr w.heap.size ⟨ac, ah, an, as_⟩ (preF ls i 0) vo F))
  case atStart => exact ⟨0, 0, fun _ => .slice none 0 0, by omega, rfl, rfl, by rw [preF_zero]; exact HINIT⟩
  case round =>
    clear HINIT
    obtain ⟨i, vo, F, him, rfl, HVO, HM⟩ := hrel
    have HK := Hid.in_ him
    clear him
    by_cases hlt : i < n
    · obtain ⟨g, rfl, _, hg, hx, _⟩ := H1.out (by omega)
      obtain ⟨⟨fs, fv⟩, ho⟩ := get_lt os i (by rw [HNO.out]; exact hlt)
      have hbx := Box.elem FsO.len hx ho
      rw [Nat.mul_one] at hbx
      have hc0 : w.cell? ⟨g, i, none⟩ = some fv := by have := hbx 0 _ rfl; exact this
      have hfr : w.ownsRow b 63 8 fv fs.length (fs.flatMap FndR.cells) := HE.out _ (List.mem_of_getElem? ho)
      have hli : ls[i]? = some fs := fso_get HLS.out ho
      have hfl : fs.length ≤ 64 := H64.out fs (List.mem_of_getElem? hli)
      have HLI := Hid.in_ hli
      have HMF := Hid.in_ (show ∀ f ∈ fs, 1 ≤ f.t ∧ f.t ≤ 4 from fun f hf => HT.out f (List.mem_flatten.2 ⟨fs, List.mem_of_getElem? hli, hf⟩))
      obtain ⟨N, hN⟩ : ∃ N, fs.length = N := ⟨_, rfl⟩
      rw [hN] at hfr hfl
      obtain ⟨A2, c2, rfl, _, hc2, hA2⟩ := own_shape hfr
      have H2 := Hid.in_ hA2
      have HFN := Hid.in_ hN
      have c0 : wr.cell? ⟨g, i, none⟩ = some (.slice A2 N c2) := cstep HM.out.low hc0
      clear hbx hx ho hfr hli hA2 hN hc0
      go_wp2_with fail
      clear c0
      obtain ⟨gO, rfl⟩ : ∃ g, g = gk := ⟨_, rfl⟩
      go_loopg [10, 35] N (fun m v10 v35 wr => ∃ (k : Nat) (has : Bool) (F : Int → Value), k + m = N ∧ v10 = .bool has ∧ v35 = .int .i64 k ∧ Hid (has = hasF (fs.take k) ⟨ac, ah, an, as_⟩) ∧ Hid (MA w wr w.heap.size ⟨ac, ah, an, as_⟩ (preF ls i k) vo F))
      case atStart => exact ⟨0, false, F, by omega, rfl, rfl, rfl, HM⟩
      case round =>
        clear HM
        obtain ⟨k, has, F, hkm, rfl, rfl, HHS, HM⟩ := hrel
        have HQ := Hid.in_ hkm
        clear hkm
        by_cases hlk : k < N
        · obtain ⟨g2, rfl, _, hg2, hx2, _⟩ := H2.out (by omega)
          obtain ⟨f, hf⟩ := get_lt fs k (by rw [HFN.out]; exact hlk)
          obtain ⟨x0, x1, x2, x3, x4, x5, x6, x7⟩ := boxAt8 ((Box.elem FndR.len hx2 hf).step HM.out.low)
          have HPN := Hid.in_ (preF_next HLI.out hf)
          have HFT := Hid.in_ (HMF.out f (List.mem_of_getElem? hf))
          have HHN := Hid.in_ (show hasF (fs.take (k + 1)) ⟨ac, ah, an, as_⟩ = (has || keyF f ⟨ac, ah, an, as_⟩) by rw [List.take_add_one, hf, HHS.out]; exact hasF_snoc _ _ _)
          have HPL := Hid.in_ (show (preF ls i k).length ≤ 320 from preF_small (by rw [HNN.out]; exact hn5) H64.out (by rw [HNN.out]; exact hlt) (by omega))
          obtain ⟨fc, fh, fn, fs_, fd, ft, fl, fp⟩ := f
          simp only at x0 x1 x2 x3 x4 x5 x6 x7 HFT
          have HBA := Hid.in_ (balloc (Below.refl wr.heap.size wr) (.cells #[.int .i64 fc, .int .i64 fh, .int .i64 fn, .int .i64 fs_, .string fd, .int .i64 ft, .bool fl, .int .i64 fp] 63))
          have HZA := Hid.in_ (Box.new wr [.int .i64 fc, .int .i64 fh, .int .i64 fn, .int .i64 fs_, .string fd, .int .i64 ft, .bool fl, .int .i64 fp] 63)
          clear hx2 hf
          go_wp2_with fail
          obtain ⟨wa, hwa⟩ : ∃ x, x = wr.alloc (.cells #[.int .i64 fc, .int .i64 fh, .int .i64 fn, .int .i64 fs_, .string fd, .int .i64 ft, .bool fl, .int .i64 fp] 63) := ⟨_, rfl⟩
          rw [← hwa]
          have hba := HBA.out
          have hza := HZA.out
          change Box (wr.alloc (.cells #[.int .i64 fc, .int .i64 fh, .int .i64 fn, .int .i64 fs_, .string fd, .int .i64 ft, .bool fl, .int .i64 fp] 63)) _ _ at hza
          rw [← hwa] at hba hza
          have HBA := Hid.in_ hba
          have HZA := Hid.in_ hza
          have HMA := Hid.in_ (HM.out.step hba)
          obtain ⟨⟨y0, y1, y2, y3⟩, _⟩ := wr4a HMA.out.bx
          have z0 : wa.cell? ⟨wr.heap.size, 0, none⟩ = some (.int .i64 fc) := hza 0 _ rfl
          have z1 : wa.cell? ⟨wr.heap.size, 1, none⟩ = some (.int .i64 fh) := hza 1 _ rfl
          have z2 : wa.cell? ⟨wr.heap.size, 2, none⟩ = some (.int .i64 fn) := hza 2 _ rfl
          have z3 : wa.cell? ⟨wr.heap.size, 3, none⟩ = some (.int .i64 fs_) := hza 3 _ rfl
          have z4 : wa.cell? ⟨wr.heap.size, 4, none⟩ = some (.string fd) := hza 4 _ rfl
          have z5 : wa.cell? ⟨wr.heap.size, 5, none⟩ = some (.int .i64 ft) := hza 5 _ rfl
          have z6 : wa.cell? ⟨wr.heap.size, 6, none⟩ = some (.bool fl) := hza 6 _ rfl
          have z7 : wa.cell? ⟨wr.heap.size, 7, none⟩ = some (.int .i64 fp) := hza 7 _ rfl
          have HAS := Hid.in_ (show wr.heap.size < wa.heap.size by rw [hwa]; rw [size_al]; exact Nat.lt_succ_self _)
          clear hwa hba hza x0 x1 x2 x3 x4 x5 x6 x7
          cases e2 : (ft == 2)
          case true =>
            have HKF := Hid.in_ (show keyF ⟨fc, fh, fn, fs_, fd, ft, fl, fp⟩ ⟨ac, ah, an, as_⟩ = false by
              have : ft = 2 := by simpa using e2
              unfold keyF; simp [this])
            go_wp2_with fail
            go_quiet (fail)
            go_wp2
            have hq := HQ.out
            go_roundg (gk - 1)
            case measure => omega
            case rel => exact ⟨k + 1, has, F, by omega, rfl, by go_num, Hid.in_ (by rw [HHN.out, HKF.out, Bool.or_false]), by rw [HPN.out]; exact (HMA.out.step (below_drewN (Below.refl _ _) _)).skip HKF.out⟩
          case false =>
            have hft : ft ≠ 2 := by simpa using e2
            cases eb : eqA (⟨fc, fh, fn, fs_⟩ : AdrR) ⟨ac, ah, an, as_⟩
            case false =>
              have HKF := Hid.in_ (show keyF ⟨fc, fh, fn, fs_, fd, ft, fl, fp⟩ ⟨ac, ah, an, as_⟩ = false by
                show (decide (ft ≠ 2) && eqA (⟨fc, fh, fn, fs_⟩ : AdrR) ⟨ac, ah, an, as_⟩) = false
                rw [eb, Bool.and_false])
              have heq : ∀ w, (binOp .neq 103 (.agg #[.int .i64 fc, .int .i64 fh, .int .i64 fn, .int .i64 fs_]) (.agg #[.int .i64 ac, .int .i64 ah, .int .i64 an, .int .i64 as_])).run Tryz.prog w = .ok (.bool true) w := fun w => by
                have := Tryz.neq_AdrR ⟨fc, fh, fn, fs_⟩ ⟨ac, ah, an, as_⟩ w
                rw [eqA_beq, eb] at this
                exact this
              have hgd := fun op x y w => Tryz.guard_AdrR ⟨fc, fh, fn, fs_⟩ ⟨ac, ah, an, as_⟩ op x y w
              simp only at hgd
              clear eb hft
              go_wp2_with fail
              go_region_with (go_at_call 80; refine (impl_addressOf _ _ _ _ _ _ _ _ _).mono ?_; rintro e we ⟨rfl, hbe⟩; have hbe' := ((Below.refl wa.heap.size wa).drew).trans hbe; obtain ⟨⟨y0, y1, y2, y3⟩, _⟩ := wr4a (HMA.out.bx.step hbe'))
              all_goals
                go_wp2
                have hq := HQ.out
                go_roundg (gk - 1)
                case measure => omega
                case rel => exact ⟨k + 1, has, F, by omega, rfl, by go_num, Hid.in_ (by rw [HHN.out, HKF.out, Bool.or_false]), by rw [HPN.out]; exact (HMA.out.step hbe').skip HKF.out⟩
            case true =>
              have HKF := Hid.in_ (show keyF ⟨fc, fh, fn, fs_, fd, ft, fl, fp⟩ ⟨ac, ah, an, as_⟩ = true by
                show (decide (ft ≠ 2) && eqA (⟨fc, fh, fn, fs_⟩ : AdrR) ⟨ac, ah, an, as_⟩) = true
                rw [eb, Bool.and_true, decide_eq_true hft])
              have heq : ∀ w, (binOp .neq 103 (.agg #[.int .i64 fc, .int .i64 fh, .int .i64 fn, .int .i64 fs_]) (.agg #[.int .i64 ac, .int .i64 ah, .int .i64 an, .int .i64 as_])).run Tryz.prog w = .ok (.bool false) w := fun w => by
                have := Tryz.neq_AdrR ⟨fc, fh, fn, fs_⟩ ⟨ac, ah, an, as_⟩ w
                rw [eqA_beq, eb] at this
                exact this
              have hgd := fun op x y w => Tryz.guard_AdrR ⟨fc, fh, fn, fs_⟩ ⟨ac, ah, an, as_⟩ op x y w
              simp only at hgd
              have hwf : (Lit.int .i64 ft).wf = true := WalkArith.wf_i64 (by have := HFT.out; omega)
              clear eb hft
              go_wp2_with fail
              go_region_with (go_at_call 80; refine (impl_addressOf _ _ _ _ _ _ _ _ _).mono ?_; rintro e we ⟨rfl, hbe⟩; have hbe' := ((Below.refl wa.heap.size wa).drew).trans hbe; obtain ⟨⟨y0, y1, y2, y3⟩, _⟩ := wr4a (HMA.out.bx.step hbe'))
              all_goals
                have HME := Hid.in_ (HMA.out.step hbe')
                have w4 := cstep hbe' z4
                have w5 := cstep hbe' z5
                have w6 := cstep hbe' z6
                clear heq hgd y0 y1 y2 y3
                go_wp2_with fail
                refine wp_region_noPanic ?_
                refine wp_region_held_drew (S := fun w9 => w9.cell? ⟨wr.heap.size, 5, none⟩ = some (.int .i64 ft) ∧ w9.cell? ⟨wr.heap.size, 4, none⟩ = some (.string fd)) (by kernel_rfl) ⟨w5, w4⟩ (fun hHeld => ?_)
                refine wpAnyH_take (i := 0) (v := .map (some B3)) rfl (by kernel_rfl) (by kernel_rfl) (by kernel_rfl) (fun _ _ _ h => h) (Or.inl ⟨by rfl, ?_⟩) hHeld ?_
                · intro w9 hS9; obtain ⟨h95, h94⟩ := hS9; go_simp
                simp only [Act.put, List.setIfInBounds_toArray, List.set_cons_zero, List.set_cons_succ]
                refine wpAnyH_take (i := 1) (v := .pointer (some ⟨wr.heap.size, 5, none⟩)) rfl (by kernel_rfl) (by kernel_rfl) (by kernel_rfl) (fun _ _ _ h => h) (Or.inl ⟨by rfl, ?_⟩) hHeld ?_
                · intro w9 hS9; obtain ⟨h95, h94⟩ := hS9; go_simp
                simp only [Act.put, List.setIfInBounds_toArray, List.set_cons_zero, List.set_cons_succ]
                refine wpAnyH_take (i := 2) (v := .int .i64 ft) rfl (by kernel_rfl) (by kernel_rfl) (by kernel_rfl) (fun _ _ _ h => h) (Or.inl ⟨by rfl, ?_⟩) hHeld ?_
                · intro w9 hS9; obtain ⟨h95, h94⟩ := hS9; go_simp
                simp only [Act.put, List.setIfInBounds_toArray, List.set_cons_zero, List.set_cons_succ]
                refine wpAnyH_take (i := 3) (v := .map (some B3)) rfl (by kernel_rfl) (by kernel_rfl) (by kernel_rfl) (fun _ _ _ h => h) (Or.inl ⟨by rfl, ?_⟩) hHeld ?_
                · intro w9 hS9; obtain ⟨h95, h94⟩ := hS9; go_simp
                simp only [Act.put, List.setIfInBounds_toArray, List.set_cons_zero, List.set_cons_succ]
                refine wpAnyH_take (i := 4) (v := .pointer (some ⟨wr.heap.size, 5, none⟩)) rfl (by kernel_rfl) (by kernel_rfl) (by kernel_rfl) (fun _ _ _ h => h) (Or.inl ⟨by rfl, ?_⟩) hHeld ?_
                · intro w9 hS9; obtain ⟨h95, h94⟩ := hS9; go_simp
                simp only [Act.put, List.setIfInBounds_toArray, List.set_cons_zero, List.set_cons_succ]
                refine wpAnyH_take (i := 5) (v := .int .i64 ft) rfl (by kernel_rfl) (by kernel_rfl) (by kernel_rfl) (fun _ _ _ h => h) (Or.inl ⟨by rfl, ?_⟩) hHeld ?_
                · intro w9 hS9; obtain ⟨h95, h94⟩ := hS9; go_simp
                simp only [Act.put, List.setIfInBounds_toArray, List.set_cons_zero, List.set_cons_succ]
                refine wpAnyH_take (i := 7) (v := .pointer (some ⟨wr.heap.size, 4, none⟩)) rfl (by kernel_rfl) (by kernel_rfl) (by kernel_rfl) (fun _ _ _ h => h) (Or.inl ⟨by rfl, ?_⟩) hHeld ?_
                · intro w9 hS9; obtain ⟨h95, h94⟩ := hS9; go_simp
                simp only [Act.put, List.setIfInBounds_toArray, List.set_cons_zero, List.set_cons_succ]
                refine wpAnyH_take (i := 8) (v := .string fd) rfl (by kernel_rfl) (by kernel_rfl) (by kernel_rfl) (fun _ _ _ h => h) (Or.inl ⟨by rfl, ?_⟩) hHeld ?_
                · intro w9 hS9; obtain ⟨h95, h94⟩ := hS9; go_simp
                simp only [Act.put, List.setIfInBounds_toArray, List.set_cons_zero, List.set_cons_succ]
                obtain ⟨wd, hwd⟩ : ∃ x, x = we.drew := ⟨_, rfl⟩
                rw [← hwd] at hHeld ⊢
                have hmd := HME.out.step (Below.refl we.heap.size we).drew
                rw [← hwd] at hmd
                have HMD := Hid.in_ hmd
                have hbd := balloc (Below.refl wd.heap.size wd) (.cells #[.string fd] 9)
                have HBD := Hid.in_ hbd
                have HWD := Hid.in_ (show wr.heap.size < wd.heap.size by rw [hwd]; show _ < we.heap.size; have h1 := hbe'.size; have h2 := HAS.out; omega)
                have HW6 := Hid.in_ (show wd.cell? ⟨wr.heap.size, 6, none⟩ = some (.bool fl) by rw [hwd]; exact w6)
                have HDB := Hid.in_ (show (dataOf (preF ls i k) ⟨ac, ah, an, as_⟩ ft).length ≤ 320 by rw [data_len]; exact Nat.le_trans (pick_len _ _ _) HPL.out)
                have HKF0 : Hid (keyF ⟨fc, fh, fn, fs_, fd, ft, false, fp⟩ ⟨ac, ah, an, as_⟩ = true) := HKF
                have hlk0 := (hmd.data).look (t := 138) (e := 33) Tryz.underlying138 (by kernel_rfl) hwf
                have hlk1 := (hmd.step hbd).data.look (t := 138) (e := 33) Tryz.underlying138 (by kernel_rfl) hwf
                rw [← HB3.out] at hlk0 hlk1
                obtain ⟨FV, hFV⟩ : ∃ x, F ft = x := ⟨_, rfl⟩
                rw [hFV] at hlk0 hlk1
                have HFV := Hid.in_ hFV
                clear hmd hbd hwd hFV
                refine wpAnyH_ready (rs := [6, 9]) (by kernel_rfl) (by simp) (AllReadyH.cons rfl (fun K hK => ?_) (AllReadyH.cons rfl (fun K hK => ?_) AllReadyH.nil))
                · go_simp
                  refine hK.out _ _ hHeld (fun hHeld => ?_)
                  clear hK K
                  try simp only [Act.put, List.setIfInBounds_toArray, List.set_cons_zero, List.set_cons_succ]
                  refine wpAnyH_ready (rs := [9]) (by kernel_rfl) (by simp) (AllReadyH.cons rfl (fun K hK => ?_) AllReadyH.nil)
                  go_simp
                  refine hK.out _ _ ⟨cstep HBD.out hHeld.1, cstep HBD.out hHeld.2⟩ (fun hHeld => ?_)
                  clear hK K
                  try simp only [Act.put, List.setIfInBounds_toArray, List.set_cons_zero, List.set_cons_succ]
                  refine wpAnyH_ready (rs := [10]) (by kernel_rfl) (by simp) (AllReadyH.cons rfl (fun K hK => ?_) AllReadyH.nil)
                  rw [if_pos (by rfl)]
                  refine wp_append_lies _ (.tmp 54) (.tmp 57) 33 rfl (w.heap.size + 5) 9 i0 (.string ⟨#[]⟩) 1 16 Tryz.underlying33 hti hz0 hz1 hz2 rfl (by decide) FV (dataOf (preF ls i k) ⟨ac, ah, an, as_⟩ ft).length (Strs (dataOf (preF ls i k) ⟨ac, ah, an, as_⟩ ft)) rfl (by rw [← HFV.out]; exact (HMD.out.row ft).alloc _) ⟨wd.heap.size, 0, none⟩ 1 1 [.string fd] rfl rfl (cell_one_new _ _ _) (fun x hx => by simp at hx; subst hx; rfl) (by decide) (by have := HDB.out; unfold maxLen; omega) (by have := HDB.out; omega) (by have := HMD.out.size; have := HBD.out.size; omega) _ rfl ?_
                  intro g4 c4 w7 ho4 hg4 hat4 hlt4
                  have hfar : ∀ (o : Nat) (u : Value), (wd.alloc (.cells #[.string fd] 9)).cell? ⟨wr.heap.size, o, none⟩ = some u → w7.cell? ⟨wr.heap.size, o, none⟩ = some u := fun o u hu => (hg4.cell_far ⟨wr.heap.size, o, none⟩ (by have := HWD.out; have := HBD.out.size; show wr.heap.size < _; omega) (fun e => by rw [← HFV.out] at e; have := ((HM.out.row ft).lt _ e.symm).2; exact absurd this (Nat.lt_irrefl _))).trans hu
                  refine hK.out _ _ ⟨hfar 5 _ hHeld.1, hfar 4 _ hHeld.2⟩ (fun hHeld => ?_)
                  clear hK K
                  try simp only [Act.put, List.setIfInBounds_toArray, List.set_cons_zero, List.set_cons_succ]
                  have hmap := ((HMD.out.step HBD.out).data).kept hg4 (fun e => by rw [← HFV.out] at e; have := ((HM.out.row ft).lt _ e.symm).1; omega)
                  obtain ⟨w8, hrun, hm8, hg8⟩ := hmap.put (t := 138) (e := 33) Tryz.underlying138 hwf (by have := HPL.out; unfold maxLen; omega) (.slice (some ⟨g4, 0, none⟩) ((dataOf (preF ls i k) ⟨ac, ah, an, as_⟩ ft).length + 1) c4)
                  rw [← HB3.out] at hrun
                  have hfar8 : ∀ (o : Nat) (u : Value), w7.cell? ⟨wr.heap.size, o, none⟩ = some u → w8.cell? ⟨wr.heap.size, o, none⟩ = some u := fun o u hu => (hg8.cell_far ⟨wr.heap.size, o, none⟩ (by have := hg4.size; have := HWD.out; have := HBD.out.size; show wr.heap.size < _; omega) (fun e => by injection e with e; have e : wr.heap.size = w.heap.size + 3 := e; have := HM.out.size; omega)).trans hu
                  refine wpAnyH_ready (rs := [11]) (by kernel_rfl) (by simp) (AllReadyH.cons rfl (fun K hK => ?_) AllReadyH.nil)
                  go_simp
                  refine hK.out _ _ ⟨hfar8 5 _ hHeld.1, hfar8 4 _ hHeld.2⟩ (fun hHeld2 => ?_)
                  clear hK K
                  try simp only [Act.put, List.setIfInBounds_toArray, List.set_cons_zero, List.set_cons_succ]
                  refine wpAnyH_done (by kernel_rfl) ?_ _
                  refine NoPanic.normal ?_
                  have hdel8 := (((HMD.out.step HBD.out).del).kept hg4 (fun e => by rw [← HFV.out] at e; have := ((HM.out.row ft).lt _ e.symm).1; omega)).kept hg8 (fun e => by injection e with e; omega)
                  rw [← HB4.out] at hdel8
                  have HD8 := Hid.in_ hdel8
                  have hma := MA.put (f := ⟨fc, fh, fn, fs_, fd, ft, false, fp⟩) (v' := .slice (some ⟨g4, 0, none⟩) ((dataOf (preF ls i k) ⟨ac, ah, an, as_⟩ ft).length + 1) c4) (HMD.out.step HBD.out) HKF0.out rfl (w1 := w7) (by
                    rw [data_at HKF0.out, if_pos rfl, List.length_append, Strs_append]
                    exact ho4) (by rw [← HFV.out] at hg4; exact hg4) (by
                    rw [HFV.out]
                    rcases hat4 with e | e
                    · exact .inl e.symm
                    · exact .inr ⟨g4, rfl, by rw [e]; exact Nat.le_refl _⟩) hm8 hg8
                  have HMX := Hid.in_ hma
                  have x6 := hfar8 6 _ (hfar 6 _ (cstep HBD.out (HW6.out)))
                  have x5 := hHeld2.1
                  clear hfar hfar8 hmap hrun hdel8 hm8 hg8 ho4 hg4 hat4 hlt4 hma hHeld hHeld2 hlk0 hlk1
                  cases hfl : fl
                  · subst hfl
                    go_wp2
                    have hq := HQ.out
                    go_roundg (gk - 1)
                    case measure => omega
                    case rel => exact ⟨k + 1, true, _, by omega, rfl, by go_num, Hid.in_ (by rw [HHN.out, HKF.out, Bool.or_true]), by rw [HPN.out]; exact HMX.out⟩
                  · subst hfl
                    obtain ⟨DF, hDF⟩ : ∃ DF : Int → Value, (fun st => Value.int .i64 (delOf (preF ls i k) ⟨ac, ah, an, as_⟩ st : Nat)) = DF := ⟨_, rfl⟩
                    obtain ⟨d, hd⟩ : ∃ d, delOf (preF ls i k) ⟨ac, ah, an, as_⟩ ft = d := ⟨_, rfl⟩
                    have hDFt : DF ft = .int .i64 d := by rw [← hDF, ← hd]
                    have hdb : d ≤ 320 := by rw [← hd]; exact Nat.le_trans (del_le _ _ _) (Nat.le_trans (pick_len _ _ _) HPL.out)
                    have HDL := Hid.in_ (show MapV w8 B4 (preF ls i k).length DF (.int .i64 0) by rw [← hDF]; exact HD8.out)
                    have HDD := Hid.in_ hd
                    have HDE := Hid.in_ hDF
                    clear hd hDF
                    go_wp2_with (first
                      | (at_lookup; refine wpList_lookup_V _ rfl _ _ 139 rfl 3 Tryz.underlying139 (.int .i64 0) (by kernel_rfl) B4 _ DF rfl HDL.out ft rfl hwf ?_; rw [hDFt])
                      | (at_mapUpdate; refine wpList_mapUpdate_V _ rfl _ _ _ 139 rfl 3 Tryz.underlying139 (.int .i64 0) B4 _ DF rfl HDL.out (by have := HPL.out; unfold maxLen; omega) ft (.int .i64 ((d : Int) + 1)) rfl rfl hwf ?_; intro w9 hm9 hg9; have HM9 := Hid.in_ (And.intro hm9 hg9); clear hm9 hg9))
                    have hq := HQ.out
                    go_roundg (gk - 1)
                    case measure => omega
                    case rel =>
                      refine ⟨k + 1, true, putF F ft (.slice (some ⟨g4, 0, none⟩) ((dataOf (preF ls i k) ⟨ac, ah, an, as_⟩ ft).length + 1) c4), by omega, rfl, by go_num, Hid.in_ (by rw [HHN.out, HKF.out, Bool.or_true]), ?_⟩
                      rw [HPN.out]
                      refine Hid.in_ (MA.count (f := ⟨fc, fh, fn, fs_, fd, ft, true, fp⟩) (n := (preF ls i k).length + 1) HKF.out rfl HMX.out ?_ ?_ ?_)
                      · have := HM9.out.1
                        rw [HB4.out, ← HDE.out, ← HDD.out] at this
                        exact this
                      · exact Nat.le_of_eq (by rw [List.length_append]; rfl)
                      · rw [← HB4.out]; exact HM9.out.2
                · go_simp
                  refine hK.out _ _ ⟨cstep HBD.out hHeld.1, cstep HBD.out hHeld.2⟩ (fun hHeld => ?_)
                  clear hK K
                  try simp only [Act.put, List.setIfInBounds_toArray, List.set_cons_zero, List.set_cons_succ]
                  refine wpAnyH_ready (rs := [6]) (by kernel_rfl) (by simp) (AllReadyH.cons rfl (fun K hK => ?_) AllReadyH.nil)
                  go_simp
                  refine hK.out _ _ hHeld (fun hHeld => ?_)
                  clear hK K
                  try simp only [Act.put, List.setIfInBounds_toArray, List.set_cons_zero, List.set_cons_succ]
                  refine wpAnyH_ready (rs := [10]) (by kernel_rfl) (by simp) (AllReadyH.cons rfl (fun K hK => ?_) AllReadyH.nil)
                  rw [if_pos (by rfl)]
                  refine wp_append_lies _ (.tmp 54) (.tmp 57) 33 rfl (w.heap.size + 5) 9 i0 (.string ⟨#[]⟩) 1 16 Tryz.underlying33 hti hz0 hz1 hz2 rfl (by decide) FV (dataOf (preF ls i k) ⟨ac, ah, an, as_⟩ ft).length (Strs (dataOf (preF ls i k) ⟨ac, ah, an, as_⟩ ft)) rfl (by rw [← HFV.out]; exact (HMD.out.row ft).alloc _) ⟨wd.heap.size, 0, none⟩ 1 1 [.string fd] rfl rfl (cell_one_new _ _ _) (fun x hx => by simp at hx; subst hx; rfl) (by decide) (by have := HDB.out; unfold maxLen; omega) (by have := HDB.out; omega) (by have := HMD.out.size; have := HBD.out.size; omega) _ rfl ?_
                  intro g4 c4 w7 ho4 hg4 hat4 hlt4
                  have hfar : ∀ (o : Nat) (u : Value), (wd.alloc (.cells #[.string fd] 9)).cell? ⟨wr.heap.size, o, none⟩ = some u → w7.cell? ⟨wr.heap.size, o, none⟩ = some u := fun o u hu => (hg4.cell_far ⟨wr.heap.size, o, none⟩ (by have := HWD.out; have := HBD.out.size; show wr.heap.size < _; omega) (fun e => by rw [← HFV.out] at e; have := ((HM.out.row ft).lt _ e.symm).2; exact absurd this (Nat.lt_irrefl _))).trans hu
                  refine hK.out _ _ ⟨hfar 5 _ hHeld.1, hfar 4 _ hHeld.2⟩ (fun hHeld => ?_)
                  clear hK K
                  try simp only [Act.put, List.setIfInBounds_toArray, List.set_cons_zero, List.set_cons_succ]
                  have hmap := ((HMD.out.step HBD.out).data).kept hg4 (fun e => by rw [← HFV.out] at e; have := ((HM.out.row ft).lt _ e.symm).1; omega)
                  obtain ⟨w8, hrun, hm8, hg8⟩ := hmap.put (t := 138) (e := 33) Tryz.underlying138 hwf (by have := HPL.out; unfold maxLen; omega) (.slice (some ⟨g4, 0, none⟩) ((dataOf (preF ls i k) ⟨ac, ah, an, as_⟩ ft).length + 1) c4)
                  rw [← HB3.out] at hrun
                  have hfar8 : ∀ (o : Nat) (u : Value), w7.cell? ⟨wr.heap.size, o, none⟩ = some u → w8.cell? ⟨wr.heap.size, o, none⟩ = some u := fun o u hu => (hg8.cell_far ⟨wr.heap.size, o, none⟩ (by have := hg4.size; have := HWD.out; have := HBD.out.size; show wr.heap.size < _; omega) (fun e => by injection e with e; have e : wr.heap.size = w.heap.size + 3 := e; have := HM.out.size; omega)).trans hu
                  refine wpAnyH_ready (rs := [11]) (by kernel_rfl) (by simp) (AllReadyH.cons rfl (fun K hK => ?_) AllReadyH.nil)
                  go_simp
                  refine hK.out _ _ ⟨hfar8 5 _ hHeld.1, hfar8 4 _ hHeld.2⟩ (fun hHeld2 => ?_)
                  clear hK K
                  try simp only [Act.put, List.setIfInBounds_toArray, List.set_cons_zero, List.set_cons_succ]
                  refine wpAnyH_done (by kernel_rfl) ?_ _
                  refine NoPanic.normal ?_
                  have hdel8 := (((HMD.out.step HBD.out).del).kept hg4 (fun e => by rw [← HFV.out] at e; have := ((HM.out.row ft).lt _ e.symm).1; omega)).kept hg8 (fun e => by injection e with e; omega)
                  rw [← HB4.out] at hdel8
                  have HD8 := Hid.in_ hdel8
                  have hma := MA.put (f := ⟨fc, fh, fn, fs_, fd, ft, false, fp⟩) (v' := .slice (some ⟨g4, 0, none⟩) ((dataOf (preF ls i k) ⟨ac, ah, an, as_⟩ ft).length + 1) c4) (HMD.out.step HBD.out) HKF0.out rfl (w1 := w7) (by
                    rw [data_at HKF0.out, if_pos rfl, List.length_append, Strs_append]
                    exact ho4) (by rw [← HFV.out] at hg4; exact hg4) (by
                    rw [HFV.out]
                    rcases hat4 with e | e
                    · exact .inl e.symm
                    · exact .inr ⟨g4, rfl, by rw [e]; exact Nat.le_refl _⟩) hm8 hg8
                  have HMX := Hid.in_ hma
                  have x6 := hfar8 6 _ (hfar 6 _ (cstep HBD.out (HW6.out)))
                  have x5 := hHeld2.1
                  clear hfar hfar8 hmap hrun hdel8 hm8 hg8 ho4 hg4 hat4 hlt4 hma hHeld hHeld2 hlk0 hlk1
                  cases hfl : fl
                  · subst hfl
                    go_wp2
                    have hq := HQ.out
                    go_roundg (gk - 1)
                    case measure => omega
                    case rel => exact ⟨k + 1, true, _, by omega, rfl, by go_num, Hid.in_ (by rw [HHN.out, HKF.out, Bool.or_true]), by rw [HPN.out]; exact HMX.out⟩
                  · subst hfl
                    obtain ⟨DF, hDF⟩ : ∃ DF : Int → Value, (fun st => Value.int .i64 (delOf (preF ls i k) ⟨ac, ah, an, as_⟩ st : Nat)) = DF := ⟨_, rfl⟩
                    obtain ⟨d, hd⟩ : ∃ d, delOf (preF ls i k) ⟨ac, ah, an, as_⟩ ft = d := ⟨_, rfl⟩
                    have hDFt : DF ft = .int .i64 d := by rw [← hDF, ← hd]
                    have hdb : d ≤ 320 := by rw [← hd]; exact Nat.le_trans (del_le _ _ _) (Nat.le_trans (pick_len _ _ _) HPL.out)
                    have HDL := Hid.in_ (show MapV w8 B4 (preF ls i k).length DF (.int .i64 0) by rw [← hDF]; exact HD8.out)
                    have HDD := Hid.in_ hd
                    have HDE := Hid.in_ hDF
                    clear hd hDF
                    go_wp2_with (first
                      | (at_lookup; refine wpList_lookup_V _ rfl _ _ 139 rfl 3 Tryz.underlying139 (.int .i64 0) (by kernel_rfl) B4 _ DF rfl HDL.out ft rfl hwf ?_; rw [hDFt])
                      | (at_mapUpdate; refine wpList_mapUpdate_V _ rfl _ _ _ 139 rfl 3 Tryz.underlying139 (.int .i64 0) B4 _ DF rfl HDL.out (by have := HPL.out; unfold maxLen; omega) ft (.int .i64 ((d : Int) + 1)) rfl rfl hwf ?_; intro w9 hm9 hg9; have HM9 := Hid.in_ (And.intro hm9 hg9); clear hm9 hg9))
                    have hq := HQ.out
                    go_roundg (gk - 1)
                    case measure => omega
                    case rel =>
                      refine ⟨k + 1, true, putF F ft (.slice (some ⟨g4, 0, none⟩) ((dataOf (preF ls i k) ⟨ac, ah, an, as_⟩ ft).length + 1) c4), by omega, rfl, by go_num, Hid.in_ (by rw [HHN.out, HKF.out, Bool.or_true]), ?_⟩
                      rw [HPN.out]
                      refine Hid.in_ (MA.count (f := ⟨fc, fh, fn, fs_, fd, ft, true, fp⟩) (n := (preF ls i k).length + 1) HKF.out rfl HMX.out ?_ ?_ ?_)
                      · have := HM9.out.1
                        rw [HB4.out, ← HDE.out, ← HDD.out] at this
                        exact this
                      · exact Nat.le_of_eq (by rw [List.length_append]; rfl)
                      · rw [← HB4.out]; exact HM9.out.2
        · have hq := HQ.out
          obtain rfl : k = N := by omega
          have HTT := Hid.in_ (show preF ls i k = preF ls (i + 1) 0 by rw [← HFN.out]; exact preF_turn HLI.out)
          have HTF := Hid.in_ (show fs.take k = fs by rw [List.take_of_length_le (by rw [HFN.out]; exact Nat.le_refl _)])
          have HVN := Hid.in_ (votesTo_next (a := ⟨ac, ah, an, as_⟩) HLI.out)
          have hvo5 : vo ≤ 5 := by rw [HVO.out]; exact Nat.le_trans (votesTo_le _ _ _) (by omega)
          rw [HTF.out] at HHS
          rw [HTT.out] at HM
          cases has
          · have HVE := Hid.in_ (show vo = votesTo ls ⟨ac, ah, an, as_⟩ (i + 1) by rw [HVN.out, ← HHS.out, ← HVO.out]; rfl)
            go_wp2
            have hk := HK.out
            go_roundg (gO - 1)
            case measure => omega
            case rel => exact ⟨i + 1, vo, F, by omega, by go_num, HVE, HM⟩
          · have HVE := Hid.in_ (show vo + 1 = votesTo ls ⟨ac, ah, an, as_⟩ (i + 1) by rw [HVN.out, ← HHS.out, ← HVO.out]; rfl)
            have hv := HM.out.v
            rw [← HB2.out] at hv
            obtain ⟨⟨v0, v1, v2, v3, v4, v5, v6, v7, v8⟩, ⟨q0, q1, q2, q3, q4, q5, q6, q7, q8⟩⟩ := wr9v hv
            have hp := HM.out.vote
            rw [← HB2.out] at hp
            have HP := Hid.in_ hp
            clear hv hp
            go_wp2
            have hk := HK.out
            go_roundg (gO - 1)
            case measure => omega
            case rel => exact ⟨i + 1, vo + 1, F, by omega, by go_num, HVE, HP⟩
    · have hk := HK.out
      obtain rfl : i = n := by omega
      have HPF := Hid.in_ (show preF ls i 0 = ls.flatten by rw [← HNN.out]; exact preF_all ls)
      rw [HPF.out] at HM
      rw [← HNN.out] at HVO
      obtain ⟨fl, hfl⟩ : ∃ fl, ls.flatten = fl := ⟨_, rfl⟩
      have HFL := Hid.in_ hfl
      have HGF := Hid.in_ (show ∀ f ∈ fl, goodF f by rw [← hfl]; exact HG.out)
      have hfb : fl.length ≤ 320 := by rw [← hfl]; exact flat_small (by rw [HNN.out]; exact hn5) H64.out
      have HMV1 := Hid.in_ (fun h => merge_one (ls := ls) (a := ⟨ac, ah, an, as_⟩) h)
      have HMV2 := Hid.in_ (fun h h3 => merge_two (ls := ls) (a := ⟨ac, ah, an, as_⟩) h h3)
      have HMV3 := Hid.in_ (fun h h3 => merge_none (ls := ls) (a := ⟨ac, ah, an, as_⟩) h h3)
      rw [hfl] at HM HMV1 HMV2 HMV3
      rw [← HVO.out] at HMV1 HMV2 HMV3
      clear hfl
      obtain ⟨wo, rfl⟩ : ∃ x, x = wr := ⟨_, rfl⟩
      have HBE := Hid.in_ (Box.new wo [.int .i64 1, .int .i64 3] 2)
      have HMW := Hid.in_ (HM.out.step (balloc (Below.refl wo.heap.size wo) (.cells #[.int .i64 1, .int .i64 3] 2)))
      clear HM
      go_wp2_with fail
      go_loopg [75] 2 (fun m v75 wx => ∃ q : Nat, q + m = 2 ∧ v75 = .int .i64 q ∧ Hid (wx = wo.alloc (.cells #[.int .i64 1, .int .i64 3] 2)) ∧ Hid ((0 < q → (dataOf fl ⟨ac, ah, an, as_⟩ 1).length = 0) ∧ (1 < q → (dataOf fl ⟨ac, ah, an, as_⟩ 3).length = 0)))
      case atStart => exact ⟨0, by omega, rfl, rfl, fun h => absurd h (by omega), fun h => absurd h (by omega)⟩
      case round =>
        obtain ⟨q, hqm, rfl, HWX, HZ⟩ := hrel
        have HQ := Hid.in_ hqm
        clear hqm
        have hmx := HMW.out
        have hbe := HBE.out
        change Box (wo.alloc (.cells #[.int .i64 1, .int .i64 3] 2)) _ _ at hbe
        rw [← HWX.out] at hmx hbe
        have HMX := Hid.in_ hmx
        have hv := hmx.v
        rw [← HB2.out] at hv
        have HV := Hid.in_ hv
        have HRS := Hid.in_ hmx.res
        by_cases hlq : q < 2
        · obtain ⟨st, hst⟩ : ∃ st : Int, (q = 0 ∧ st = 1) ∨ (q = 1 ∧ st = 3) := by
            rcases Nat.lt_or_ge 0 q with h | h
            · exact ⟨3, .inr ⟨by omega, rfl⟩⟩
            · exact ⟨1, .inl ⟨by omega, rfl⟩⟩
          have c0 : wr.cell? ⟨wo.heap.size, q, none⟩ = some (.int .i64 st) := by
            rcases hst with ⟨rfl, rfl⟩ | ⟨rfl, rfl⟩
            · exact hbe 0 _ rfl
            · exact hbe 1 _ rfl
          have hst13 : st = 1 ∨ st = 3 := by omega
          have hwf : (Lit.int .i64 st).wf = true := WalkArith.wf_i64 (by omega)
          obtain ⟨nd, hnd⟩ : ∃ nd, (dataOf fl ⟨ac, ah, an, as_⟩ st).length = nd := ⟨_, rfl⟩
          have hrow := hmx.row st
          rw [hnd] at hrow
          have hndb : nd ≤ 320 := by rw [← hnd, data_len]; exact Nat.le_trans (pick_len _ _ _) hfb
          obtain ⟨A3, c3, hFs, _, _, _⟩ := own_shape hrow
          have hdt := hmx.data
          rw [← HB3.out] at hdt
          have HDT := Hid.in_ hdt
          have HND := Hid.in_ hnd
          have HST := Hid.in_ hst
          rw [hFs] at hrow
          have HROW := Hid.in_ hrow
          clear hmx hbe hv hnd hst hdt hrow
          by_cases h0 : nd = 0
          · subst h0
            go_wp2_with (at_lookup; refine wpList_lookup_V _ rfl _ _ 138 rfl 33 Tryz.underlying138 (.slice none 0 0) (by kernel_rfl) B3 _ F rfl HDT.out st rfl hwf ?_; rw [hFs])
            have hq := HQ.out
            go_roundg (gk - 1)
            case measure => omega
            case rel =>
              refine ⟨q + 1, by omega, by go_num, HWX, ?_⟩
              rcases HST.out with ⟨h1, h2⟩ | ⟨h1, h2⟩
              · exact ⟨fun _ => by rw [← h2]; exact HND.out, fun h => absurd h (by omega)⟩
              · exact ⟨fun _ => HZ.out.1 (by omega), fun _ => by rw [← h2]; exact HND.out⟩
          · have hnp : (0 : Int) < (nd : Int) := by omega
            have hsz := data_size (fs := fl) (a := ⟨ac, ah, an, as_⟩) (st := st) HGF.out hst13
            obtain ⟨NR, hNR⟩ : ∃ NR, revLen (dataOf fl ⟨ac, ah, an, as_⟩ st) = NR := ⟨_, rfl⟩
            obtain ⟨DS, hDS⟩ : ∃ DS, dataOf fl ⟨ac, ah, an, as_⟩ st = DS := ⟨_, rfl⟩
            have hN1 : ∀ s ∈ DS, s.size = NR := fun s hs => by rw [← hNR]; exact (hsz s (by rw [hDS]; exact hs)).1
            have hN2 : NR ≤ 1024 := by
              obtain ⟨s, hs⟩ : ∃ s, s ∈ DS := by
                cases hp : DS with
                | nil => exfalso; have := HND.out; rw [hDS, hp] at this; exact h0 this.symm
                | cons x r => exact ⟨x, by simp⟩
              rw [← hN1 s hs]
              exact (hsz s (by rw [hDS]; exact hs)).2
            rw [hDS] at HROW
            obtain ⟨W, hW⟩ : ∃ W, placesTo (diffAt DS) NR = W := ⟨_, rfl⟩
            obtain ⟨DD, hDD⟩ : ∃ DD : ByteArray, (⟨(voteTo DS NR).toArray⟩ : ByteArray) = DD := ⟨_, rfl⟩
            obtain ⟨d, hd⟩ : ∃ d, delOf fl ⟨ac, ah, an, as_⟩ st = d := ⟨_, rfl⟩
            have hdb : d ≤ 320 := by rw [← hd]; exact Nat.le_trans (del_le _ _ _) (Nat.le_trans (pick_len _ _ _) hfb)
            obtain ⟨bx, hbx⟩ : ∃ bx, decide ((nd : Int) < 2 * (d : Int)) = bx := ⟨_, rfl⟩
            have hbx2 : decide (nd < 2 * d) = bx := by rw [← hbx]; exact decide_eq_decide.2 (by omega)
            have HFIN := Hid.in_ (show mergeV ls ⟨ac, ah, an, as_⟩ = ⟨ac, ah, an, as_, DD, if st = 1 then (if W.length = 0 then 1 else 5) else 3, bx, W, (vo : Nat)⟩ by
              rcases HST.out with ⟨h1, h2⟩ | ⟨h1, h2⟩
              · subst h2
                rw [HMV1.out (by rw [HND.out]; exact h0), if_pos rfl]
                unfold fillV
                rw [HND.out, hNR, hDS, hW, hDD, hd, hbx2]
              · subst h2
                rw [HMV2.out (by have := HZ.out.1 (by omega); omega) (by rw [HND.out]; exact h0), if_neg (by decide)]
                unfold fillV
                rw [HND.out, hNR, hDS, hW, hDD, hd, hbx2])
            have HVB := Hid.in_ (fun w' (hr : w'.ownsRow (w.heap.size + 5) 9 1 (.slice A3 nd c3) nd (Strs DS)) => impl_voteBytes w' hr (by omega) hN1 hN2 (by omega))
            have HDF := Hid.in_ (fun w' (hr : w'.ownsRow (w.heap.size + 5) 9 1 (.slice A3 nd c3) nd (Strs DS)) => impl_differing_any w' hr (by omega) hN1 (by omega))
            rw [hDD] at HVB
            rw [hW] at HDF
            have hdel := HMX.out.del
            obtain ⟨DF, hDF⟩ : ∃ DF : Int → Value, (fun st => Value.int .i64 (delOf fl ⟨ac, ah, an, as_⟩ st : Nat)) = DF := ⟨_, rfl⟩
            have hDFt : DF st = .int .i64 d := by rw [← hDF, ← hd]
            rw [hDF, ← HB4.out] at hdel
            have HDL := Hid.in_ hdel
            clear hsz hNR hDS hN1 hN2 hW hDD hd hbx2 hDF hdel HMV1 HMV2 HMV3
            have hne2 : ∀ g, w.heap.size + 5 ≤ g → some g ≠ some B2 := fun g hg e => by injection e with e; have := HB2.out; omega
            have hne2' : ∀ k, k ≠ w.heap.size + 2 → some k ≠ some B2 := fun k hk e => by injection e with e; have := HB2.out; omega
            have hfr : ∀ (w' : World) (i : Nat) (x : Value), w'.ownsRow (w.heap.size + 5) 9 1 (.slice A3 nd c3) nd (Strs DS) → (w'.setCell ⟨B2, i, none⟩ x).ownsRow (w.heap.size + 5) 9 1 (.slice A3 nd c3) nd (Strs DS) := fun w' i x hr => hr.kept (grown_one _ _ _ _) (by
              cases hb : (Value.slice A3 nd c3).ownBlock with
              | none => exact .inl rfl
              | some z => exact .inr (hne2 z (hr.lt z hb).1))
            have HFR := Hid.in_ hfr
            have HN2' := Hid.in_ hne2'
            clear hne2 hne2' hfr
            have HB2g : Hid (w.heap.size ≤ B2) := Hid.in_ (by have := HB2.out; omega)
            have HNE1 : Hid (B2 ≠ w.heap.size + 1) := Hid.in_ (by have := HB2.out; omega)
            obtain ⟨⟨v0, v1, v2, v3, v4, v5, v6, v7, v8⟩, ⟨q0, q1, q2, q3, q4, q5, q6, q7, q8⟩⟩ := wr9v HV.out
            go_wp2_with (at_lookup; refine wpList_lookup_V _ rfl _ _ 138 rfl 33 Tryz.underlying138 (.slice none 0 0) (by kernel_rfl) B3 _ F rfl HDT.out st rfl hwf ?_; rw [hFs])
            have HV1 := Hid.in_ (HV.out.set (.int .i64 st) (i := 5) (by simp))
            have HRS1 := Hid.in_ (HRS.out.far HNE1.out 5 (.int .i64 st))
            have HL1 := Hid.in_ ((HMX.out.low).setCell (p := ⟨B2, 5, none⟩) HB2g.out (.int .i64 st))
            have HR1 := Hid.in_ (HFR.out _ 5 (.int .i64 st) HROW.out)
            have HD1 := Hid.in_ (HDL.out.kept (grown_one wr B2 5 (.int .i64 st)) (HN2'.out _ (by have := HB4.out; omega)))
            clear v0 v1 v2 v3 v4 v5 v6 v7 v8 q0 q1 q2 q3 q4 q5 q6 q7 q8
            refine (HVB.out _ HR1.out).mono ?_
            rintro e w2 ⟨rfl, hb2⟩
            have HV2 := Hid.in_ (HV1.out.step hb2)
            obtain ⟨⟨v0, v1, v2, v3, v4, v5, v6, v7, v8⟩, ⟨q0, q1, q2, q3, q4, q5, q6, q7, q8⟩⟩ := wr9v HV2.out
            have HV3 := Hid.in_ (HV2.out.set (.string DD) (i := 4) (by simp))
            have HRS3 := Hid.in_ ((HRS1.out.step hb2).far HNE1.out 4 (.string DD))
            have HL3 := Hid.in_ ((HL1.out.trans (hb2.mono HL1.out.size)).setCell (p := ⟨B2, 4, none⟩) HB2g.out (.string DD))
            have HR3 := Hid.in_ (HFR.out _ 4 (.string DD) (ostep hb2 HR1.out))
            have HD3 := Hid.in_ ((HD1.out.step hb2).kept (grown_one w2 B2 4 (.string DD)) (HN2'.out _ (by have := HB4.out; omega)))
            have HS2 := Hid.in_ (show B2 < w2.heap.size from HV2.out.lt)
            clear hb2
            go_wp2_with fail
            refine (HDF.out _ HR3.out).mono ?_
            rintro e w4 ⟨wv, rfl, how, hb4⟩
            obtain ⟨nW, hnW⟩ : ∃ nW, W.length = nW := ⟨_, rfl⟩
            rw [hnW] at how
            have HNW := Hid.in_ hnW
            clear hnW
            obtain ⟨A9, c9, rfl, _, _, _⟩ := own_shape how
            have HV4 := Hid.in_ (HV3.out.step hb4)
            clear v0 v1 v2 v3 v4 v5 v6 v7 v8 q0 q1 q2 q3 q4 q5 q6 q7 q8
            obtain ⟨⟨v0, v1, v2, v3, v4, v5, v6, v7, v8⟩, ⟨q0, q1, q2, q3, q4, q5, q6, q7, q8⟩⟩ := wr9v HV4.out
            have HV5 := Hid.in_ ((HV4.out.set (.slice A9 nW c9) (i := 7) (by simp)).set (.bool bx) (i := 6) (by simp))
            have HRS5 := Hid.in_ (((HRS3.out.step hb4).far HNE1.out 7 (.slice A9 nW c9)).far HNE1.out 6 (.bool bx))
            have HL5 := Hid.in_ (((HL3.out.trans (hb4.mono HL3.out.size)).setCell (p := ⟨B2, 7, none⟩) HB2g.out (.slice A9 nW c9)).setCell (p := ⟨B2, 6, none⟩) HB2g.out (.bool bx))
            have HD5 := Hid.in_ ((HD3.out.step hb4).kept (grown_one w4 B2 7 (.slice A9 nW c9)) (HN2'.out _ (by have := HB4.out; omega)))
            have hfw : ∀ (w' : World) (b i : Nat) (x : Value), b ≤ B2 → w'.ownsRow (w2.setCell ⟨B2, 4, none⟩ (.string DD)).heap.size 2 1 (.slice A9 nW c9) nW (I64 W) → (w'.setCell ⟨b, i, none⟩ x).ownsRow (w2.setCell ⟨B2, 4, none⟩ (.string DD)).heap.size 2 1 (.slice A9 nW c9) nW (I64 W) := fun w' b i x hb hr => hr.kept (grown_one _ _ _ _) (by
              cases hz : (Value.slice A9 nW c9).ownBlock with
              | none => exact .inl rfl
              | some z => exact .inr (fun e => by
                injection e with e
                have h1 := (hr.lt z hz).1
                have h2 := HS2.out
                have h3 : (w2.setCell ⟨B2, 4, none⟩ (.string DD)).heap.size = w2.heap.size := by simp [World.setCell]
                omega))
            have HFW := Hid.in_ hfw
            have HW5 := Hid.in_ (hfw _ B2 6 (.bool bx) (Nat.le_refl _) (hfw _ B2 7 (.slice A9 nW c9) (Nat.le_refl _) how))
            have HWB := Hid.in_ (show w.heap.size ≤ (w2.setCell ⟨B2, 4, none⟩ (.string DD)).heap.size from HL3.out.size)
            have h1B : w.heap.size + 1 ≤ B2 := by have := HB2.out; omega
            have H1B := Hid.in_ h1B
            clear hb4 how hfw h1B
            go_upto_region 30 with (at_lookup; refine wpList_lookup_V _ rfl _ _ 139 rfl 3 Tryz.underlying139 (.int .i64 0) (by kernel_rfl) B4 _ DF rfl HD5.out st rfl hwf ?_; rw [hDFt])
            clear v0 v1 v2 v3 v4 v5 v6 v7 v8 q0 q1 q2 q3 q4 q5 q6 q7 q8
            obtain ⟨⟨e0, e1, e2, e3, e4, e5, e6, e7, e8⟩, ⟨p0, p1, p2, p3, p4, p5, p6, p7, p8⟩⟩ := wr9v HV5.out
            cases es : (st == 1)
            · have hs3 : st ≠ 1 := by simpa using es
              have HF3 := Hid.in_ (show mergeV ls ⟨ac, ah, an, as_⟩ = ⟨ac, ah, an, as_, DD, st, bx, W, (vo : Nat)⟩ by rw [HFIN.out, if_neg hs3, hst13.resolve_left hs3])
              go_upto_region 32 with fail
              clear p0 p1 p2 p3 p4 p5 p6 p7 p8
              obtain ⟨⟨r0, r1, r2, r3, r4, r5, r6, r7, r8⟩, ⟨s0, s1, s2, s3, s4, s5, s6, s7, s8⟩⟩ := wr9v HRS5.out
              obtain ⟨⟨d0, d1, d2, d3, d4, d5, d6, d7, d8⟩, _⟩ := wr9v (HRS5.out.put9 (.int .i64 ac) (.int .i64 ah) (.int .i64 an) (.int .i64 as_) (.string DD) (.int .i64 st) (.bool bx) (.slice A9 nW c9) (.int .i64 (vo : Nat)))
              go_wp2
              rw [HF3.out]
              refine bodyPost_ret ?_ rfl ⟨.slice A9 nW c9, rfl, (show World.ownsRow _ _ _ 1 _ W.length (I64 W) from by rw [HNW.out]; exact own_base (own_put9 (fun w' i x hr => HFW.out w' (w.heap.size + 1) i x H1B.out hr) HW5.out (.int .i64 ac) (.int .i64 ah) (.int .i64 an) (.int .i64 as_) (.string DD) (.int .i64 st) (.bool bx) (.slice A9 nW c9) (.int .i64 (vo : Nat))) HWB.out), below_put9 HL5.out (Nat.le_succ _) (.int .i64 ac) (.int .i64 ah) (.int .i64 an) (.int .i64 as_) (.string DD) (.int .i64 st) (.bool bx) (.slice A9 nW c9) (.int .i64 (vo : Nat))⟩
              simp [results, Tryz.results84, go_sem, d0, d1, d2, d3, d4, d5, d6, d7, d8]
              try rfl
            · have hs1 : st = 1 := by simpa using es
              have HS1 := Hid.in_ hs1
              clear hs1
              by_cases hW0 : nW = 0
              · have HF3 := Hid.in_ (show mergeV ls ⟨ac, ah, an, as_⟩ = ⟨ac, ah, an, as_, DD, st, bx, W, (vo : Nat)⟩ by rw [HFIN.out, if_pos HS1.out, if_pos (by rw [HNW.out]; exact hW0), HS1.out])
                subst hW0
                go_upto_region 32 with fail
                clear p0 p1 p2 p3 p4 p5 p6 p7 p8
                obtain ⟨⟨r0, r1, r2, r3, r4, r5, r6, r7, r8⟩, ⟨s0, s1, s2, s3, s4, s5, s6, s7, s8⟩⟩ := wr9v HRS5.out
                obtain ⟨⟨d0, d1, d2, d3, d4, d5, d6, d7, d8⟩, _⟩ := wr9v (HRS5.out.put9 (.int .i64 ac) (.int .i64 ah) (.int .i64 an) (.int .i64 as_) (.string DD) (.int .i64 st) (.bool bx) (.slice A9 0 c9) (.int .i64 (vo : Nat)))
                go_wp2
                rw [HF3.out]
                refine bodyPost_ret ?_ rfl ⟨.slice A9 0 c9, rfl, (show World.ownsRow _ _ _ 1 _ W.length (I64 W) from by rw [HNW.out]; exact own_base (own_put9 (fun w' i x hr => HFW.out w' (w.heap.size + 1) i x H1B.out hr) HW5.out (.int .i64 ac) (.int .i64 ah) (.int .i64 an) (.int .i64 as_) (.string DD) (.int .i64 st) (.bool bx) (.slice A9 0 c9) (.int .i64 (vo : Nat))) HWB.out), below_put9 HL5.out (Nat.le_succ _) (.int .i64 ac) (.int .i64 ah) (.int .i64 an) (.int .i64 as_) (.string DD) (.int .i64 st) (.bool bx) (.slice A9 0 c9) (.int .i64 (vo : Nat))⟩
                simp [results, Tryz.results84, go_sem, d0, d1, d2, d3, d4, d5, d6, d7, d8]
                try rfl
              · have hWp : (0 : Int) < (nW : Int) := by omega
                have HF3 := Hid.in_ (show mergeV ls ⟨ac, ah, an, as_⟩ = ⟨ac, ah, an, as_, DD, 5, bx, W, (vo : Nat)⟩ by rw [HFIN.out, if_pos HS1.out, if_neg (by rw [HNW.out]; exact hW0)])
                have HV6 := Hid.in_ (HV5.out.set (.int .i64 5) (i := 5) (by simp))
                have HRS6 := Hid.in_ (HRS5.out.far HNE1.out 5 (.int .i64 5))
                have HW6 := Hid.in_ (HFW.out _ B2 5 (.int .i64 5) (Nat.le_refl _) HW5.out)
                have HL6 := Hid.in_ (HL5.out.setCell (p := ⟨B2, 5, none⟩) HB2g.out (.int .i64 5))
                go_upto_region 32 with fail
                clear e0 e1 e2 e3 e4 e5 e6 e7 e8 p0 p1 p2 p3 p4 p5 p6 p7 p8
                obtain ⟨⟨t0, t1, t2, t3, t4, t5, t6, t7, t8⟩, _⟩ := wr9v HV6.out
                obtain ⟨⟨y0, y1, y2, y3, y4, y5, y6, y7, y8⟩, ⟨z0, z1, z2, z3, z4, z5, z6, z7, z8⟩⟩ := wr9v HRS6.out
                obtain ⟨⟨d0, d1, d2, d3, d4, d5, d6, d7, d8⟩, _⟩ := wr9v (HRS6.out.put9 (.int .i64 ac) (.int .i64 ah) (.int .i64 an) (.int .i64 as_) (.string DD) (.int .i64 5) (.bool bx) (.slice A9 nW c9) (.int .i64 (vo : Nat)))
                go_wp2
                rw [HF3.out]
                refine bodyPost_ret ?_ rfl ⟨.slice A9 nW c9, rfl, (show World.ownsRow _ _ _ 1 _ W.length (I64 W) from by rw [HNW.out]; exact own_base (own_put9 (fun w' i x hr => HFW.out w' (w.heap.size + 1) i x H1B.out hr) HW6.out (.int .i64 ac) (.int .i64 ah) (.int .i64 an) (.int .i64 as_) (.string DD) (.int .i64 5) (.bool bx) (.slice A9 nW c9) (.int .i64 (vo : Nat))) HWB.out), below_put9 HL6.out (Nat.le_succ _) (.int .i64 ac) (.int .i64 ah) (.int .i64 an) (.int .i64 as_) (.string DD) (.int .i64 5) (.bool bx) (.slice A9 nW c9) (.int .i64 (vo : Nat))⟩
                simp [results, Tryz.results84, go_sem, d0, d1, d2, d3, d4, d5, d6, d7, d8]
                try rfl
        · have hq := HQ.out
          obtain rfl : q = 2 := by omega
          have HFN3 := Hid.in_ (HMV3.out (by have := HZ.out.1 (by omega); omega) (by have := HZ.out.2 (by omega); omega))
          obtain ⟨⟨v0, v1, v2, v3, v4, v5, v6, v7, v8⟩, ⟨q0, q1, q2, q3, q4, q5, q6, q7, q8⟩⟩ := wr9v HV.out
          obtain ⟨⟨r0, r1, r2, r3, r4, r5, r6, r7, r8⟩, ⟨s0, s1, s2, s3, s4, s5, s6, s7, s8⟩⟩ := wr9v HRS.out
          obtain ⟨⟨d0, d1, d2, d3, d4, d5, d6, d7, d8⟩, _⟩ := wr9v (HRS.out.put9 (.int .i64 ac) (.int .i64 ah) (.int .i64 an) (.int .i64 as_) (.string ⟨#[]⟩) (.int .i64 4) (.bool false) (.slice none 0 0) (.int .i64 (vo : Nat)))
          clear hmx hbe hv
          go_wp2
          rw [HFN3.out]
          refine bodyPost_ret ?_ rfl ⟨.slice none 0 0, rfl, World.ownsRow_nil _ _ _ _, below_put9 HMX.out.low (Nat.le_succ _) (.int .i64 ac) (.int .i64 ah) (.int .i64 an) (.int .i64 as_) (.string ⟨#[]⟩) (.int .i64 4) (.bool false) (.slice none 0 0) (.int .i64 (vo : Nat))⟩
          simp [results, Tryz.results84, go_sem, d0, d1, d2, d3, d4, d5, d6, d7, d8]
          try rfl
end Go.Proofs.YtlelgpknkgjaeaaGreatDoor

/- 'mergeFound' of the program. -/
namespace Go.Proofs.YtlelgpknkgjaeaaGreatDoor
open Go.ChangeShapes Go.WideShapes Go.ChangeAt Go.RowKit
set_option linter.unusedSimpArgs false
set_option linter.unusedVariables false
set_option maxRecDepth 4000

theorem cells4g {w : World} {g : Nat} {a0 a1 a2 a3 : Value} {t : TypeId} (hg : g = w.heap.size) : ∀ j u, ([a0, a1, a2, a3] : List Value)[j]? = some u → (w.alloc (.cells #[a0, a1, a2, a3] t)).cell? ((⟨g, 0, none⟩ : Addr).add j) = some u := fun j u hu => by
  subst hg
  have h := World.ownsRow_lit (e := t) w #[a0, a1, a2, a3] 1 (base := w.heap.size) (size := 4) (Nat.le_refl _) (by decide) rfl
  exact h.cells (g := w.heap.size) rfl j u hu
theorem Tryz.info_Adr : (Tryz.prog.info? 103).map (fun i => (i.zero, i.size, i.bytes)) = some (some (.agg #[.int .i64 0, .int .i64 0, .int .i64 0, .int .i64 0]), 4, 32) := by kernel_rfl
theorem slices_Compact0 (A : Option Addr) (c : Nat) (w : World) : Calls Tryz.prog 83 #[.slice A 0 c] w fun e w' => e = .returned (.slice A 0 c) ∧ w' = w := by
  go_enter Tryz.func83, Tryz.ntmps83
  go_wp2
  go_ret
  exact ⟨rfl, rfl⟩
set_option maxHeartbeats 8000000 in
theorem impl_mergeFound {v : Value} {b n : Nat} {os : List FsO} {ls : List (List FndR)} (w : World) (h : FsRow w b v os) (hl : os.map FsO.r = ls) (hn : ls.length = n) (h64 : ∀ fs ∈ ls, fs.length ≤ 64) (hn5 : n ≤ 5)
    (hg : ∀ f ∈ ls.flatten, goodF f) (ht : ∀ f ∈ ls.flatten, 1 ≤ f.t ∧ f.t ≤ 4) :
    Calls Tryz.prog 47 #[v] w fun e w' => ∃ v' os', e = .returned v' ∧ os'.map VotO.r = mgV ls ∧ VRow w' w.heap.size v' os' ∧ Below w.heap.size w w' := by
  obtain ⟨i0, hti, hz0, hz1, hz2⟩ := info_parts Tryz.info_Adr
  obtain ⟨i1, hti1, hy0, hy1, hy2⟩ := info_parts Tryz.info_Voted
  have hno : os.length = n := by rw [← hn, ← hl, List.length_map]
  have HFS := Hid.in_ h
  have HMA := Hid.in_ (fun (a : AdrR) (w' : World) (hB : Below w.heap.size w w') => impl_mergeAddress a w' (h.below hB (Nat.le_refl _)) hl hn h64 hn5 hg ht)
  have HE := Hid.in_ h.each
  obtain ⟨A, c, rfl, _, hcn, hA⟩ := own_shape h.row
  rw [hno] at hcn hA HFS HMA ⊢
  have H1 := Hid.in_ hA
  have HNO := Hid.in_ hno
  have HLS := Hid.in_ hl
  have HNN := Hid.in_ hn
  have H64 := Hid.in_ h64
  have hfb := flat_small (ls := ls) (by omega) h64
  clear h hl hn h64 hno hA hg ht
  go_enter Tryz.func47, Tryz.ntmps47
  go_wp2_with fail
  go_loopg [3, 13] n (fun m v3 v13 wr => ∃ i : Nat, i + m = n ∧ v13 = .int .i64 i ∧ Hid (wr.ownsRow w.heap.size 103 4 v3 (adrsOf (preF ls i 0)).length ((adrsOf (preF ls i 0)).flatMap AdrR.cells)) ∧ Hid (Below w.heap.size w wr))
  case atStart => exact ⟨0, by omega, rfl, by rw [preF_zero]; exact World.ownsRow_nil _ _ _ _, Below.refl _ _⟩
  case round =>
    obtain ⟨i, him, rfl, HI, HB⟩ := hrel
    have HK := Hid.in_ him
    clear him
    by_cases hlt : i < n
    · obtain ⟨g, rfl, _, hg, hx, _⟩ := H1.out (by omega)
      obtain ⟨⟨fs, fv⟩, ho⟩ := get_lt os i (by rw [HNO.out]; exact hlt)
      have hbx := Box.elem FsO.len hx ho
      rw [Nat.mul_one] at hbx
      have hc0 : w.cell? ⟨g, i, none⟩ = some fv := by have := hbx 0 _ rfl; exact this
      have hfr : w.ownsRow b 63 8 fv fs.length (fs.flatMap FndR.cells) := HE.out _ (List.mem_of_getElem? ho)
      have hli : ls[i]? = some fs := fso_get HLS.out ho
      have hfl : fs.length ≤ 64 := H64.out fs (List.mem_of_getElem? hli)
      have HLI := Hid.in_ hli
      obtain ⟨N, hN⟩ : ∃ N, fs.length = N := ⟨_, rfl⟩
      rw [hN] at hfr hfl
      obtain ⟨A2, c2, rfl, _, hc2, hA2⟩ := own_shape hfr
      have H2 := Hid.in_ hA2
      have HFN := Hid.in_ hN
      have c0 : wr.cell? ⟨g, i, none⟩ = some (.slice A2 N c2) := cstep HB.out hc0
      clear hbx hx ho hfr hli hA2 hN hc0
      go_wp2_with fail
      clear c0
      obtain ⟨gO, rfl⟩ : ∃ g, g = gk := ⟨_, rfl⟩
      go_loopg [3, 19] N (fun m v3 v19 wr => ∃ k : Nat, k + m = N ∧ v19 = .int .i64 k ∧ Hid (wr.ownsRow w.heap.size 103 4 v3 (adrsOf (preF ls i k)).length ((adrsOf (preF ls i k)).flatMap AdrR.cells)) ∧ Hid (Below w.heap.size w wr))
      case atStart => exact ⟨0, by omega, rfl, HI, HB⟩
      case round =>
        clear HI HB
        obtain ⟨k, hkm, rfl, HI, HB⟩ := hrel
        have HQ := Hid.in_ hkm
        clear hkm
        by_cases hlk : k < N
        · obtain ⟨g2, rfl, _, hg2, hx2, _⟩ := H2.out (by omega)
          obtain ⟨f, hf⟩ := get_lt fs k (by rw [HFN.out]; exact hlk)
          obtain ⟨x0, x1, x2, x3, x4, x5, x6, x7⟩ := boxAt8 ((Box.elem FndR.len hx2 hf).step HB.out)
          have HPN := Hid.in_ (preF_next HLI.out hf)
          have HPL := Hid.in_ (show (adrsOf (preF ls i k)).length ≤ 320 from Nat.le_trans (adrsOf_len _) (preF_small (by rw [HNN.out]; exact hn5) H64.out (by rw [HNN.out]; exact hlt) (by omega)))
          obtain ⟨fc, fh, fn, fs_, fd, ft, fl, fp⟩ := f
          simp only at x0 x1 x2 x3 x4 x5 x6 x7
          have HBA := Hid.in_ (balloc (Below.refl wr.heap.size wr) (.cells #[.int .i64 fc, .int .i64 fh, .int .i64 fn, .int .i64 fs_, .string fd, .int .i64 ft, .bool fl, .int .i64 fp] 63))
          clear hx2 hf
          cases e2 : (ft == 2)
          · have hne : (ft != 2) = true := by rw [bne, e2]; rfl
            have HN := Hid.in_ (show adrsOf (preF ls i (k + 1)) = adrsOf (preF ls i k) ++ [⟨fc, fh, fn, fs_⟩] by
              rw [HPN.out, adrsOf_yes (by simpa using e2)]; rfl)
            go_wp2_with fail
            refine (impl_addressOf _ _ _ _ _ _ _ _ _).mono ?_
            rintro e we ⟨rfl, hbe⟩
            have hB2 := HB.out.trans ((HBA.out.trans (hbe.mono HBA.out.size)).mono HB.out.size)
            have hI2 := ostep (HBA.out.trans (hbe.mono HBA.out.size)) HI.out
            have HB2 := Hid.in_ hB2
            have HI2 := Hid.in_ hI2
            clear hbe hB2 hI2 x0 x1 x2 x3 x4 x5 x6 x7
            go_wp2_with (at_builtin; refine wpList_append_own _ rfl _ _ 101 rfl w.heap.size 103 i0 (.agg #[.int .i64 0, .int .i64 0, .int .i64 0, .int .i64 0]) 4 32 Tryz.underlying101 hti hz0 hz1 hz2 rfl (by decide) _ _ _ rfl (HI2.out.alloc _) ⟨we.heap.size, 0, none⟩ 1 1 [.int .i64 fc, .int .i64 fh, .int .i64 fn, .int .i64 fs_] rfl rfl (cells4g rfl) (fun x hx => by simp at hx; rcases hx with rfl | rfl | rfl | rfl <;> rfl) (by have := HPL.out; unfold maxLen; omega) (by have := HPL.out; omega) (balloc HB2.out _).size ?_; intro v4 w4 ho4 hg4 _)
            have HB4 := Hid.in_ (bgrown (balloc HB2.out _) (HI2.out.alloc _) (Nat.le_refl _) hg4)
            have HO4 := Hid.in_ (show w4.ownsRow w.heap.size 103 4 v4 (adrsOf (preF ls i (k + 1))).length ((adrsOf (preF ls i (k + 1))).flatMap AdrR.cells) by
              rw [HN.out, List.length_append, List.flatMap_append]
              exact ho4)
            clear ho4 hg4
            have hq := HQ.out
            go_roundg (gk - 1)
            case measure => omega
            case rel => exact ⟨k + 1, by omega, by go_num, HO4, HB4⟩
          · have hne : (ft != 2) = false := by rw [bne, e2]; rfl
            have HN := Hid.in_ (show adrsOf (preF ls i (k + 1)) = adrsOf (preF ls i k) by
              rw [HPN.out, adrsOf_no (by simpa using e2)])
            go_wp2
            have hq := HQ.out
            go_roundg (gk - 1)
            case measure => omega
            case rel => exact ⟨k + 1, by omega, by go_num, by rw [HN.out]; exact ostep HBA.out HI.out, HB.out.trans (HBA.out.mono HB.out.size)⟩
        · have hq := HQ.out
          obtain rfl : k = N := by omega
          have HT := Hid.in_ (show preF ls i k = preF ls (i + 1) 0 by rw [← HFN.out]; exact preF_turn HLI.out)
          rw [HT.out] at HI
          go_wp2
          have hk := HK.out
          go_roundg (gO - 1)
          case measure => omega
          case rel => exact ⟨i + 1, by omega, by go_num, HI, HB⟩
    · have hk := HK.out
      obtain rfl : i = n := by omega
      have HP := Hid.in_ (show preF ls i 0 = ls.flatten by rw [← HNN.out]; exact preF_all ls)
      rw [HP.out] at HI
      obtain ⟨n0, hn0⟩ : ∃ n0, (adrsOf ls.flatten).length = n0 := ⟨_, rfl⟩
      have hn0b : n0 ≤ 320 := by rw [← hn0]; exact Nat.le_trans (adrsOf_len _) hfb
      rw [hn0] at HI
      have HN0 := Hid.in_ hn0
      clear hn0
      by_cases hz : n0 = 0
      · subst hz
        have HKE := Hid.in_ (show mgV ls = [] by
          unfold mgV keysOf
          rw [List.eq_nil_of_length_eq_zero HN0.out]; rfl)
        obtain ⟨A6, c6, rfl, _, _, _⟩ := own_shape HI.out
        go_wp2_with fail
        refine (sort_anone _ _ _ _).mono ?_
        rintro e w2 ⟨rfl, rfl⟩
        go_wp2_with fail
        refine (slices_Compact0 _ _ _).mono ?_
        rintro e wC ⟨rfl, rfl⟩
        obtain ⟨KS, hKS⟩ : ∃ KS : List AdrR, KS = [] := ⟨_, rfl⟩
        obtain ⟨K, hK⟩ : ∃ K : Nat, K = 0 := ⟨_, rfl⟩
        have HKL := Hid.in_ (show KS.length = K by rw [hKS, hK]; rfl)
        have HMG := Hid.in_ (show mgV ls = KS.map (mergeV ls) by rw [HKE.out, hKS]; rfl)
        have HBX : Hid (0 < K → ∃ g, A6 = some ⟨g, 0, none⟩ ∧ g < wC.heap.size ∧ Box wC g (KS.flatMap AdrR.cells)) := Hid.in_ (fun h => absurd h (by omega))
        have HBC := HB
        have hKb : K ≤ 320 := by omega
        rw [show (Value.slice A6 0 c6) = .slice A6 K c6 by rw [hK]]
        clear hKS hK HB HI HKE
        go_wp2_with fail
        go_loopg [8, 38] K (fun m v8 v38 wr => ∃ (j : Nat) (D : List VotO), j + m = K ∧ v38 = .int .i64 j ∧ Hid (D.length = j ∧ D.map VotO.r = (KS.take j).map (mergeV ls)) ∧ Hid (VRow wr wC.heap.size v8 D) ∧ Hid (Below wC.heap.size wC wr))
        case atStart => exact ⟨0, [], by omega, rfl, ⟨rfl, rfl⟩, VRow.nil _ _, Below.refl _ _⟩
        case round =>
          obtain ⟨j, D, hjm, rfl, HD, HV, HB⟩ := hrel
          have HJ := Hid.in_ hjm
          clear hjm
          by_cases hlj : j < K
          · obtain ⟨g7, hA7, hg7, hx7⟩ := HBX.out (by omega)
            first | subst hA7 | (obtain rfl : g7 = g6 := by injection hA7 with e; injection e with e; exact e.symm)
            obtain ⟨a, ha⟩ := get_lt KS j (by rw [HKL.out]; exact hlj)
            obtain ⟨x0, x1, x2, x3⟩ := boxAt4 ((Box.elem AdrR.len hx7 ha).step HB.out)
            have HA := Hid.in_ ha
            obtain ⟨ac, ah, an, as_⟩ := a
            simp only at x0 x1 x2 x3
            have HAL := Hid.in_ (balloc (Below.refl wr.heap.size wr) (.cells #[.int .i64 ac, .int .i64 ah, .int .i64 an, .int .i64 as_] 103))
            have HBW := Hid.in_ (HBC.out.trans ((HB.out.trans (HAL.out.mono HB.out.size)).mono HBC.out.size))
            have hma := HMA.out ⟨ac, ah, an, as_⟩ _ HBW.out
            obtain ⟨r, hr⟩ : ∃ r, mergeV ls ⟨ac, ah, an, as_⟩ = r := ⟨_, rfl⟩
            rw [hr] at hma
            have HR := Hid.in_ hr
            obtain ⟨rc, rh, rn, rs, rd, rt, rx, rl, rvo⟩ := r
            have HCA := Hid.in_ (show Calls Tryz.prog 84 #[.slice A i c, .agg #[.int .i64 ac, .int .i64 ah, .int .i64 an, .int .i64 as_]] (wr.alloc (.cells #[.int .i64 ac, .int .i64 ah, .int .i64 an, .int .i64 as_] 103)) fun e w' => ∃ wv, e = .returned (.agg #[.int .i64 rc, .int .i64 rh, .int .i64 rn, .int .i64 rs, .string rd, .int .i64 rt, .bool rx, wv, .int .i64 rvo]) ∧ w'.ownsRow (wr.alloc (.cells #[.int .i64 ac, .int .i64 ah, .int .i64 an, .int .i64 as_] 103)).heap.size 2 1 wv rl.length (I64 rl) ∧ Below (wr.alloc (.cells #[.int .i64 ac, .int .i64 ah, .int .i64 an, .int .i64 as_] 103)).heap.size (wr.alloc (.cells #[.int .i64 ac, .int .i64 ah, .int .i64 an, .int .i64 as_] 103)) w' from hma)
            have hgr : g7 < wr.heap.size := Nat.lt_of_lt_of_le hg7 HB.out.size
            clear hma hr ha hx7
            go_wp2_with fail
            refine HCA.out.mono ?_
            rintro e w2 ⟨wv, rfl, how, hb2⟩
            have hB2 := HAL.out.trans (hb2.mono HAL.out.size)
            have HB2 := Hid.in_ (HB.out.trans (hB2.mono HB.out.size))
            have HV2 := Hid.in_ (HV.out.step hB2)
            have HOW := Hid.in_ how
            have HPA := Hid.in_ (pair_snoc (o := ⟨⟨rc, rh, rn, rs, rd, rt, rx, rl, rvo⟩, wv⟩) HV.out.apart HV.out.weak how HAL.out.size)
            obtain ⟨A9, c9, rfl, _, _, _⟩ := own_shape how
            have hKb2 : D.length ≤ 320 := by rw [HD.out.1]; omega
            clear hb2 hB2 how x0 x1 x2 x3
            go_wp2_with (at_builtin; refine wpList_append_own _ rfl _ _ 35 rfl wC.heap.size 72 i1 (.agg #[.int .i64 0, .int .i64 0, .int .i64 0, .int .i64 0, .string ⟨#[]⟩, .int .i64 0, .bool false, .slice none 0 0, .int .i64 0]) 9 96 Tryz.underlying35 hti1 hy0 hy1 hy2 rfl (by decide) _ _ _ rfl (HV2.out.row.alloc _) ⟨w2.heap.size, 0, none⟩ 1 1 [.int .i64 rc, .int .i64 rh, .int .i64 rn, .int .i64 rs, .string rd, .int .i64 rt, .bool rx, .slice A9 rl.length c9, .int .i64 rvo] rfl rfl (cells9g rfl) (fun x hx => by simp at hx; rcases hx with rfl | rfl | rfl | rfl | rfl | rfl | rfl | rfl | rfl <;> rfl) (by unfold maxLen; omega) (by omega) (balloc HB2.out _).size ?_; intro v4 w4 ho4 hg4 _)
            have HB4 := Hid.in_ (bgrown (balloc HB2.out _) (HV2.out.row.alloc _) (Nat.le_refl _) hg4)
            have HV4 := Hid.in_ (show VRow w4 wC.heap.size v4 (D ++ [(⟨⟨rc, rh, rn, rs, rd, rt, rx, rl, rvo⟩, .slice A9 rl.length c9⟩ : VotO)]) from ⟨by
              rw [List.length_append, List.flatMap_append]
              exact ho4, fun p hp => by
              rcases List.mem_append.1 hp with hp | hp
              · exact kept_apart (by decide) ((HV2.out.weak p hp).alloc _) (HV2.out.row.alloc _) hg4
              · rw [List.mem_singleton] at hp
                subst hp
                exact kept_apart (by decide) ((own_base HOW.out (Nat.le_trans HB.out.size HAL.out.size)).alloc _) (HV2.out.row.alloc _) hg4, HPA.out⟩)
            clear ho4 hg4
            have hj := HJ.out
            go_roundg (gk - 1)
            case measure => omega
            case rel =>
              refine ⟨j + 1, D ++ [(⟨⟨rc, rh, rn, rs, rd, rt, rx, rl, rvo⟩, .slice A9 rl.length c9⟩ : VotO)], by omega, by go_num, ⟨by rw [List.length_append, HD.out.1]; rfl, ?_⟩, HV4, HB4⟩
              rw [List.map_append, HD.out.2, List.take_add_one, HA.out, List.map_append]
              show _ ++ [(_ : VotR)] = _ ++ [mergeV ls _]
              rw [HR.out]
          · have hj := HJ.out
            obtain rfl : j = K := by omega
            have HF := Hid.in_ (show D.map VotO.r = mgV ls by
              rw [HD.out.2, HMG.out, List.take_of_length_le (by rw [HKL.out]; exact Nat.le_refl _)])
            have HBF := Hid.in_ (HBC.out.trans (HB.out.mono HBC.out.size))
            go_wp2
            go_ret
            exact ⟨_, D, rfl, HF.out, HV.out.base HBC.out.size, HBF.out⟩
      · obtain ⟨A6, c6, rfl, _, _, hA6⟩ := own_shape HI.out
        obtain ⟨g6, rfl, _⟩ := hA6 (by omega)
        clear hA6
        go_wp2_with fail
        refine (sort_adrs _ HI.out (by omega)).mono ?_
        rintro e w2 ⟨rfl, d', hperm, hsort, ho2, hb2⟩
        have hB2 := HB.out.trans hb2
        go_wp2_with fail
        refine (slices_CompactA _ ho2).mono ?_
        rintro e wC ⟨m, hm, rfl, ho3, hg3⟩
        have hdl : d'.length = n0 := by rw [hperm.length_eq, HN0.out]
        have hks := keys_same hperm hsort
        rw [hdl] at hks
        rw [hks] at ho3 hm
        obtain ⟨KS, hKS⟩ : ∃ KS, keysOf ls.flatten = KS := ⟨_, rfl⟩
        rw [hKS] at ho3 hm
        obtain ⟨K, rfl⟩ : ∃ K : Nat, K = m := ⟨_, rfl⟩
        have HKL := Hid.in_ hm.symm
        have HMG := Hid.in_ (show mgV ls = KS.map (mergeV ls) by unfold mgV; rw [hKS])
        have HBX : Hid (0 < K → ∃ g, (some ⟨g6, 0, none⟩ : Option Addr) = some ⟨g, 0, none⟩ ∧ g < wC.heap.size ∧ Box wC g (KS.flatMap AdrR.cells)) := Hid.in_ (fun _ => ⟨g6, rfl, (ho3.lt g6 rfl).2, (own_box ho3).1⟩)
        have HBC := Hid.in_ (hB2.grown hg3 hB2.size (fun k hk => by injection hk with hk; rw [← hk]; exact (ho2.lt g6 rfl).1))
        have hKb : K ≤ 320 := by rw [hm, ← hKS]; exact Nat.le_trans (keysOf_len _) hfb
        clear hm hKS hks ho3 hg3 hB2 hb2 ho2 hsort hperm hdl HB HI
        go_wp2_with fail
        go_loopg [8, 38] K (fun m v8 v38 wr => ∃ (j : Nat) (D : List VotO), j + m = K ∧ v38 = .int .i64 j ∧ Hid (D.length = j ∧ D.map VotO.r = (KS.take j).map (mergeV ls)) ∧ Hid (VRow wr wC.heap.size v8 D) ∧ Hid (Below wC.heap.size wC wr))
        case atStart => exact ⟨0, [], by omega, rfl, ⟨rfl, rfl⟩, VRow.nil _ _, Below.refl _ _⟩
        case round =>
          obtain ⟨j, D, hjm, rfl, HD, HV, HB⟩ := hrel
          have HJ := Hid.in_ hjm
          clear hjm
          by_cases hlj : j < K
          · obtain ⟨g7, hA7, hg7, hx7⟩ := HBX.out (by omega)
            first | subst hA7 | (obtain rfl : g7 = g6 := by injection hA7 with e; injection e with e; exact e.symm)
            obtain ⟨a, ha⟩ := get_lt KS j (by rw [HKL.out]; exact hlj)
            obtain ⟨x0, x1, x2, x3⟩ := boxAt4 ((Box.elem AdrR.len hx7 ha).step HB.out)
            have HA := Hid.in_ ha
            obtain ⟨ac, ah, an, as_⟩ := a
            simp only at x0 x1 x2 x3
            have HAL := Hid.in_ (balloc (Below.refl wr.heap.size wr) (.cells #[.int .i64 ac, .int .i64 ah, .int .i64 an, .int .i64 as_] 103))
            have HBW := Hid.in_ (HBC.out.trans ((HB.out.trans (HAL.out.mono HB.out.size)).mono HBC.out.size))
            have hma := HMA.out ⟨ac, ah, an, as_⟩ _ HBW.out
            obtain ⟨r, hr⟩ : ∃ r, mergeV ls ⟨ac, ah, an, as_⟩ = r := ⟨_, rfl⟩
            rw [hr] at hma
            have HR := Hid.in_ hr
            obtain ⟨rc, rh, rn, rs, rd, rt, rx, rl, rvo⟩ := r
            have HCA := Hid.in_ (show Calls Tryz.prog 84 #[.slice A i c, .agg #[.int .i64 ac, .int .i64 ah, .int .i64 an, .int .i64 as_]] (wr.alloc (.cells #[.int .i64 ac, .int .i64 ah, .int .i64 an, .int .i64 as_] 103)) fun e w' => ∃ wv, e = .returned (.agg #[.int .i64 rc, .int .i64 rh, .int .i64 rn, .int .i64 rs, .string rd, .int .i64 rt, .bool rx, wv, .int .i64 rvo]) ∧ w'.ownsRow (wr.alloc (.cells #[.int .i64 ac, .int .i64 ah, .int .i64 an, .int .i64 as_] 103)).heap.size 2 1 wv rl.length (I64 rl) ∧ Below (wr.alloc (.cells #[.int .i64 ac, .int .i64 ah, .int .i64 an, .int .i64 as_] 103)).heap.size (wr.alloc (.cells #[.int .i64 ac, .int .i64 ah, .int .i64 an, .int .i64 as_] 103)) w' from hma)
            have hgr : g7 < wr.heap.size := Nat.lt_of_lt_of_le hg7 HB.out.size
            clear hma hr ha hx7
            go_wp2_with fail
            refine HCA.out.mono ?_
            rintro e w2 ⟨wv, rfl, how, hb2⟩
            have hB2 := HAL.out.trans (hb2.mono HAL.out.size)
            have HB2 := Hid.in_ (HB.out.trans (hB2.mono HB.out.size))
            have HV2 := Hid.in_ (HV.out.step hB2)
            have HOW := Hid.in_ how
            have HPA := Hid.in_ (pair_snoc (o := ⟨⟨rc, rh, rn, rs, rd, rt, rx, rl, rvo⟩, wv⟩) HV.out.apart HV.out.weak how HAL.out.size)
            obtain ⟨A9, c9, rfl, _, _, _⟩ := own_shape how
            have hKb2 : D.length ≤ 320 := by rw [HD.out.1]; omega
            clear hb2 hB2 how x0 x1 x2 x3
            go_wp2_with (at_builtin; refine wpList_append_own _ rfl _ _ 35 rfl wC.heap.size 72 i1 (.agg #[.int .i64 0, .int .i64 0, .int .i64 0, .int .i64 0, .string ⟨#[]⟩, .int .i64 0, .bool false, .slice none 0 0, .int .i64 0]) 9 96 Tryz.underlying35 hti1 hy0 hy1 hy2 rfl (by decide) _ _ _ rfl (HV2.out.row.alloc _) ⟨w2.heap.size, 0, none⟩ 1 1 [.int .i64 rc, .int .i64 rh, .int .i64 rn, .int .i64 rs, .string rd, .int .i64 rt, .bool rx, .slice A9 rl.length c9, .int .i64 rvo] rfl rfl (cells9g rfl) (fun x hx => by simp at hx; rcases hx with rfl | rfl | rfl | rfl | rfl | rfl | rfl | rfl | rfl <;> rfl) (by unfold maxLen; omega) (by omega) (balloc HB2.out _).size ?_; intro v4 w4 ho4 hg4 _)
            have HB4 := Hid.in_ (bgrown (balloc HB2.out _) (HV2.out.row.alloc _) (Nat.le_refl _) hg4)
            have HV4 := Hid.in_ (show VRow w4 wC.heap.size v4 (D ++ [(⟨⟨rc, rh, rn, rs, rd, rt, rx, rl, rvo⟩, .slice A9 rl.length c9⟩ : VotO)]) from ⟨by
              rw [List.length_append, List.flatMap_append]
              exact ho4, fun p hp => by
              rcases List.mem_append.1 hp with hp | hp
              · exact kept_apart (by decide) ((HV2.out.weak p hp).alloc _) (HV2.out.row.alloc _) hg4
              · rw [List.mem_singleton] at hp
                subst hp
                exact kept_apart (by decide) ((own_base HOW.out (Nat.le_trans HB.out.size HAL.out.size)).alloc _) (HV2.out.row.alloc _) hg4, HPA.out⟩)
            clear ho4 hg4
            have hj := HJ.out
            go_roundg (gk - 1)
            case measure => omega
            case rel =>
              refine ⟨j + 1, D ++ [(⟨⟨rc, rh, rn, rs, rd, rt, rx, rl, rvo⟩, .slice A9 rl.length c9⟩ : VotO)], by omega, by go_num, ⟨by rw [List.length_append, HD.out.1]; rfl, ?_⟩, HV4, HB4⟩
              rw [List.map_append, HD.out.2, List.take_add_one, HA.out, List.map_append]
              show _ ++ [(_ : VotR)] = _ ++ [mergeV ls _]
              rw [HR.out]
          · have hj := HJ.out
            obtain rfl : j = K := by omega
            have HF := Hid.in_ (show D.map VotO.r = mgV ls by
              rw [HD.out.2, HMG.out, List.take_of_length_le (by rw [HKL.out]; exact Nat.le_refl _)])
            have HBF := Hid.in_ (HBC.out.trans (HB.out.mono HBC.out.size))
            go_wp2
            go_ret
            exact ⟨_, D, rfl, HF.out, HV.out.base HBC.out.size, HBF.out⟩
end Go.Proofs.YtlelgpknkgjaeaaGreatDoor
