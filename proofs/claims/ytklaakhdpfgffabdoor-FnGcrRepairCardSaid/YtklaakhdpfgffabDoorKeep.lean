/- Two rows of the calls' own with elements of different types lie apart; a strings.Builder beside such a row. -/
import Derived.Test.YtklaakhdpfgffabDoorBuilder
import Derived.Test.YtklaakhdpfgffabDoorRow
namespace Go.Proofs.YtklaakhdpfgffabDoor
open Go.ChangeShapes Go.WideShapes Go.ChangeAt Go.RowKit
set_option linter.unusedSimpArgs false
set_option linter.unusedVariables false
set_option maxRecDepth 20000

theorem own_typed {w : World} {b s n g : Nat} {e : TypeId} {v : Value} {xs : List Value} (h : w.ownsRow b e s v n xs) (hg : v.ownBlock = some g) : ∃ cur, w.heap[g]? = some (.cells cur e (0, 0)) := by
  rcases h.2 with ⟨rfl, _⟩ | ⟨g', cap, cur, rfl, _, hh, _⟩
  · cases hg
  · injection hg with hg
    subst hg
    exact ⟨cur, hh⟩
theorem types_apart {w : World} {b1 s1 n1 b2 s2 n2 : Nat} {e1 e2 : TypeId} {v1 v2 : Value} {xs1 xs2 : List Value} (he : e1 ≠ e2) (h1 : w.ownsRow b1 e1 s1 v1 n1 xs1) (h2 : w.ownsRow b2 e2 s2 v2 n2 xs2) :
    ∀ k, v1.ownBlock = some k → v2.ownBlock ≠ some k := fun k h3 h4 => by
  obtain ⟨c1, hc1⟩ := own_typed h1 h3
  obtain ⟨c2, hc2⟩ := own_typed h2 h4
  rw [hc1] at hc2
  injection hc2 with hc2
  injection hc2 with _ hc2
  exact he hc2
theorem kept_apart {w w' : World} {b1 s1 n1 b2 s2 n2 : Nat} {e1 e2 : TypeId} {v1 v2 : Value} {xs1 xs2 : List Value} (he : e1 ≠ e2) (h1 : w.ownsRow b1 e1 s1 v1 n1 xs1) (h2 : w.ownsRow b2 e2 s2 v2 n2 xs2) (hg : w.grownBy w' v2.ownBlock) : w'.ownsRow b1 e1 s1 v1 n1 xs1 := by
  refine h1.kept hg ?_
  cases h : v1.ownBlock with
  | none => exact .inl rfl
  | some k => exact .inr fun e => types_apart he h1 h2 k h e.symm
theorem off_block {w : World} {b B2 s2 n2 : Nat} {e2 T : TypeId} {dv : Value} {xs : List Value} {cs : Array Value} (he : e2 ≠ T) (h : w.ownsRow B2 e2 s2 dv n2 xs) (hb : w.heap[b]? = some (.cells cs T (0, 0))) : dv.ownBlock = none ∨ dv.ownBlock ≠ some b := by
  right
  intro e
  obtain ⟨c, hc⟩ := own_typed h e
  rw [hc] at hb
  injection hb with hb
  injection hb with _ hb
  exact he hb
theorem setCell_grown (w : World) (b j : Nat) (v : Value) : w.grownBy (w.setCell ⟨b, j, none⟩ v) (some b) where
  os := rfl
  tape := rfl
  output := rfl
  size := by simp [World.setCell]
  block := fun k hk hne => by
    have hne : ¬ b = k := fun e => hne (by rw [e])
    simp [World.setCell, Array.getElem?_modify, hne]
theorem copyCheck_kept {B2 s2 n2 : Nat} {e2 : TypeId} {dv : Value} {xs : List Value} (hT1 : e2 ≠ 63) (B b : Nat) (bs : List Value) (w : World) (h : Lib.IsBuilder 63 5 B b bs w) (hD : w.ownsRow B2 e2 s2 dv n2 xs) :
    Calls Tryd.prog 62 #[.pointer (some ⟨b, 0, none⟩)] w fun e w' => e = .returned (.tuple #[]) ∧ (Lib.BuilderAt 63 5 B b (.pointer (some ⟨b, 0, none⟩)) bs w' ∧ Below B w w' ∧ w'.ownsRow B2 e2 s2 dv n2 xs) := by
  rcases h with h | h
  · refine (copyCheck_fresh b w h.cell0 h.shape h.frozen0).mono ?_
    rintro e w' ⟨rfl, rfl⟩
    obtain ⟨_, v, hb, _⟩ := id h
    exact ⟨rfl, h.used _, (Below.refl B w).setCell (p := ⟨b, 0, none⟩) h.1 _, hD.kept (setCell_grown _ b 0 _) (off_block hT1 hD hb)⟩
  · refine (copyCheck_used b w h.cell0).mono ?_
    rintro e w' ⟨rfl, rfl⟩
    exact ⟨rfl, h, Below.refl B _, hD⟩
set_option maxHeartbeats 2000000 in
/-- 'b.WriteString(s)' beside a row of another element type: that row is kept. -/
theorem writeString_kept {B2 s2 n2 : Nat} {e2 : TypeId} {dv : Value} {xs : List Value} (hT1 : e2 ≠ 63) (hT2 : e2 ≠ 5) (B b : Nat) (bs : List Value) (s : ByteArray) (w : World) (h : Lib.IsBuilder 63 5 B b bs w) (hlen : bs.length + s.size ≤ 140737488355328) (hBw : B ≤ w.heap.size) (hD : w.ownsRow B2 e2 s2 dv n2 xs) :
    Calls Tryd.prog 37 #[.pointer (some ⟨b, 0, none⟩), .string s] w fun e w' => e = .returned (.tuple #[.int .i64 s.size, .nilIface]) ∧ (Lib.BuilderAt 63 5 B b (.pointer (some ⟨b, 0, none⟩)) (bs ++ Lib.strCells s) w' ∧ Below B w w' ∧ w'.ownsRow B2 e2 s2 dv n2 xs) := by
  obtain ⟨i0, hi, hz0, hz1, hz2⟩ := info_parts Tryd.infoByte
  go_enter Tryd.func37, Tryd.ntmps37
  go_wp2_with (go_at_call 62; refine (copyCheck_kept hT1 B b bs _ h hD).mono ?_)
  rintro e w1 ⟨rfl, h1, hb1, hD1⟩
  obtain ⟨hB, v, hbk, hown, hne⟩ := h1
  have c0 : w1.cell? ⟨b, 0, none⟩ = some (.pointer (some ⟨b, 0, none⟩)) := by rw [Lib.cell_of_heap hbk]; rfl
  have c1 : w1.cell? ⟨b, 1, none⟩ = some v := by rw [Lib.cell_of_heap hbk]; rfl
  go_wp2_with (at_builtin; refine Lib.wpList_append_own_string _ rfl _ _ 33 9 rfl B 5 i0 Tryd.underlying33 Tryd.underlying9 hi hz0 hz1 hz2 _ _ _ rfl hown s rfl ?c3 ?c4 ?c5 ?_)
  case c3 => unfold maxLen; omega
  case c4 => omega
  case c5 => have := hb1.size; omega
  intro v' w2 hown' hgrow _
  have hD2 := kept_apart hT2 hD1 hown hgrow
  have hlt : b < w1.heap.size := by
    rcases Nat.lt_or_ge b w1.heap.size with h' | h'
    · exact h'
    · simp [Array.getElem?_eq_none h'] at hbk
  have hb2 : w2.heap[b]? = some (.cells #[.pointer (some ⟨b, 0, none⟩), v] 63 (0, 0)) := by
    rw [hgrow.block b hlt (fun e => hne e.symm)]
    exact hbk
  have d0 : w2.cell? ⟨b, 0, none⟩ = some (.pointer (some ⟨b, 0, none⟩)) := by rw [Lib.cell_of_heap hb2]; rfl
  have d1 : w2.cell? ⟨b, 1, none⟩ = some v := by rw [Lib.cell_of_heap hb2]; rfl
  have f1 : w2.frozen? ⟨b, 1, none⟩ = false := Lib.frozen_of_heap hb2 1
  obtain ⟨ao, n', cap, rfl⟩ : ∃ ao n' cap, v' = .slice ao n' cap := by
    rcases hown'.2 with ⟨hv, _⟩ | ⟨g, cap, cur, hv, _⟩
    · exact ⟨_, _, _, hv⟩
    · exact ⟨_, _, _, hv⟩
  go_wp2
  go_ret2
  refine ⟨rfl, ?_, ?_, ?_⟩
  · exact Lib.BuilderAt.put (T := 63) (e := 5) hB hb2 (bs' := bs ++ Lib.strCells s) (by simpa [Lib.strCells_length] using hown') (by decide)
  · exact (hb1.grown hgrow (by have := hb1.size; omega) (fun k hk => (hown.lt k hk).1)).setCell (p := ⟨b, 1, none⟩) hB _
  · exact hD2.kept (setCell_grown _ b 1 _) (off_block hT1 hD2 hb2)
/-- A row of another element type grows: the builder is kept. -/
theorem builder_kept {w w' : World} {B b B2 s2 n2 : Nat} {e e2 T : TypeId} {p dv : Value} {bs xs : List Value} (hT1 : e2 ≠ T) (hT2 : e2 ≠ e) (h : Lib.BuilderAt T e B b p bs w) (hD : w.ownsRow B2 e2 s2 dv n2 xs) (hg : w.grownBy w' dv.ownBlock) : Lib.BuilderAt T e B b p bs w' := by
  obtain ⟨hB, v, hb, ho, hne⟩ := h
  have hlt : b < w.heap.size := by
    rcases Nat.lt_or_ge b w.heap.size with h' | h'
    · exact h'
    · simp [Array.getElem?_eq_none h'] at hb
  refine ⟨hB, v, ?_, kept_apart (Ne.symm hT2) ho hD hg, hne⟩
  rw [hg.block b hlt (fun e => by rcases off_block hT1 hD hb with h | h; (rw [h] at e; cases e); exact h e.symm)]
  exact hb
theorem builder_any_kept {w w' : World} {B b B2 s2 n2 : Nat} {e e2 T : TypeId} {dv : Value} {bs xs : List Value} (hT1 : e2 ≠ T) (hT2 : e2 ≠ e) (h : Lib.IsBuilder T e B b bs w) (hD : w.ownsRow B2 e2 s2 dv n2 xs) (hg : w.grownBy w' dv.ownBlock) : Lib.IsBuilder T e B b bs w' :=
  h.elim (fun h => .inl (builder_kept hT1 hT2 h hD hg)) fun h => .inr (builder_kept hT1 hT2 h hD hg)
theorem builder_below {w w' : World} {B b : Nat} {e T : TypeId} {bs : List Value} (h : Lib.IsBuilder T e B b bs w) (hb : Below w.heap.size w w') : Lib.IsBuilder T e B b bs w' := by
  have one : ∀ p, Lib.BuilderAt T e B b p bs w → Lib.BuilderAt T e B b p bs w' := fun p h => by
    obtain ⟨hB, v, hh, ho, hne⟩ := h
    have hlt : b < w.heap.size := by
      rcases Nat.lt_or_ge b w.heap.size with h' | h'
      · exact h'
      · simp [Array.getElem?_eq_none h'] at hh
    exact ⟨hB, v, by rw [hb.block b hlt]; exact hh, own_below ho hb (Nat.le_refl _), hne⟩
  exact h.elim (fun h => .inl (one _ h)) fun h => .inr (one _ h)
end Go.Proofs.YtklaakhdpfgffabDoor
