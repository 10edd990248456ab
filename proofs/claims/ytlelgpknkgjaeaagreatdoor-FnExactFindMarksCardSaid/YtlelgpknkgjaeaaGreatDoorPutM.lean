/- 'l07Put' of the reference: a mark is put into its place among the marks. -/
import Derived.Test.YtlelgpknkgjaeaaGreatDoorFdP
import Derived.Test.YtlelgpknkgjaeaaGreatDoorMarks
namespace Go.Proofs.YtlelgpknkgjaeaaGreatDoor
open Go.ChangeShapes Go.WideShapes Go.ChangeAt Go.RowKit
set_option linter.unusedSimpArgs false
set_option linter.unusedVariables false
set_option maxRecDepth 4000

theorem putM_stop : ∀ (l : List MarkR) (m : MarkR) (k : Nat), (∀ j x, j < k → l[j]? = some x → x.a < m.a) → (∀ x, l[k]? = some x → ¬ x.a < m.a) → putM l m = l.take k ++ m :: l.drop k
  | [], m, k, _, _ => by simp [putM]
  | x :: l, m, 0, _, h2 => by
    unfold putM
    rw [if_neg (h2 x rfl)]
    rfl
  | x :: l, m, k + 1, h1, h2 => by
    unfold putM
    rw [if_pos (h1 0 x (by omega) rfl), putM_stop l m k (fun j y hj hy => h1 (j + 1) y (by omega) hy) (fun y hy => h2 y hy)]
    rfl
theorem fresh3 {t : TypeId} (w : World) (a0 a1 a2 : Value) : BoxAt (w.alloc (.cells #[a0, a1, a2] t)) w.heap.size 0 [a0, a1, a2] := fun j u hu => by
  rw [Nat.zero_add]
  have h := World.ownsRow_lit (e := t) w #[a0, a1, a2] 1 (base := w.heap.size) (size := 3) (Nat.le_refl _) (by decide) rfl
  have := h.cells (g := w.heap.size) rfl j u hu
  rwa [addr_add, Nat.zero_add] at this
theorem one3 {l : List MarkR} : ∀ u ∈ l.flatMap MarkR.cells, u.oneCell' = true := by
  intro u hu
  obtain ⟨m, _, h⟩ := List.mem_flatMap.1 hu
  simp only [MarkR.cells, List.mem_cons, List.not_mem_nil, or_false] at h
  rcases h with rfl | rfl | rfl <;> rfl

theorem box_take {α : Type} {f : α → List Value} {size : Nat} (hf : ∀ x, (f x).length = size) {w : World} {g k : Nat} {l : List α} (h : Box w g (l.flatMap f)) : ∀ j u, ((l.take k).flatMap f)[j]? = some u → w.cell? ((⟨g, 0, none⟩ : Addr).add j) = some u := fun j u hu => by
  rw [addr_add, Nat.zero_add]
  refine h j u ?_
  have hj := (List.getElem?_eq_some_iff.1 hu).1
  have e : l.flatMap f = (l.take k).flatMap f ++ (l.drop k).flatMap f := by rw [← List.flatMap_append, List.take_append_drop]
  rw [e, List.getElem?_append_left hj]
  exact hu
theorem box_drop {α : Type} {f : α → List Value} {size : Nat} (hf : ∀ x, (f x).length = size) {w : World} {g k : Nat} {l : List α} (hk : k ≤ l.length) (h : Box w g (l.flatMap f)) : ∀ j u, ((l.drop k).flatMap f)[j]? = some u → w.cell? ((⟨g, k * size, none⟩ : Addr).add j) = some u := fun j u hu => by
  rw [addr_add]
  refine h _ u ?_
  have e : l.flatMap f = (l.take k).flatMap f ++ (l.drop k).flatMap f := by rw [← List.flatMap_append, List.take_append_drop]
  have hl : ((l.take k).flatMap f).length = k * size := by rw [flat_len hf, List.length_take, Nat.min_eq_left hk]
  rw [e, List.getElem?_append_right (by omega), hl, show k * size + j - k * size = j by omega]
  exact hu
theorem cells3m {w : World} {g : Nat} {a0 a1 a2 : Value} {t : TypeId} (hg : g = w.heap.size) : ∀ j u, ([a0, a1, a2] : List Value)[j]? = some u → (w.alloc (.cells #[a0, a1, a2] t)).cell? ((⟨g, 0, none⟩ : Addr).add j) = some u := fun j u hu => by
  subst hg
  have := fresh3 (t := t) w a0 a1 a2 j u hu
  rwa [addr_add]

set_option maxHeartbeats 2000000 in
theorem spec_l07Put {n b g cap : Nat} {l : List MarkR} (m : MarkR) (w : World) (h : w.ownsRow b 51 3 (.slice (some ⟨g, 0, none⟩) n cap) n (l.flatMap MarkR.cells)) (hn : n ≤ 100000) :
    Calls Tryz.prog 64 #[.slice (some ⟨g, 0, none⟩) n cap, .agg #[.int .i64 m.k, .int .i64 m.a, .int .i64 m.b]] w fun e w' => ∃ g' cap', e = .returned (.slice (some ⟨g', 0, none⟩) (n + 1 : Nat) cap') ∧ w'.ownsRow w.heap.size 51 3 (.slice (some ⟨g', 0, none⟩) (n + 1 : Nat) cap') (n + 1) ((putM l m).flatMap MarkR.cells) ∧ Below w.heap.size w w' := by
  have hlx : l.length = n := by have := h.1; rw [flat_len MarkR.len] at this; omega
  obtain ⟨i0, hti, hz0, hz1, hz2⟩ := info_parts Tryz.info_Mark
  have HO := Hid.in_ h
  have hcap : n ≤ cap ∧ cap ≤ 9223372036854775807 := by
    rcases h.2 with ⟨e, _⟩ | ⟨g1, cap1, cur, e, _, _, h1, h2, _⟩
    · cases e
    · injection e with _ _ e3
      obtain rfl := e3
      unfold maxLen at h2
      exact ⟨h1, by omega⟩
  have hgw : g < w.heap.size := (h.lt g rfl).2
  have HBX := Hid.in_ (show Box w g (l.flatMap MarkR.cells) from fun j u hu => by
    have := h.cells (g := g) rfl j u hu
    rwa [addr_add, Nat.zero_add] at this)
  have HF := Hid.in_ (fresh3 (t := 51) w (.int .i64 m.k) (.int .i64 m.a) (.int .i64 m.b))
  have HL := Hid.in_ hlx
  obtain ⟨hc1, hc2⟩ := hcap
  clear h hlx
  go_enter Tryz.func64, Tryz.ntmps64
  go_wp2_with fail
  go_loopg [5] n (fun r i wr => ∃ k : Nat, k + r = n ∧ i = .int .i64 k ∧ Hid (∀ j x, j < k → l[j]? = some x → x.a < m.a) ∧ Hid (Below (w.alloc (.cells #[.int .i64 m.k, .int .i64 m.a, .int .i64 m.b] 51)).heap.size (w.alloc (.cells #[.int .i64 m.k, .int .i64 m.a, .int .i64 m.b] 51)) wr))
  case atStart => exact ⟨0, by omega, rfl, fun j x hj => by omega, Below.refl _ _⟩
  case round =>
    obtain ⟨k, hkm, rfl, HP, HB⟩ := hrel
    have HK := Hid.in_ hkm
    clear hkm
    have hkn : k ≤ n := by have := HK.out; omega
    have HBW := Hid.in_ (show Below w.heap.size w wr from (balloc (Below.refl _ _) _).trans (HB.out.mono (by simp)))
    obtain ⟨d0, d1, d2⟩ := boxAt3 (HF.out.step HB.out)
    have hwr : w.heap.size < wr.heap.size := by have := HB.out.size; simp at this; omega
    by_cases hlt : k < n
    · obtain ⟨x, hx⟩ := get_lt l k (by rw [HL.out]; exact hlt)
      obtain ⟨c0, c1, c2⟩ := boxAt3 ((Box.elem MarkR.len HBX.out hx).step HBW.out)
      have hgr : g < wr.heap.size := by omega
      have HX := Hid.in_ hx
      clear hx
      by_cases hxa : x.a < m.a
      · go_wp2_with fail
        go_quiet (fail)
        go_wp2
        have hk := HK.out
        go_roundg (gk - 1)
        case measure => omega
        case rel =>
          refine ⟨k + 1, by omega, by go_num, Hid.in_ (fun j y hj hy => ?_), Hid.in_ (below_drewN HB.out _)⟩
          rcases Nat.lt_or_ge j k with hjk | hjk
          · exact HP.out j y hjk hy
          · obtain rfl : j = k := by omega
            rw [HX.out] at hy
            injection hy with hy
            rw [← hy]; exact hxa
      · have HS := Hid.in_ (putM_stop l m k HP.out (fun y hy => by rw [HX.out] at hy; injection hy with hy; rw [← hy]; exact hxa))
        go_wp2_with fail
        go_quiet (fail)
        obtain ⟨wq, hwq⟩ : ∃ wq : World, wq = wr.drewN nq := ⟨_, rfl⟩
        rw [← hwq]
        have hsz : wq.heap.size = wr.heap.size := by rw [hwq]; rfl
        have HBQ := Hid.in_ (show Below w.heap.size w wq by rw [hwq]; exact below_drewN HBW.out _)
        have HB1 := Hid.in_ (show Below (w.alloc (.cells #[.int .i64 m.k, .int .i64 m.a, .int .i64 m.b] 51)).heap.size (w.alloc (.cells #[.int .i64 m.k, .int .i64 m.a, .int .i64 m.b] 51)) wq by rw [hwq]; exact below_drewN HB.out _)
        rw [← hsz] at hwr
        clear hwq hsz d0 d1 d2
        have X1 : ∀ j u, ((l.take k).flatMap MarkR.cells)[j]? = some u → (wq.alloc (.cells #[] 51)).cell? ((⟨g, 0, none⟩ : Addr).add j) = some u := box_take MarkR.len (HBX.out.step (balloc HBQ.out _))
        have X2 : ((l.take k).flatMap MarkR.cells).length = k * 3 := by rw [flat_len MarkR.len, List.length_take, HL.out, Nat.min_eq_left hkn]
        have X8 : ((l.drop k).flatMap MarkR.cells).length = (n - k) * 3 := by rw [flat_len MarkR.len, List.length_drop, HL.out]
        have X3 := World.ownsRow_lit (e := 51) (base := wq.heap.size) (size := 3) wq #[] 0 (Nat.le_refl _) (by decide) (by decide)
        have X9 := Hid.in_ (show k ≤ l.length by rw [HL.out]; exact hkn)
        have X4 : (k : Int) ≤ n := by omega
        have X5 : (n : Int) ≤ cap := by omega
        have X6 : (0 : Int) ≤ k := by omega
        have X7 : (k : Int) ≤ cap := by omega
        go_wp2_with (at_builtin; first
          | (refine wpList_append_own _ rfl _ _ 22 rfl wq.heap.size 51 i0 (.agg #[.int .i64 0, .int .i64 0, .int .i64 0]) 3 24 Tryz.underlying22 hti hz0 hz1 hz2 rfl (by decide) _ _ _ rfl X3 ⟨g, 0, none⟩ k cap ((l.take k).flatMap MarkR.cells) rfl X2 X1 one3 (by unfold maxLen; omega) (by omega) (balloc (Below.refl _ _) _).size ?_; intro v4 w4 ho4 hg4 _
             have HO4 := Hid.in_ (show w4.ownsRow wq.heap.size 51 3 v4 k ((l.take k).flatMap MarkR.cells) by simpa using ho4)
             have HB4 := Hid.in_ (bgrown (balloc (Below.refl wq.heap.size wq) _) X3 (Nat.le_refl _) hg4)
             clear ho4 hg4
             obtain ⟨d0, d1, d2⟩ := boxAt3 ((HF.out.step HB1.out).step HB4.out))
          | (refine wpList_append_own _ rfl _ _ 22 rfl wq.heap.size 51 i0 (.agg #[.int .i64 0, .int .i64 0, .int .i64 0]) 3 24 Tryz.underlying22 hti hz0 hz1 hz2 rfl (by decide) _ _ _ rfl (HO4.out.alloc _) ⟨w4.heap.size, 0, none⟩ 1 1 [.int .i64 m.k, .int .i64 m.a, .int .i64 m.b] rfl rfl (cells3m rfl) (fun x hx => by simp at hx; rcases hx with rfl | rfl | rfl <;> rfl) (by unfold maxLen; omega) (by omega) (balloc HB4.out _).size ?_; intro v5 w5 ho5 hg5 _
             have HO5 := Hid.in_ ho5
             have HB5 := Hid.in_ (bgrown (balloc HB4.out _) (HO4.out.alloc _) (Nat.le_refl _) hg5)
             clear ho5 hg5)
          | (refine wpList_append_own _ rfl _ _ 22 rfl wq.heap.size 51 i0 (.agg #[.int .i64 0, .int .i64 0, .int .i64 0]) 3 24 Tryz.underlying22 hti hz0 hz1 hz2 rfl (by decide) _ _ _ rfl HO5.out ⟨g, k * 3, none⟩ (n - k) (cap - k) ((l.drop k).flatMap MarkR.cells) rfl X8 (box_drop MarkR.len X9.out ((HBX.out.step HBQ.out).step HB5.out)) one3 (by unfold maxLen; omega) (by omega) HB5.out.size ?_; intro v6 w6 ho6 hg6 _
             have HO6 := Hid.in_ ho6
             have HB6 := Hid.in_ (bgrown HB5.out HO5.out (Nat.le_refl _) hg6)
             clear ho6 hg6))
        go_ret
        have e1 : k + 1 + (n - k) = n + 1 := by omega
        have e2 : (l.take k).flatMap MarkR.cells ++ [.int .i64 m.k, .int .i64 m.a, .int .i64 m.b] ++ (l.drop k).flatMap MarkR.cells = (putM l m).flatMap MarkR.cells := by
          rw [HS.out, List.flatMap_append, List.flatMap_cons, List.append_assoc]
          rfl
        have ho := HO6.out
        rw [e1, e2] at ho
        obtain ⟨A6, c6, rfl, _, _, hA6⟩ := own_shape ho
        obtain ⟨g6, rfl, _⟩ := hA6 (by omega)
        exact ⟨g6, c6, rfl, own_base ho HBQ.out.size, HBQ.out.trans (HB6.out.mono HBQ.out.size)⟩
    · have HS := Hid.in_ (putM_stop l m k HP.out (fun y hy => by
        have := (List.getElem?_eq_some_iff.1 hy).1
        have := HL.out
        omega))
      by_cases hck : k < cap
      · go_wp2_with fail
        go_quiet (fail)
        obtain ⟨wq, hwq⟩ : ∃ wq : World, wq = wr.drewN nq := ⟨_, rfl⟩
        rw [← hwq]
        have hsz : wq.heap.size = wr.heap.size := by rw [hwq]; rfl
        have HBQ := Hid.in_ (show Below w.heap.size w wq by rw [hwq]; exact below_drewN HBW.out _)
        have HB1 := Hid.in_ (show Below (w.alloc (.cells #[.int .i64 m.k, .int .i64 m.a, .int .i64 m.b] 51)).heap.size (w.alloc (.cells #[.int .i64 m.k, .int .i64 m.a, .int .i64 m.b] 51)) wq by rw [hwq]; exact below_drewN HB.out _)
        rw [← hsz] at hwr
        clear hwq hsz d0 d1 d2
        have X1 : ∀ j u, ((l.take k).flatMap MarkR.cells)[j]? = some u → (wq.alloc (.cells #[] 51)).cell? ((⟨g, 0, none⟩ : Addr).add j) = some u := box_take MarkR.len (HBX.out.step (balloc HBQ.out _))
        have X2 : ((l.take k).flatMap MarkR.cells).length = k * 3 := by rw [flat_len MarkR.len, List.length_take, HL.out, Nat.min_eq_left hkn]
        have X8 : ((l.drop k).flatMap MarkR.cells).length = (n - k) * 3 := by rw [flat_len MarkR.len, List.length_drop, HL.out]
        have X3 := World.ownsRow_lit (e := 51) (base := wq.heap.size) (size := 3) wq #[] 0 (Nat.le_refl _) (by decide) (by decide)
        have X9 := Hid.in_ (show k ≤ l.length by rw [HL.out]; exact hkn)
        have X4 : (k : Int) ≤ n := by omega
        have X5 : (n : Int) ≤ cap := by omega
        have X6 : (0 : Int) ≤ k := by omega
        have X7 : (k : Int) ≤ cap := by omega
        go_wp2_with (at_builtin; first
          | (refine wpList_append_own _ rfl _ _ 22 rfl wq.heap.size 51 i0 (.agg #[.int .i64 0, .int .i64 0, .int .i64 0]) 3 24 Tryz.underlying22 hti hz0 hz1 hz2 rfl (by decide) _ _ _ rfl X3 ⟨g, 0, none⟩ k cap ((l.take k).flatMap MarkR.cells) rfl X2 X1 one3 (by unfold maxLen; omega) (by omega) (balloc (Below.refl _ _) _).size ?_; intro v4 w4 ho4 hg4 _
             have HO4 := Hid.in_ (show w4.ownsRow wq.heap.size 51 3 v4 k ((l.take k).flatMap MarkR.cells) by simpa using ho4)
             have HB4 := Hid.in_ (bgrown (balloc (Below.refl wq.heap.size wq) _) X3 (Nat.le_refl _) hg4)
             clear ho4 hg4
             obtain ⟨d0, d1, d2⟩ := boxAt3 ((HF.out.step HB1.out).step HB4.out))
          | (refine wpList_append_own _ rfl _ _ 22 rfl wq.heap.size 51 i0 (.agg #[.int .i64 0, .int .i64 0, .int .i64 0]) 3 24 Tryz.underlying22 hti hz0 hz1 hz2 rfl (by decide) _ _ _ rfl (HO4.out.alloc _) ⟨w4.heap.size, 0, none⟩ 1 1 [.int .i64 m.k, .int .i64 m.a, .int .i64 m.b] rfl rfl (cells3m rfl) (fun x hx => by simp at hx; rcases hx with rfl | rfl | rfl <;> rfl) (by unfold maxLen; omega) (by omega) (balloc HB4.out _).size ?_; intro v5 w5 ho5 hg5 _
             have HO5 := Hid.in_ ho5
             have HB5 := Hid.in_ (bgrown (balloc HB4.out _) (HO4.out.alloc _) (Nat.le_refl _) hg5)
             clear ho5 hg5)
          | (refine wpList_append_own _ rfl _ _ 22 rfl wq.heap.size 51 i0 (.agg #[.int .i64 0, .int .i64 0, .int .i64 0]) 3 24 Tryz.underlying22 hti hz0 hz1 hz2 rfl (by decide) _ _ _ rfl HO5.out ⟨g, k * 3, none⟩ (n - k) (cap - k) ((l.drop k).flatMap MarkR.cells) rfl X8 (box_drop MarkR.len X9.out ((HBX.out.step HBQ.out).step HB5.out)) one3 (by unfold maxLen; omega) (by omega) HB5.out.size ?_; intro v6 w6 ho6 hg6 _
             have HO6 := Hid.in_ ho6
             have HB6 := Hid.in_ (bgrown HB5.out HO5.out (Nat.le_refl _) hg6)
             clear ho6 hg6))
        go_ret
        have e1 : k + 1 + (n - k) = n + 1 := by omega
        have e2 : (l.take k).flatMap MarkR.cells ++ [.int .i64 m.k, .int .i64 m.a, .int .i64 m.b] ++ (l.drop k).flatMap MarkR.cells = (putM l m).flatMap MarkR.cells := by
          rw [HS.out, List.flatMap_append, List.flatMap_cons, List.append_assoc]
          rfl
        have ho := HO6.out
        rw [e1, e2] at ho
        obtain ⟨A6, c6, rfl, _, _, hA6⟩ := own_shape ho
        obtain ⟨g6, rfl, _⟩ := hA6 (by omega)
        exact ⟨g6, c6, rfl, own_base ho HBQ.out.size, HBQ.out.trans (HB6.out.mono HBQ.out.size)⟩
      · obtain rfl : k = cap := by omega
        go_wp2_with fail
        go_quiet (fail)
        obtain ⟨wq, hwq⟩ : ∃ wq : World, wq = wr.drewN nq := ⟨_, rfl⟩
        rw [← hwq]
        have hsz : wq.heap.size = wr.heap.size := by rw [hwq]; rfl
        have HBQ := Hid.in_ (show Below w.heap.size w wq by rw [hwq]; exact below_drewN HBW.out _)
        have HB1 := Hid.in_ (show Below (w.alloc (.cells #[.int .i64 m.k, .int .i64 m.a, .int .i64 m.b] 51)).heap.size (w.alloc (.cells #[.int .i64 m.k, .int .i64 m.a, .int .i64 m.b] 51)) wq by rw [hwq]; exact below_drewN HB.out _)
        rw [← hsz] at hwr
        clear hwq hsz d0 d1 d2
        have X1 : ∀ j u, ((l.take k).flatMap MarkR.cells)[j]? = some u → (wq.alloc (.cells #[] 51)).cell? ((⟨g, 0, none⟩ : Addr).add j) = some u := box_take MarkR.len (HBX.out.step (balloc HBQ.out _))
        have X2 : ((l.take k).flatMap MarkR.cells).length = k * 3 := by rw [flat_len MarkR.len, List.length_take, HL.out, Nat.min_eq_left hkn]
        have X8 : ((l.drop k).flatMap MarkR.cells).length = (n - k) * 3 := by rw [flat_len MarkR.len, List.length_drop, HL.out]
        have X3 := World.ownsRow_lit (e := 51) (base := wq.heap.size) (size := 3) wq #[] 0 (Nat.le_refl _) (by decide) (by decide)
        have X9 := Hid.in_ (show k ≤ l.length by rw [HL.out]; exact hkn)
        have X4 : (k : Int) ≤ n := by omega
        have X11 := Hid.in_ (show l.length ≤ k by rw [HL.out]; omega)
        have X6 : (0 : Int) ≤ k := by omega
        go_wp2_with (at_builtin; first
          | (refine wpList_append_own _ rfl _ _ 22 rfl wq.heap.size 51 i0 (.agg #[.int .i64 0, .int .i64 0, .int .i64 0]) 3 24 Tryz.underlying22 hti hz0 hz1 hz2 rfl (by decide) _ _ _ rfl X3 ⟨g, 0, none⟩ k k ((l.take k).flatMap MarkR.cells) rfl X2 X1 one3 (by unfold maxLen; omega) (by omega) (balloc (Below.refl _ _) _).size ?_; intro v4 w4 ho4 hg4 _
             have HO4 := Hid.in_ (show w4.ownsRow wq.heap.size 51 3 v4 k ((l.take k).flatMap MarkR.cells) by simpa using ho4)
             have HB4 := Hid.in_ (bgrown (balloc (Below.refl wq.heap.size wq) _) X3 (Nat.le_refl _) hg4)
             clear ho4 hg4
             obtain ⟨d0, d1, d2⟩ := boxAt3 ((HF.out.step HB1.out).step HB4.out))
          | (refine wpList_append_own _ rfl _ _ 22 rfl wq.heap.size 51 i0 (.agg #[.int .i64 0, .int .i64 0, .int .i64 0]) 3 24 Tryz.underlying22 hti hz0 hz1 hz2 rfl (by decide) _ _ _ rfl (HO4.out.alloc _) ⟨w4.heap.size, 0, none⟩ 1 1 [.int .i64 m.k, .int .i64 m.a, .int .i64 m.b] rfl rfl (cells3m rfl) (fun x hx => by simp at hx; rcases hx with rfl | rfl | rfl <;> rfl) (by unfold maxLen; omega) (by omega) (balloc HB4.out _).size ?_; intro v5 w5 ho5 hg5 _
             have HO5 := Hid.in_ ho5
             have HB5 := Hid.in_ (bgrown (balloc HB4.out _) (HO4.out.alloc _) (Nat.le_refl _) hg5)
             clear ho5 hg5)
          | (refine wpList_append_own _ rfl _ _ 22 rfl wq.heap.size 51 i0 (.agg #[.int .i64 0, .int .i64 0, .int .i64 0]) 3 24 Tryz.underlying22 hti hz0 hz1 hz2 rfl (by decide) _ _ _ rfl HO5.out ⟨g, 0, none⟩ 0 0 [] rfl rfl (fun j u hu => by cases hu) (fun x hx => by cases hx) (by unfold maxLen; omega) (by omega) HB5.out.size ?_; intro v6 w6 ho6 hg6 _
             have HO6 := Hid.in_ (show w6.ownsRow wq.heap.size 51 3 v6 (k + 1 + (n - k)) ((l.take k).flatMap MarkR.cells ++ [.int .i64 m.k, .int .i64 m.a, .int .i64 m.b] ++ (l.drop k).flatMap MarkR.cells) by rw [show n - k = 0 by omega, List.drop_of_length_le X11.out]; simpa using ho6)
             have HB6 := Hid.in_ (bgrown HB5.out HO5.out (Nat.le_refl _) hg6)
             clear ho6 hg6))
        go_ret
        have e1 : k + 1 + (n - k) = n + 1 := by omega
        have e2 : (l.take k).flatMap MarkR.cells ++ [.int .i64 m.k, .int .i64 m.a, .int .i64 m.b] ++ (l.drop k).flatMap MarkR.cells = (putM l m).flatMap MarkR.cells := by
          rw [HS.out, List.flatMap_append, List.flatMap_cons, List.append_assoc]
          rfl
        have ho := HO6.out
        rw [e1, e2] at ho
        obtain ⟨A6, c6, rfl, _, _, hA6⟩ := own_shape ho
        obtain ⟨g6, rfl, _⟩ := hA6 (by omega)
        exact ⟨g6, c6, rfl, own_base ho HBQ.out.size, HBQ.out.trans (HB6.out.mono HBQ.out.size)⟩
end Go.Proofs.YtlelgpknkgjaeaaGreatDoor
