/- The addresses are sorted and struck: 'address.compare', 'cmp.Or', 'slices.SortFunc', 'slices.Compact'. -/
import Derived.Test.YtlelgpknkgjaeaaMgK
import Derived.Test.YtlelgpknkgjaeaaSortK
import Derived.StillTailTactics
namespace Go.Proofs.Ytlelgpknkgjaeaa
open Go.ChangeShapes Go.WideShapes Go.ChangeAt Go.RowKit Go.Shelf
open Go.Sort (SWO PermIn SortedIn putCells mapBlock onCells)
set_option linter.unusedSimpArgs false
set_option linter.unusedVariables false
set_option maxRecDepth 4000

instance : Inhabited AdrR := ⟨⟨0, 0, 0, 0⟩⟩
def orI : List Int → Int
  | [] => 0
  | x :: l => if x ≠ 0 then x else orI l
theorem orI_drop {l : List Int} {k : Nat} {x : Int} (h : l[k]? = some x) : orI (l.drop k) = if x ≠ 0 then x else orI (l.drop (k + 1)) := by
  have hk : k < l.length := (List.getElem?_eq_some_iff.1 h).1
  have e : l[k] = x := (List.getElem?_eq_some_iff.1 h).2
  rw [List.drop_eq_getElem_cons hk, e]
  rfl
def cmpA (x y : AdrR) : Int := orI [Lib.compareInt x.c y.c, Lib.compareInt x.h y.h, Lib.compareInt x.n y.n, Lib.compareInt x.s y.s]
theorem cmpI_cases (a b : Int) : (a < b ∧ Lib.compareInt a b = -1) ∨ (a = b ∧ Lib.compareInt a b = 0) ∨ (b < a ∧ Lib.compareInt a b = 1) := by
  unfold Lib.compareInt
  rcases Int.lt_trichotomy a b with h | h | h
  · exact .inl ⟨h, by simp [h]⟩
  · subst h; exact .inr (.inl ⟨rfl, by simp⟩)
  · refine .inr (.inr ⟨h, ?_⟩)
    have h1 : ¬ a < b := by omega
    simp [h, h1]
theorem lt_A (x y : AdrR) : ltOf cmpA x y = decide (ltA x y) := by
  have key : (cmpA x y < 0) ↔ ltA x y := by
    unfold cmpA orI orI orI orI orI ltA
    rcases cmpI_cases x.c y.c with ⟨h1, e1⟩ | ⟨h1, e1⟩ | ⟨h1, e1⟩ <;> rw [e1]
    · simp; omega
    · rcases cmpI_cases x.h y.h with ⟨h2, e2⟩ | ⟨h2, e2⟩ | ⟨h2, e2⟩ <;> rw [e2]
      · simp; omega
      · rcases cmpI_cases x.n y.n with ⟨h3, e3⟩ | ⟨h3, e3⟩ | ⟨h3, e3⟩ <;> rw [e3]
        · simp; omega
        · rcases cmpI_cases x.s y.s with ⟨h4, e4⟩ | ⟨h4, e4⟩ | ⟨h4, e4⟩ <;> rw [e4] <;> simp <;> omega
        · simp; omega
      · simp; omega
    · simp; omega
  unfold ltOf
  exact decide_eq_decide.2 key
theorem swo_A : SWO (ltOf cmpA) where
  irrefl x := by rw [lt_A]; exact decide_eq_false (ltA_irrefl x)
  trans x y z h1 h2 := by rw [lt_A] at *; exact decide_eq_true (ltA_trans (of_decide_eq_true h1) (of_decide_eq_true h2))
  ntrans x y z h1 h2 := by
    rw [lt_A] at *
    have h1 := of_decide_eq_false h1
    have h2 := of_decide_eq_false h2
    refine decide_eq_false ?_
    unfold ltA at *
    omega
set_option maxHeartbeats 1000000 in
theorem cmp_Or {g : Nat} {l : List Int} (w : World) (hx : Box w g (I64 l)) (hl : l.length = 4) :
    Calls Try.prog 115 #[.slice (some ⟨g, 0, none⟩) 4 4] w fun e w' => e = .returned (.int .i64 (orI l)) ∧ w' = w := by
  have HX := Hid.in_ hx
  have HL := Hid.in_ hl
  clear hx hl
  go_enter Try.func115, Try.ntmps115
  go_wp2
  go_loopg [8] 4 (fun m i wr => ∃ k : Nat, k + m = 4 ∧ i = .int .i64 k ∧ Hid (orI l = orI (l.drop k)) ∧ w = wr)
  case atStart => exact ⟨0, by omega, rfl, rfl, rfl⟩
  case round =>
    obtain ⟨k, hkm, rfl, HO, rfl⟩ := hrel
    have HK := Hid.in_ hkm
    clear hkm
    by_cases hlt : k < 4
    · obtain ⟨x, hm⟩ := get_lt l k (by rw [HL.out]; exact hlt)
      have c0 : w.cell? ⟨g, k, none⟩ = some (.int .i64 x) := HX.out k _ (I64_get hm)
      have HD := Hid.in_ (orI_drop hm)
      clear hm
      by_cases h0 : x = 0
      · subst h0
        go_wp2
        have hk := HK.out
        go_roundg (gk - 1)
        case measure => omega
        case rel => exact ⟨k + 1, by omega, by go_num, HO.out.trans (by rw [HD.out]; rfl), rfl⟩
      · go_wp2
        go_ret
        exact ⟨show Ending.returned (.int .i64 x) = _ by rw [HO.out, HD.out, if_pos h0], rfl⟩
    · have hk := HK.out
      obtain rfl : k = 4 := by omega
      go_wp2
      go_ret
      exact ⟨show Ending.returned (.int .i64 0) = _ by rw [HO.out, List.drop_of_length_le (by rw [HL.out]; exact Nat.le_refl _)]; rfl, rfl⟩
theorem grow3 (W : World) (a b c : Array Obj) (q : Nat) : Go.Sort.grow ((Go.Sort.grow (Go.Sort.grow W a) b).drewN q) c = Go.Sort.grow (W.drewN q) (a ++ (b ++ c)) := by
  show Go.Sort.grow (Go.Sort.grow (Go.Sort.grow (W.drewN q) a) b) c = _
  rw [Go.Sort.grow_grow, Go.Sort.grow_grow]
set_option maxHeartbeats 4000000 in
theorem impl_compare (x y : AdrR) (W : World) : Calls Try.prog 103 #[.agg #[.int .i64 x.c, .int .i64 x.h, .int .i64 x.n, .int .i64 x.s], .agg #[.int .i64 y.c, .int .i64 y.h, .int .i64 y.n, .int .i64 y.s]] W fun e w' => e = .returned (.int .i64 (cmpA x y)) ∧ ∃ q os', w' = Go.Sort.grow (W.drewN q) os' := by
  have hcon : ∀ a b W', Calls Try.prog 116 #[.int .i64 a, .int .i64 b] W' fun e w' => e = .returned (.int .i64 (Lib.compareInt a b)) ∧ w' = W' := fun a b W' => AnyG.cmp_Compare_int Try.cmpI64 a b W'
  obtain ⟨x0, x1, x2, x3⟩ := x
  obtain ⟨y0, y1, y2, y3⟩ := y
  have C0 := Hid.in_ (hcon x0 y0)
  have C1 := Hid.in_ (hcon x1 y1)
  have C2 := Hid.in_ (hcon x2 y2)
  have C3 := Hid.in_ (hcon x3 y3)
  have HV : Hid (cmpA ⟨x0, x1, x2, x3⟩ ⟨y0, y1, y2, y3⟩ = orI [Lib.compareInt x0 y0, Lib.compareInt x1 y1, Lib.compareInt x2 y2, Lib.compareInt x3 y3]) := rfl
  generalize cmpA ⟨x0, x1, x2, x3⟩ ⟨y0, y1, y2, y3⟩ = z at *
  generalize Lib.compareInt x0 y0 = r0 at *
  generalize Lib.compareInt x1 y1 = r1 at *
  generalize Lib.compareInt x2 y2 = r2 at *
  generalize Lib.compareInt x3 y3 = r3 at *
  clear hcon
  simp only
  have hW := wr_twoT W 136 136 [.int .i64 x0, .int .i64 x1, .int .i64 x2, .int .i64 x3] [.int .i64 y0, .int .i64 y1, .int .i64 y2, .int .i64 y3]
  obtain ⟨W2, hW2⟩ : ∃ W2, W2 = (W.alloc (.cells #[.int .i64 x0, .int .i64 x1, .int .i64 x2, .int .i64 x3] 136)).alloc (.cells #[.int .i64 y0, .int .i64 y1, .int .i64 y2, .int .i64 y3] 136) := ⟨_, rfl⟩
  change Wr ((W.alloc (.cells #[.int .i64 x0, .int .i64 x1, .int .i64 x2, .int .i64 x3] 136)).alloc (.cells #[.int .i64 y0, .int .i64 y1, .int .i64 y2, .int .i64 y3] 136)) _ _ ∧ Wr ((W.alloc (.cells #[.int .i64 x0, .int .i64 x1, .int .i64 x2, .int .i64 x3] 136)).alloc (.cells #[.int .i64 y0, .int .i64 y1, .int .i64 y2, .int .i64 y3] 136)) _ _ ∧ _ at hW
  rw [← hW2] at hW
  obtain ⟨⟨c0, c1, c2, c3⟩, _⟩ := wr4a hW.1
  obtain ⟨⟨d0, d1, d2, d3⟩, _⟩ := wr4a hW.2.1
  have HW2 := Hid.in_ hW2
  clear hW hW2
  go_enter Try.func103, Try.ntmps103
  go_wp2_with fail
  rw [← HW2.out]
  refine wp_region_still_tail 20 (by kernel_rfl) (by kernel_rfl) ?_
  simp only [List.take_succ_cons, List.take_zero, List.drop_succ_cons, List.drop_zero]
  still_step
  still_step
  still_step
  still_step
  still_call (C0.out _)
  still_step
  still_step
  still_step
  still_step
  still_call (C1.out _)
  still_step
  still_step
  still_step
  still_step
  still_call (C2.out _)
  still_step
  still_step
  still_step
  still_step
  still_call (C3.out _)
  refine wpStill_nil ?_
  change wpList _ _ _ _ _ (W2.drewN 1)
  obtain ⟨W3, hW3⟩ : ∃ W3, W3 = W2.drewN 1 := ⟨_, rfl⟩
  rw [← hW3]
  have HBX := Hid.in_ (Box.new W3 [.int .i64 r0, .int .i64 r1, .int .i64 r2, .int .i64 r3] 3)
  have HW3 := Hid.in_ hW3
  clear hW3 c0 c1 c2 c3 d0 d1 d2 d3
  go_wp2_with (go_at_call 115; refine (cmp_Or (l := [r0, r1, r2, r3]) _ HBX.out rfl).mono ?_; rintro e w' ⟨rfl, rfl⟩)
  go_ret
  exact ⟨show Ending.returned (.int .i64 (orI [r0, r1, r2, r3])) = _ by rw [HV.out], 1, _, by rw [HW3.out, HW2.out, Go.Sort.alloc_eq_grow, Go.Sort.alloc_eq_grow, Go.Sort.alloc_eq_grow]; exact grow3 _ _ _ _ _⟩
theorem adr_one {x : AdrR} : ∀ v ∈ x.cells, v.oneCell' = true := by
  intro v hv
  simp [AdrR.cells] at hv
  rcases hv with rfl | rfl | rfl | rfl <;> rfl
set_option maxHeartbeats 1000000 in
theorem sort_adrs {b g cap n : Nat} {d : List AdrR} (w : World) (h : w.ownsRow b 136 4 (.slice (some ⟨g, 0, none⟩) n cap) n (d.flatMap AdrR.cells)) (hn : n ≤ 100000) :
    Calls Try.prog 102 #[.slice (some ⟨g, 0, none⟩) n cap, .func (.func 103) #[] #[]] w fun e w' => e = .returned (.tuple #[]) ∧ ∃ d' : List AdrR, d'.Perm d ∧ d'.Pairwise (fun x y => ¬ ltA y x) ∧ w'.ownsRow b 136 4 (.slice (some ⟨g, 0, none⟩) n cap) n (d'.flatMap AdrR.cells) ∧ Below b w w' := by
  have eg : ∀ args w, (callFunc 103 args).run Try.prog w = .ok (.enter 103 args) w := enters_of Try.func103 (by kernel_rfl) rfl
  have hlx : d.length = n := by have := h.1; rw [flat_len AdrR.len] at this; omega
  have hC : ∀ blk off size w, CmpLays Try.prog 103 #[] AdrR.cells 4 cmpA blk off size w := fun _ _ _ _ _ _ _ _ x y => impl_compare x y _
  have hcon := AnyQ.slices_SortFunc Try.sortAd 4 Try.isAgg136 Try.sizeOf136 AdrR.cells AdrR.len (fun x v hv => adr_one v hv) cmpA swo_A 103 #[] g 0 cap d.toArray w eg (hC _ _ _ _) (holds_own AdrR.len (by decide) h) ((h.lt g rfl).2) (by rw [List.size_toArray]; omega)
  change Calls Try.prog 102 _ _ _ at hcon
  rw [List.size_toArray, hlx] at hcon
  refine hcon.mono ?_
  rintro e w' ⟨he, d', m, os, hp, hs, rfl⟩
  obtain ⟨p1, _, p3⟩ := hp
  have hsz : d'.size = n := by rw [p1, List.size_toArray, hlx]
  have ex : ∀ a : Array AdrR, a.size = n → (a.extract 0 n).toList = a.toList := fun a ha => by rw [← ha]; simp
  rw [ex d' hsz, ex d.toArray (by rw [List.size_toArray, hlx])] at p3
  obtain ⟨hO, hB⟩ := own_sorted AdrR.len (by decide) h (d' := d'.toList) (by rw [Array.length_toList, hsz, hlx]) m os
  refine ⟨he, d'.toList, p3, ?_, hO, hB⟩
  rw [List.pairwise_iff_getElem]
  intro i j hi hj hij
  rw [Array.length_toList] at hi hj
  have := hs i j (Nat.zero_le _) hij (by rw [← hsz]; exact hj)
  rw [lt_A, getElem!_pos d' i hi, getElem!_pos d' j hj] at this
  exact of_decide_eq_false this
theorem sort_anone (A : Option Addr) (c : Nat) (fv : Value) (w : World) :
    Calls Try.prog 102 #[.slice A 0 c, fv] w fun e w' => e = .returned (.tuple #[]) ∧ w' = w := by
  have h := AnyF.slices_SortFunc_none Try.sortAd A c fv w
  change Calls Try.prog 102 _ _ _ at h
  exact h
end Go.Proofs.Ytlelgpknkgjaeaa
