/- 'BestFound' of the program and of the reference. -/
import Derived.Test.YtomfagckcfmfjaaFounds
import Derived.Lib.Builder
namespace Go.Proofs.Ytomfagckcfmfjaa
open Go.ChangeShapes Go.WideShapes Go.ChangeAt Go.RowKit
set_option linter.unusedVariables false
set_option linter.unusedSimpArgs false
set_option maxRecDepth 4000

def hit (st c h n : Int) (r : FndR) : Bool := (r.t == st) && ((r.c == c) && ((r.h == h) && (r.n == n)))
def stAt (k : Nat) : Int := [1, 3, 4].getD k 0
def NoHit (c h n : Int) (l : List FndR) (k x : Nat) : Prop := ∀ r, l[x]? = some r → hit (stAt k) c h n r = false
/-- What is best: the state first, then the place. -/
def IsBest (l : List FndR) (c h n : Int) (x : Int) (b : Bool) : Prop :=
  (b = false ∧ x = 0 ∧ (okFnds l = false ∨ ∀ k, k < 3 → ∀ y, NoHit c h n l k y)) ∨
  (b = true ∧ okFnds l = true ∧ ∃ k y r, x = (y : Nat) ∧ k < 3 ∧ l[y]? = some r ∧ hit (stAt k) c h n r = true ∧ (∀ j, j < k → ∀ z, NoHit c h n l j z) ∧ ∀ z, z < y → NoHit c h n l k z)
theorem IsBest.unique {l : List FndR} {c h n x x' : Int} {b b' : Bool} (H : IsBest l c h n x b) (K : IsBest l c h n x' b') : x' = x ∧ b' = b := by
  rcases H with ⟨rfl, rfl, H⟩ | ⟨rfl, ho, k, y, r, rfl, hk, hr, hh, hj, hz⟩ <;> rcases K with ⟨rfl, rfl, K⟩ | ⟨rfl, ho', k', y', r', rfl, hk', hr', hh', hj', hz'⟩
  · exact ⟨rfl, rfl⟩
  · rcases H with H | H
    · rw [H] at ho'; cases ho'
    · have := H k' hk' y' r' hr'; rw [this] at hh'; cases hh'
  · rcases K with K | K
    · rw [K] at ho; cases ho
    · have := K k hk y r hr; rw [this] at hh; cases hh
  · rcases Nat.lt_trichotomy k k' with h1 | rfl | h1
    · have := hj' k h1 y r hr; rw [this] at hh; cases hh
    · rcases Nat.lt_trichotomy y y' with h2 | rfl | h2
      · have := hz' y h2 r hr; rw [this] at hh; cases hh
      · exact ⟨rfl, rfl⟩
      · have := hz y' h2 r' hr'; rw [this] at hh'; cases hh'
    · have := hj k' h1 y' r' hr'; rw [this] at hh'; cases hh'
theorem hit_cases (st c h n : Int) (r : FndR) :
    ((r.t == st) = false ∧ Hid (hit st c h n r = false)) ∨
    ((r.t == st) = true ∧ (r.c == c) = false ∧ Hid (hit st c h n r = false)) ∨
    ((r.t == st) = true ∧ (r.c == c) = true ∧ (r.h == h) = false ∧ Hid (hit st c h n r = false)) ∨
    ((r.t == st) = true ∧ (r.c == c) = true ∧ (r.h == h) = true ∧ (r.n == n) = false ∧ Hid (hit st c h n r = false)) ∨
    ((r.t == st) = true ∧ (r.c == c) = true ∧ (r.h == h) = true ∧ (r.n == n) = true ∧ Hid (hit st c h n r = true)) := by
  unfold Hid hit
  cases (r.t == st) <;> cases (r.c == c) <;> cases (r.h == h) <;> cases (r.n == n) <;> simp
theorem ret2_ib' {a b : Int} {x y : Bool} (h : a = b) (k : x = y) : Ending.returned (.tuple #[.int .i64 a, .bool x]) = .returned (.tuple #[.int .i64 b, .bool y]) := by rw [h, k]
theorem order_cell {w : World} {b : Nat} {t : TypeId} (h : w.heap[b]? = some (.cells #[.int .i64 1, .int .i64 3, .int .i64 4] t (0, 0))) {k : Nat} (hk : k < 3) : w.cell? ⟨b, k, none⟩ = some (.int .i64 (stAt k)) := by
  rw [Lib.cell_of_heap h]
  obtain rfl | rfl | rfl : k = 0 ∨ k = 1 ∨ k = 2 := by omega
  all_goals rfl
theorem fresh8 {t : TypeId} (w : World) (a0 a1 a2 a3 a4 a5 a6 a7 : Value) :
    (w.alloc (.cells #[a0, a1, a2, a3, a4, a5, a6, a7] t)).cell? ⟨w.heap.size, 0, none⟩ = some a0 ∧ (w.alloc (.cells #[a0, a1, a2, a3, a4, a5, a6, a7] t)).cell? ⟨w.heap.size, 1, none⟩ = some a1 ∧
    (w.alloc (.cells #[a0, a1, a2, a3, a4, a5, a6, a7] t)).cell? ⟨w.heap.size, 2, none⟩ = some a2 ∧ (w.alloc (.cells #[a0, a1, a2, a3, a4, a5, a6, a7] t)).cell? ⟨w.heap.size, 3, none⟩ = some a3 ∧
    (w.alloc (.cells #[a0, a1, a2, a3, a4, a5, a6, a7] t)).cell? ⟨w.heap.size, 4, none⟩ = some a4 ∧ (w.alloc (.cells #[a0, a1, a2, a3, a4, a5, a6, a7] t)).cell? ⟨w.heap.size, 5, none⟩ = some a5 ∧
    (w.alloc (.cells #[a0, a1, a2, a3, a4, a5, a6, a7] t)).cell? ⟨w.heap.size, 6, none⟩ = some a6 ∧ (w.alloc (.cells #[a0, a1, a2, a3, a4, a5, a6, a7] t)).cell? ⟨w.heap.size, 7, none⟩ = some a7 := by
  have p := heap_alloc_new w (.cells #[a0, a1, a2, a3, a4, a5, a6, a7] t)
  refine ⟨?_, ?_, ?_, ?_, ?_, ?_, ?_, ?_⟩ <;> (rw [Lib.cell_of_heap p]; rfl)
theorem nohit_next {c h n : Int} {l : List FndR} {k y : Nat} {m : FndR} (H : ∀ z, z < y → NoHit c h n l k z) (hm : l[y]? = some m) (hv : hit (stAt k) c h n m = false) : ∀ z, z < y + 1 → NoHit c h n l k z := fun z hz => by
  rcases Nat.lt_or_ge z y with h1 | h1
  · exact H z h1
  · obtain rfl : z = y := by omega
    intro r hr
    rw [hm] at hr
    injection hr with hr
    rw [← hr]
    exact hv
theorem nohit_row {c h n : Int} {l : List FndR} {k y : Nat} (H : ∀ j, j < k → ∀ z, NoHit c h n l j z) (hl : l.length = y) (K : ∀ z, z < y → NoHit c h n l k z) : ∀ j, j < k + 1 → ∀ z, NoHit c h n l j z := fun j hj z => by
  rcases Nat.lt_or_ge j k with h1 | h1
  · exact H j h1 z
  · obtain rfl : j = k := by omega
    rcases Nat.lt_or_ge z y with h2 | h2
    · exact K z h2
    · intro r hr
      rw [List.getElem?_eq_none (by omega)] at hr
      cases hr
set_option maxHeartbeats 4000000 in
theorem spec_BestFound (c h nn : Int) {v : Value} {n b0 : Nat} {l : List FndR} (w : World) (ho : w.ownsRow b0 89 8 v n (l.flatMap FndR.cells)) (hd : ∀ x ∈ l, x.d.size ≤ 1048576) :
    Calls Try.prog 38 #[v, .int .i64 c, .int .i64 h, .int .i64 nn] w fun e w' => (∃ x b, e = .returned (.tuple #[.int .i64 x, .bool b]) ∧ IsBest l c h nn x b) ∧ Below w.heap.size w w' := by
  have HO := Hid.in_ ho
  have HD := Hid.in_ hd
  obtain ⟨A, cp, rfl, hl, hn, hA⟩ := own_shape ho
  have HL : Hid (l.length = n) := by rw [flat_len FndR.len] at hl; unfold Hid; omega
  have H1 := Hid.in_ hA
  clear hA hl ho hd
  go_enter Try.func38, Try.ntmps38
  go_wp2_with fail
  refine (spec_l09List _ HO.out HD.out).mono ?_
  rintro e w1 ⟨rfl, hb1⟩
  have HB1 := Hid.in_ hb1
  clear hb1
  cases hok : okFnds l
  · have HK := Hid.in_ hok
    clear hok
    go_wp2
    go_ret2
    exact ⟨⟨0, false, rfl, .inl ⟨rfl, rfl, .inl HK.out⟩⟩, HB1.out⟩
  · have HOK := Hid.in_ hok
    clear hok
    go_wp2
    have HP := Hid.in_ (heap_alloc_new w1 (.cells #[.int .i64 1, .int .i64 3, .int .i64 4] 2))
    have HB2 := Hid.in_ (balloc HB1.out (.cells #[.int .i64 1, .int .i64 3, .int .i64 4] 2))
    generalize w1.alloc (.cells #[.int .i64 1, .int .i64 3, .int .i64 4] 2) = w2 at *
    go_loopg [11] 3 (fun m i wr => ∃ k : Nat, k + m = 3 ∧ i = .int .i64 k ∧ Hid (∀ j, j < k → ∀ z, NoHit c h nn l j z) ∧ Hid (Below w2.heap.size w2 wr))
    case atStart => exact ⟨0, by omega, rfl, fun j hj => by omega, Below.refl _ _⟩
    case round =>
      obtain ⟨k, hkm, rfl, HJ, HB⟩ := hrel
      have HK := Hid.in_ hkm
      clear hkm
      by_cases hlt : k < 3
      · go_wp2
        obtain ⟨gO, rfl⟩ : ∃ g, g = gk := ⟨_, rfl⟩
        obtain ⟨wO, rfl⟩ : ∃ g, g = wr := ⟨_, rfl⟩
        go_loopg [12] n (fun m i wr => ∃ y : Nat, y + m = n ∧ i = .int .i64 y ∧ Hid (∀ z, z < y → NoHit c h nn l k z) ∧ Hid (Below w2.heap.size w2 wr))
        case atStart => exact ⟨0, by omega, rfl, fun j hj => by omega, HB⟩
        case round =>
          obtain ⟨y, hym, rfl, HZ, HW⟩ := hrel
          have HY := Hid.in_ hym
          clear hym
          by_cases hly : y < n
          · obtain ⟨g1, rfl, _, hg1, hx1, _⟩ := H1.out (by omega)
            obtain ⟨m, hm⟩ := get_lt l y (by rw [HL.out]; exact hly)
            obtain ⟨x0, x1, x2, x3, x4, x5, x6, x7⟩ := boxAt8 ((Box.elem FndR.len hx1 hm).step (bstep HB2.out HW.out))
            have hw := HW.out
            have c0 := cstep HW.out (order_cell HP.out hlt)
            have HM := Hid.in_ hm
            clear hx1 hm
            obtain ⟨e1, HV⟩ | ⟨e1, e2, HV⟩ | ⟨e1, e2, e3, HV⟩ | ⟨e1, e2, e3, e4, HV⟩ | ⟨e1, e2, e3, e4, HV⟩ := hit_cases (stAt k) c h nn m
            all_goals
              go_wp2_with fail
              have hw4 := balloc hw (.cells #[.int .i64 m.c, .int .i64 m.h, .int .i64 m.n, .int .i64 m.s, .string m.d, .int .i64 m.t, .bool m.l, .int .i64 m.p] 89)
              have hf := fresh8 (t := 89) wr (.int .i64 m.c) (.int .i64 m.h) (.int .i64 m.n) (.int .i64 m.s) (.string m.d) (.int .i64 m.t) (.bool m.l) (.int .i64 m.p)
              obtain ⟨n0, n1, n2, _, _, n5, _, _⟩ := hf
              have c1 := cstep ((Below.refl wr.heap.size wr).alloc (Nat.le_refl _) (.cells #[.int .i64 m.c, .int .i64 m.h, .int .i64 m.n, .int .i64 m.s, .string m.d, .int .i64 m.t, .bool m.l, .int .i64 m.p] 89)) c0
              have HW4 := Hid.in_ hw4
              clear hw4 c0 x0 x1 x2 x3 x4 x5 x6 x7
              generalize wr.alloc (.cells #[.int .i64 m.c, .int .i64 m.h, .int .i64 m.n, .int .i64 m.s, .string m.d, .int .i64 m.t, .bool m.l, .int .i64 m.p] 89) = w4 at *
              go_quiet (fail)
              go_wp2
            all_goals
              first
              | (go_ret2
                 have hmm := HM.out
                 exact ⟨⟨(y : Int), true, ret2_ib' (by go_num) rfl, .inr ⟨rfl, HOK.out, k, y, m, rfl, hlt, hmm, HV.out, HJ.out, HZ.out⟩⟩, below_drewN (bstep HB2.out HW4.out) _⟩)
              | (have hk := HY.out
                 go_roundg (gk - 1)
                 case measure => omega
                 case rel => exact ⟨y + 1, by omega, by go_num, nohit_next HZ.out HM.out HV.out, below_drewN HW4.out _⟩)
          · have hy := HY.out
            obtain rfl : y = n := by omega
            go_wp2
            have hk := HK.out
            go_roundg (gO - 1)
            case measure => omega
            case rel => exact ⟨k + 1, by omega, by go_num, nohit_row HJ.out HL.out HZ.out, HW⟩
      · have hk := HK.out
        obtain rfl : k = 3 := by omega
        go_wp2
        go_ret2
        exact ⟨⟨0, false, rfl, .inl ⟨rfl, rfl, .inr HJ.out⟩⟩, bstep HB2.out HB.out⟩
set_option maxHeartbeats 4000000 in
theorem impl_BestFound (c h nn : Int) {v : Value} {n b0 : Nat} {l : List FndR} (w : World) (ho : w.ownsRow b0 89 8 v n (l.flatMap FndR.cells)) (hd : ∀ x ∈ l, x.d.size ≤ 1048576) :
    Calls Try.prog 39 #[v, .int .i64 c, .int .i64 h, .int .i64 nn] w fun e w' => (∃ x b, e = .returned (.tuple #[.int .i64 x, .bool b]) ∧ IsBest l c h nn x b) ∧ Below w.heap.size w w' := by
  have HO := Hid.in_ ho
  have HD := Hid.in_ hd
  obtain ⟨A, cp, rfl, hl, hn, hA⟩ := own_shape ho
  have HL : Hid (l.length = n) := by rw [flat_len FndR.len] at hl; unfold Hid; omega
  have H1 := Hid.in_ hA
  clear hA hl ho hd
  go_enter Try.func39, Try.ntmps39
  go_wp2_with fail
  refine (impl_validFounds _ HO.out HD.out).mono ?_
  rintro e w1 ⟨rfl, hb1⟩
  have HB1 := Hid.in_ hb1
  clear hb1
  cases hok : okFnds l
  · have HK := Hid.in_ hok
    clear hok
    go_wp2
    go_ret2
    exact ⟨⟨0, false, rfl, .inl ⟨rfl, rfl, .inl HK.out⟩⟩, HB1.out⟩
  · have HOK := Hid.in_ hok
    clear hok
    go_wp2
    have HP := Hid.in_ (heap_alloc_new w1 (.cells #[.int .i64 1, .int .i64 3, .int .i64 4] 2))
    have HB2 := Hid.in_ (balloc HB1.out (.cells #[.int .i64 1, .int .i64 3, .int .i64 4] 2))
    generalize w1.alloc (.cells #[.int .i64 1, .int .i64 3, .int .i64 4] 2) = w2 at *
    go_loopg [19] 3 (fun m i wr => ∃ k : Nat, k + m = 3 ∧ i = .int .i64 k ∧ Hid (∀ j, j < k → ∀ z, NoHit c h nn l j z) ∧ Hid (Below w2.heap.size w2 wr))
    case atStart => exact ⟨0, by omega, rfl, fun j hj => by omega, Below.refl _ _⟩
    case round =>
      obtain ⟨k, hkm, rfl, HJ, HB⟩ := hrel
      have HK := Hid.in_ hkm
      clear hkm
      by_cases hlt : k < 3
      · have c9 := cstep HB.out (order_cell HP.out hlt)
        go_wp2
        clear c9
        obtain ⟨gO, rfl⟩ : ∃ g, g = gk := ⟨_, rfl⟩
        obtain ⟨wO, rfl⟩ : ∃ g, g = wr := ⟨_, rfl⟩
        go_loopg [25] n (fun m i wr => ∃ y : Nat, y + m = n ∧ i = .int .i64 y ∧ Hid (∀ z, z < y → NoHit c h nn l k z) ∧ Hid (Below w2.heap.size w2 wr))
        case atStart => exact ⟨0, by omega, rfl, fun j hj => by omega, HB⟩
        case round =>
          obtain ⟨y, hym, rfl, HZ, HW⟩ := hrel
          have HY := Hid.in_ hym
          clear hym
          by_cases hly : y < n
          · obtain ⟨g1, rfl, _, hg1, hx1, _⟩ := H1.out (by omega)
            obtain ⟨m, hm⟩ := get_lt l y (by rw [HL.out]; exact hly)
            obtain ⟨x0, x1, x2, x3, x4, x5, x6, x7⟩ := boxAt8 ((Box.elem FndR.len hx1 hm).step (bstep HB2.out HW.out))
            have hw := HW.out
            have HM := Hid.in_ hm
            clear hx1 hm
            obtain ⟨e1, HV⟩ | ⟨e1, e2, HV⟩ | ⟨e1, e2, e3, HV⟩ | ⟨e1, e2, e3, e4, HV⟩ | ⟨e1, e2, e3, e4, HV⟩ := hit_cases (stAt k) c h nn m
            all_goals
              go_wp2_with fail
              have hw4 := balloc hw (.cells #[.int .i64 m.c, .int .i64 m.h, .int .i64 m.n, .int .i64 m.s, .string m.d, .int .i64 m.t, .bool m.l, .int .i64 m.p] 89)
              have hf := fresh8 (t := 89) wr (.int .i64 m.c) (.int .i64 m.h) (.int .i64 m.n) (.int .i64 m.s) (.string m.d) (.int .i64 m.t) (.bool m.l) (.int .i64 m.p)
              obtain ⟨n0, n1, n2, _, _, n5, _, _⟩ := hf
              have HW4 := Hid.in_ hw4
              clear hw4 x0 x1 x2 x3 x4 x5 x6 x7
              generalize wr.alloc (.cells #[.int .i64 m.c, .int .i64 m.h, .int .i64 m.n, .int .i64 m.s, .string m.d, .int .i64 m.t, .bool m.l, .int .i64 m.p] 89) = w4 at *
            all_goals
              first
              | (go_ret2
                 have hmm := HM.out
                 exact ⟨⟨(y : Int), true, ret2_ib' (by go_num) rfl, .inr ⟨rfl, HOK.out, k, y, m, rfl, hlt, hmm, HV.out, HJ.out, HZ.out⟩⟩, bstep HB2.out HW4.out⟩)
              | (have hk := HY.out
                 go_roundg (gk - 1)
                 case measure => omega
                 case rel => exact ⟨y + 1, by omega, by go_num, nohit_next HZ.out HM.out HV.out, HW4.out⟩)
          · have hy := HY.out
            obtain rfl : y = n := by omega
            go_wp2
            have hk := HK.out
            go_roundg (gO - 1)
            case measure => omega
            case rel => exact ⟨k + 1, by omega, by go_num, nohit_row HJ.out HL.out HZ.out, HW⟩
      · have hk := HK.out
        obtain rfl : k = 3 := by omega
        go_wp2
        go_ret2
        exact ⟨⟨0, false, rfl, .inl ⟨rfl, rfl, .inr HJ.out⟩⟩, bstep HB2.out HB.out⟩
end Go.Proofs.Ytomfagckcfmfjaa
