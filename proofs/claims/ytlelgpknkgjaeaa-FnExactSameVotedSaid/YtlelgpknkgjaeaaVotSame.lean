/- 'SameVoted' of the program and of the reference. -/
import Derived.Test.YtlelgpknkgjaeaaVots
import Derived.Test.YtlelgpknkgjaeaaSame
import Derived.Lib.Strings
import Derived.Shelf.Abstract
namespace Go.Proofs.Ytlelgpknkgjaeaa
open Go.ChangeShapes Go.WideShapes Go.ChangeAt Go.RowKit
set_option linter.unusedSimpArgs false
set_option linter.unusedVariables false
set_option maxRecDepth 8000

def eqI (a b : Int) : Bool := a == b
def VotR.same (a b : VotR) : Bool := (a.c == b.c) && ((a.h == b.h) && ((a.n == b.n) && ((a.s == b.s) && ((a.d.toList == b.d.toList) && ((a.t == b.t) && ((a.x == b.x) && (listSame eqI a.l b.l && (a.vo == b.vo))))))))
theorem bool_row {v : Bool} {b : Bool} (h : v = b) : Ending.returned (.bool v) = .returned (.bool b) := by rw [h]

set_option maxHeartbeats 1000000 in
theorem slices_EqualI64 {v1 v2 : Value} {n1 n2 b1 b2 : Nat} {l1 l2 : List Int} (w : World) (h1 : w.ownsRow b1 2 1 v1 n1 (I64 l1)) (h2 : w.ownsRow b2 2 1 v2 n2 (I64 l2)) :
    Calls Try.prog 54 #[v1, v2] w fun e w' => e = .returned (.bool (listSame eqI l1 l2)) ∧ Below w.heap.size w w' := by
  obtain ⟨A1, c1, rfl, hl1, hn1, hA1⟩ := own_shape h1
  obtain ⟨A2, c2, rfl, hl2, hn2, hA2⟩ := own_shape h2
  have HL1 : Hid (l1.length = n1) := by rw [I64_len] at hl1; unfold Hid; omega
  have HL2 : Hid (l2.length = n2) := by rw [I64_len] at hl2; unfold Hid; omega
  have H1 := Hid.in_ hA1
  have H2 := Hid.in_ hA2
  clear hA1 hA2 hl1 hl2 h1 h2
  by_cases hne : (n1 : Int) = n2
  · have hne2 : n1 = n2 := by omega
    subst hne2
    clear hne
    go_enter Try.func54, Try.ntmps54
    go_wp2
    go_loopg [13] n1 (fun m i wr => ∃ k : Nat, k + m = n1 ∧ i = .int .i64 k ∧ Hid (∀ j, j < k → sameAt eqI l1 l2 j = true) ∧ Hid (Below w.heap.size w wr))
    case atStart => exact ⟨0, by omega, rfl, fun j hj => by omega, Below.refl _ _⟩
    case round =>
      obtain ⟨k, hkm, rfl, HA, HB⟩ := hrel
      have HK := Hid.in_ hkm
      clear hkm
      by_cases hlt : k < n1
      · obtain ⟨g1, rfl, _, hg1, hx1, _⟩ := H1.out (by omega)
        obtain ⟨g2, rfl, _, hg2, hx2, _⟩ := H2.out (by omega)
        obtain ⟨m, hm⟩ := get_lt l1 k (by rw [HL1.out]; exact hlt)
        obtain ⟨q, hq⟩ := get_lt l2 k (by rw [HL2.out]; exact hlt)
        have c0 := (Box.step HB.out hx1) k _ (I64_get hm)
        have d0 := (Box.step HB.out hx2) k _ (I64_get hq)
        have HE := Hid.in_ (sameAt_of (f := eqI) hm hq)
        clear hx1 hx2 hm hq
        cases hv : (m == q)
        · have hb : (m != q) = true := by rw [bne, hv]; rfl
          have HV := Hid.in_ (show eqI m q = false from hv)
          clear hv
          go_wp2_with fail
          go_quiet (fail)
          go_wp2
          go_ret
          exact ⟨bool_row (listSame_no (by rw [HL1.out]; exact hlt) (HE.out.trans HV.out)).symm, below_drewN HB.out _⟩
        · have hb : (m != q) = false := by rw [bne, hv]; rfl
          have HV := Hid.in_ (show eqI m q = true from hv)
          clear hv
          go_wp2_with fail
          go_quiet (fail)
          go_wp2
          have hk := HK.out
          go_roundg (gk - 1)
          case measure => omega
          case rel => exact ⟨k + 1, by omega, by go_num, all_next HA.out (HE.out.trans HV.out), below_drewN HB.out _⟩
      · have hk := HK.out
        obtain rfl : k = n1 := by omega
        go_wp2
        go_ret
        exact ⟨bool_row (listSame_all (by rw [HL1.out, HL2.out]) (by rw [HL1.out]; exact HA.out)).symm, HB.out⟩
  · have HN := Hid.in_ (show ¬ l1.length = l2.length by rw [HL1.out, HL2.out]; omega)
    go_enter Try.func54, Try.ntmps54
    go_wp2
    go_ret
    exact ⟨bool_row (listSame_len HN.out).symm, Below.refl _ _⟩
set_option maxHeartbeats 1000000 in
theorem spec_l00Same {v1 v2 : Value} {n1 n2 b1 b2 : Nat} {l1 l2 : List Int} (w : World) (h1 : w.ownsRow b1 2 1 v1 n1 (I64 l1)) (h2 : w.ownsRow b2 2 1 v2 n2 (I64 l2)) :
    Calls Try.prog 50 #[v1, v2] w fun e w' => e = .returned (.bool (listSame eqI l1 l2)) ∧ Below w.heap.size w w' := by
  obtain ⟨A1, c1, rfl, hl1, hn1, hA1⟩ := own_shape h1
  obtain ⟨A2, c2, rfl, hl2, hn2, hA2⟩ := own_shape h2
  have HL1 : Hid (l1.length = n1) := by rw [I64_len] at hl1; unfold Hid; omega
  have HL2 : Hid (l2.length = n2) := by rw [I64_len] at hl2; unfold Hid; omega
  have H1 := Hid.in_ hA1
  have H2 := Hid.in_ hA2
  clear hA1 hA2 hl1 hl2 h1 h2
  by_cases hne : (n1 : Int) = n2
  · have hne2 : n1 = n2 := by omega
    subst hne2
    clear hne
    go_enter Try.func50, Try.ntmps50
    go_wp2
    go_loopg [5] n1 (fun m i wr => ∃ k : Nat, k + m = n1 ∧ i = .int .i64 k ∧ Hid (∀ j, j < k → sameAt eqI l1 l2 j = true) ∧ Hid (Below w.heap.size w wr))
    case atStart => exact ⟨0, by omega, rfl, fun j hj => by omega, Below.refl _ _⟩
    case round =>
      obtain ⟨k, hkm, rfl, HA, HB⟩ := hrel
      have HK := Hid.in_ hkm
      clear hkm
      by_cases hlt : k < n1
      · obtain ⟨g1, rfl, _, hg1, hx1, _⟩ := H1.out (by omega)
        obtain ⟨g2, rfl, _, hg2, hx2, _⟩ := H2.out (by omega)
        obtain ⟨m, hm⟩ := get_lt l1 k (by rw [HL1.out]; exact hlt)
        obtain ⟨q, hq⟩ := get_lt l2 k (by rw [HL2.out]; exact hlt)
        have c0 := (Box.step HB.out hx1) k _ (I64_get hm)
        have d0 := (Box.step HB.out hx2) k _ (I64_get hq)
        have HE := Hid.in_ (sameAt_of (f := eqI) hm hq)
        clear hx1 hx2 hm hq
        cases hv : (m == q)
        · have hb : (m != q) = true := by rw [bne, hv]; rfl
          have HV := Hid.in_ (show eqI m q = false from hv)
          clear hv
          go_wp2_with fail
          go_quiet (fail)
          go_wp2
          go_ret
          exact ⟨bool_row (listSame_no (by rw [HL1.out]; exact hlt) (HE.out.trans HV.out)).symm, below_drewN HB.out _⟩
        · have hb : (m != q) = false := by rw [bne, hv]; rfl
          have HV := Hid.in_ (show eqI m q = true from hv)
          clear hv
          go_wp2_with fail
          go_quiet (fail)
          go_wp2
          have hk := HK.out
          go_roundg (gk - 1)
          case measure => omega
          case rel => exact ⟨k + 1, by omega, by go_num, all_next HA.out (HE.out.trans HV.out), below_drewN HB.out _⟩
      · have hk := HK.out
        obtain rfl : k = n1 := by omega
        go_wp2
        go_ret
        exact ⟨bool_row (listSame_all (by rw [HL1.out, HL2.out]) (by rw [HL1.out]; exact HA.out)).symm, HB.out⟩
  · have HN := Hid.in_ (show ¬ l1.length = l2.length by rw [HL1.out, HL2.out]; omega)
    go_enter Try.func50, Try.ntmps50
    go_wp2
    go_ret
    exact ⟨bool_row (listSame_len HN.out).symm, Below.refl _ _⟩
set_option maxHeartbeats 2000000 in
theorem impl_sameVot (a b : VotR) {v1 v2 : Value} {b1 b2 : Nat} (w : World) (h1 : w.ownsRow b1 2 1 v1 a.l.length (I64 a.l)) (h2 : w.ownsRow b2 2 1 v2 b.l.length (I64 b.l)) :
    Calls Try.prog 53 #[.agg #[.int .i64 a.c, .int .i64 a.h, .int .i64 a.n, .int .i64 a.s, .string a.d, .int .i64 a.t, .bool a.x, v1, .int .i64 a.vo], .agg #[.int .i64 b.c, .int .i64 b.h, .int .i64 b.n, .int .i64 b.s, .string b.d, .int .i64 b.t, .bool b.x, v2, .int .i64 b.vo]] w fun e w' => e = .returned (.bool (VotR.same a b)) ∧ Below w.heap.size w w' := by
  obtain ⟨c, h, n, s, d, t, x, l, vo⟩ := a
  obtain ⟨c', h', n', s', d', t', x', l', vo'⟩ := b
  obtain ⟨N, hN⟩ : ∃ N, l.length = N := ⟨_, rfl⟩
  obtain ⟨N', hN'⟩ : ∃ N, l'.length = N := ⟨_, rfl⟩
  change w.ownsRow b1 2 1 v1 l.length (I64 l) at h1
  change w.ownsRow b2 2 1 v2 l'.length (I64 l') at h2
  rw [hN] at h1
  rw [hN'] at h2
  obtain ⟨A1, c1, rfl, _, _, _⟩ := own_shape h1
  obtain ⟨A2, c2, rfl, _, _, _⟩ := own_shape h2
  have hB := Hid.in_ (balloc (balloc (Below.refl w.heap.size w) (.cells #[.int .i64 c, .int .i64 h, .int .i64 n, .int .i64 s, .string d, .int .i64 t, .bool x, .slice A1 N c1, .int .i64 vo] 77)) (.cells #[.int .i64 c', .int .i64 h', .int .i64 n', .int .i64 s', .string d', .int .i64 t', .bool x', .slice A2 N' c2, .int .i64 vo'] 77))
  have HS := Hid.in_ (slices_EqualI64 ((w.alloc (.cells #[.int .i64 c, .int .i64 h, .int .i64 n, .int .i64 s, .string d, .int .i64 t, .bool x, .slice A1 N c1, .int .i64 vo] 77)).alloc (.cells #[.int .i64 c', .int .i64 h', .int .i64 n', .int .i64 s', .string d', .int .i64 t', .bool x', .slice A2 N' c2, .int .i64 vo'] 77)) (ostep hB.out h1) (ostep hB.out h2))
  have hc1 : ((w.alloc (.cells #[.int .i64 c, .int .i64 h, .int .i64 n, .int .i64 s, .string d, .int .i64 t, .bool x, .slice A1 N c1, .int .i64 vo] 77)).alloc (.cells #[.int .i64 c', .int .i64 h', .int .i64 n', .int .i64 s', .string d', .int .i64 t', .bool x', .slice A2 N' c2, .int .i64 vo'] 77)).cell? ⟨w.heap.size, 8, none⟩ = some (.int .i64 vo) := by simp [go_sem]
  have hc2 : ((w.alloc (.cells #[.int .i64 c, .int .i64 h, .int .i64 n, .int .i64 s, .string d, .int .i64 t, .bool x, .slice A1 N c1, .int .i64 vo] 77)).alloc (.cells #[.int .i64 c', .int .i64 h', .int .i64 n', .int .i64 s', .string d', .int .i64 t', .bool x', .slice A2 N' c2, .int .i64 vo'] 77)).cell? ⟨w.heap.size + 1, 8, none⟩ = some (.int .i64 vo') := by simp [go_sem]
  have HC1 := Hid.in_ hc1
  have HC2 := Hid.in_ hc2
  clear h1 h2 hN hN' hc1 hc2
  have HV := Hid.in_ (show VotR.same ⟨c, h, n, s, d, t, x, l, vo⟩ ⟨c', h', n', s', d', t', x', l', vo'⟩ = ((c == c') && ((h == h') && ((n == n') && ((s == s') && ((d.toList == d'.toList) && ((t == t') && ((x == x') && (listSame eqI l l' && (vo == vo')))))))) ) from rfl)
  generalize listSame eqI l l' = W at *
  cases e0 : (c == c')
  · rw [HV.out, e0]
    go_enter Try.func53, Try.ntmps53
    go_wp2
    go_ret
    exact ⟨rfl, hB.out⟩
  · skip
    cases e1 : (h == h')
    · rw [HV.out, e0, e1]
      go_enter Try.func53, Try.ntmps53
      go_wp2
      go_ret
      exact ⟨rfl, hB.out⟩
    · skip
      cases e2 : (n == n')
      · rw [HV.out, e0, e1, e2]
        go_enter Try.func53, Try.ntmps53
        go_wp2
        go_ret
        exact ⟨rfl, hB.out⟩
      · skip
        cases e3 : (s == s')
        · rw [HV.out, e0, e1, e2, e3]
          go_enter Try.func53, Try.ntmps53
          go_wp2
          go_ret
          exact ⟨rfl, hB.out⟩
        · skip
          cases e4 : (d.toList == d'.toList)
          · rw [HV.out, e0, e1, e2, e3, e4]
            go_enter Try.func53, Try.ntmps53
            go_wp2
            go_ret
            exact ⟨rfl, hB.out⟩
          · skip
            cases e5 : (t == t')
            · rw [HV.out, e0, e1, e2, e3, e4, e5]
              go_enter Try.func53, Try.ntmps53
              go_wp2
              go_ret
              exact ⟨rfl, hB.out⟩
            · skip
              cases e6 : (x == x')
              · rw [HV.out, e0, e1, e2, e3, e4, e5, e6]
                go_enter Try.func53, Try.ntmps53
                go_wp2
                go_ret
                exact ⟨rfl, hB.out⟩
              · skip
                rw [HV.out, e0, e1, e2, e3, e4, e5, e6]
                cases W
                · go_enter Try.func53, Try.ntmps53
                  go_wp2_with fail
                  refine HS.out.mono ?_
                  rintro e w2 ⟨rfl, hb2⟩
                  have hB2 := Hid.in_ (bstep hB.out hb2)
                  clear hb2
                  go_wp2
                  go_ret
                  exact ⟨rfl, hB2.out⟩
                · go_enter Try.func53, Try.ntmps53
                  go_wp2_with fail
                  refine HS.out.mono ?_
                  rintro e w2 ⟨rfl, hb2⟩
                  have hB2 := Hid.in_ (bstep hB.out hb2)
                  have f1 := cstep hb2 HC1.out
                  have f2 := cstep hb2 HC2.out
                  clear hb2
                  go_wp2
                  go_ret
                  exact ⟨by simp, hB2.out⟩
set_option maxHeartbeats 4000000 in
theorem slices_EqualVoted {v1 v2 : Value} {b1 b2 : Nat} {l1 l2 : List VotO} (w : World) (h1 : VRow w b1 v1 l1) (h2 : VRow w b2 v2 l2) :
    Calls Try.prog 52 #[v1, v2, .func (.func 53) #[] #[]] w fun e w' => e = .returned (.bool (listSame VotR.same (l1.map VotO.r) (l2.map VotO.r))) ∧ Below w.heap.size w w' := by
  have W1 := Hid.in_ h1.weak
  have W2 := Hid.in_ h2.weak
  obtain ⟨n1, hn1⟩ : ∃ n, l1.length = n := ⟨_, rfl⟩
  obtain ⟨n2, hn2⟩ : ∃ n, l2.length = n := ⟨_, rfl⟩
  obtain ⟨A1, c1, rfl, _, hm1, hA1⟩ := own_shape h1.row
  obtain ⟨A2, c2, rfl, _, hm2, hA2⟩ := own_shape h2.row
  rw [hn1] at hA1 hm1 ⊢
  rw [hn2] at hA2 hm2 ⊢
  have HL1 := Hid.in_ (show (l1.map VotO.r).length = n1 by rw [List.length_map, hn1])
  have HL2 := Hid.in_ (show (l2.map VotO.r).length = n2 by rw [List.length_map, hn2])
  have HM1 := Hid.in_ hn1
  have HM2 := Hid.in_ hn2
  have H1 := Hid.in_ hA1
  have H2 := Hid.in_ hA2
  clear hA1 hA2 h1 h2 hn1 hn2
  by_cases hne : (n1 : Int) = n2
  · have hne2 : n1 = n2 := by omega
    subst hne2
    clear hne
    have eg : ∀ args w, (callFunc 53 args).run Try.prog w = .ok (.enter 53 args) w := enters_of Try.func53 (by kernel_rfl) rfl
    go_enter Try.func52, Try.ntmps52
    go_wp2
    go_loopg [17] n1 (fun m i wr => ∃ k : Nat, k + m = n1 ∧ i = .int .i64 k ∧ Hid (∀ j, j < k → sameAt VotR.same (l1.map VotO.r) (l2.map VotO.r) j = true) ∧ Hid (Below w.heap.size w wr))
    case atStart => exact ⟨0, by omega, rfl, fun j hj => by omega, Below.refl _ _⟩
    case round =>
      obtain ⟨k, hkm, rfl, HA, HB⟩ := hrel
      have HK := Hid.in_ hkm
      clear hkm
      by_cases hlt : k < n1
      · obtain ⟨g1, rfl, _, hg1, hx1, _⟩ := H1.out (by omega)
        obtain ⟨g2, rfl, _, hg2, hx2, _⟩ := H2.out (by omega)
        obtain ⟨⟨m, mv⟩, hm⟩ := get_lt l1 k (by rw [HM1.out]; exact hlt)
        obtain ⟨⟨q, qv⟩, hq⟩ := get_lt l2 k (by rw [HM2.out]; exact hlt)
        obtain ⟨x0, x1, x2, x3, x4, x5, x6, x7, x8⟩ := boxAt9 ((Box.elem VotO.len hx1 hm).step HB.out)
        have HYB := Hid.in_ ((Box.elem VotO.len hx2 hq).step HB.out)
        have HO1 : Hid (wr.ownsRow b1 2 1 mv m.l.length (I64 m.l)) := Hid.in_ (ostep HB.out (W1.out _ (List.mem_of_getElem? hm)))
        have HO2 : Hid (wr.ownsRow b2 2 1 qv q.l.length (I64 q.l)) := Hid.in_ (ostep HB.out (W2.out _ (List.mem_of_getElem? hq)))
        have HE := Hid.in_ (sameAt_of (f := VotR.same) (map_get rfl hm) (map_get rfl hq))
        clear hx1 hx2 hm hq
        obtain ⟨B1, k1, rfl, _, _, _⟩ := own_shape HO1.out
        obtain ⟨B2, k2, rfl, _, _, _⟩ := own_shape HO2.out
        obtain ⟨y0, y1, y2, y3, y4, y5, y6, y7, y8⟩ := boxAt9 (HYB.out.step (balloc (Below.refl wr.heap.size wr) (.cells #[.int .i64 m.c, .int .i64 m.h, .int .i64 m.n, .int .i64 m.s, .string m.d, .int .i64 m.t, .bool m.x, .slice B1 m.l.length k1, .int .i64 m.vo] 77)))
        have HB2 := Hid.in_ (balloc (balloc (Below.refl wr.heap.size wr) (.cells #[.int .i64 m.c, .int .i64 m.h, .int .i64 m.n, .int .i64 m.s, .string m.d, .int .i64 m.t, .bool m.x, .slice B1 m.l.length k1, .int .i64 m.vo] 77)) (.cells #[.int .i64 q.c, .int .i64 q.h, .int .i64 q.n, .int .i64 q.s, .string q.d, .int .i64 q.t, .bool q.x, .slice B2 q.l.length k2, .int .i64 q.vo] 77))
        have HC := Hid.in_ (impl_sameVot m q ((wr.alloc (.cells #[.int .i64 m.c, .int .i64 m.h, .int .i64 m.n, .int .i64 m.s, .string m.d, .int .i64 m.t, .bool m.x, .slice B1 m.l.length k1, .int .i64 m.vo] 77)).alloc (.cells #[.int .i64 q.c, .int .i64 q.h, .int .i64 q.n, .int .i64 q.s, .string q.d, .int .i64 q.t, .bool q.x, .slice B2 q.l.length k2, .int .i64 q.vo] 77)) (ostep HB2.out HO1.out) (ostep HB2.out HO2.out))
        cases hv : VotR.same m q
        · have HV := Hid.in_ hv
          rw [hv] at HC
          clear hv
          go_wp2_with (go_at_fn 53; refine HC.out.mono ?_; rintro e w2 ⟨rfl, hb2⟩; have HB3 := Hid.in_ (bstep HB.out (bstep HB2.out hb2)); clear hb2)
          go_ret
          exact ⟨bool_row (listSame_no (by rw [HL1.out]; exact hlt) (HE.out.trans HV.out)).symm, HB3.out⟩
        · have HV := Hid.in_ hv
          rw [hv] at HC
          clear hv
          go_wp2_with (go_at_fn 53; refine HC.out.mono ?_; rintro e w2 ⟨rfl, hb2⟩; have HB3 := Hid.in_ (bstep HB.out (bstep HB2.out hb2)); clear hb2)
          have hk := HK.out
          go_roundg (gk - 1)
          case measure => omega
          case rel => exact ⟨k + 1, by omega, by go_num, all_next HA.out (HE.out.trans HV.out), HB3.out⟩
      · have hk := HK.out
        obtain rfl : k = n1 := by omega
        go_wp2
        go_ret
        exact ⟨bool_row (listSame_all (by rw [HL1.out, HL2.out]) (by rw [HL1.out]; exact HA.out)).symm, HB.out⟩
  · have HN := Hid.in_ (show ¬ (l1.map VotO.r).length = (l2.map VotO.r).length by rw [HL1.out, HL2.out]; omega)
    go_enter Try.func52, Try.ntmps52
    go_wp2
    go_ret
    exact ⟨bool_row (listSame_len HN.out).symm, Below.refl _ _⟩
theorem impl_SameVoted {v1 v2 : Value} {b1 b2 : Nat} {l1 l2 : List VotO} (w : World) (h1 : VRow w b1 v1 l1) (h2 : VRow w b2 v2 l2) :
    Calls Try.prog 20 #[v1, v2] w fun e w' => e = .returned (.bool (listSame VotR.same (l1.map VotO.r) (l2.map VotO.r))) ∧ Below w.heap.size w w' := by
  have HC := Hid.in_ (slices_EqualVoted w h1 h2)
  clear h1 h2
  go_enter Try.func20, Try.ntmps20
  go_wp2_with fail
  refine HC.out.mono ?_
  rintro e w2 ⟨rfl, hb2⟩
  go_wp2
  go_ret
  exact ⟨rfl, hb2⟩
theorem sameS (a b : VotR) : VotR.same a b = ((a.c == b.c) && ((a.h == b.h) && ((a.n == b.n) && ((a.s == b.s) && ((a.d.toList == b.d.toList) && ((a.t == b.t) && ((a.x == b.x) && ((a.vo == b.vo) && listSame eqI a.l b.l)))))))) := by unfold VotR.same; rw [Bool.and_comm (listSame eqI a.l b.l)]
set_option maxHeartbeats 8000000 in
theorem spec_SameVoted {v1 v2 : Value} {b1 b2 : Nat} {l1 l2 : List VotO} (w : World) (h1 : VRow w b1 v1 l1) (h2 : VRow w b2 v2 l2) :
    Calls Try.prog 18 #[v1, v2] w fun e w' => e = .returned (.bool (listSame VotR.same (l1.map VotO.r) (l2.map VotO.r))) ∧ Below w.heap.size w w' := by
  have W1 := Hid.in_ h1.weak
  have W2 := Hid.in_ h2.weak
  obtain ⟨n1, hn1⟩ : ∃ n, l1.length = n := ⟨_, rfl⟩
  obtain ⟨n2, hn2⟩ : ∃ n, l2.length = n := ⟨_, rfl⟩
  obtain ⟨A1, c1, rfl, _, hm1, hA1⟩ := own_shape h1.row
  obtain ⟨A2, c2, rfl, _, hm2, hA2⟩ := own_shape h2.row
  rw [hn1] at hA1 hm1 ⊢
  rw [hn2] at hA2 hm2 ⊢
  have HL1 := Hid.in_ (show (l1.map VotO.r).length = n1 by rw [List.length_map, hn1])
  have HL2 := Hid.in_ (show (l2.map VotO.r).length = n2 by rw [List.length_map, hn2])
  have HM1 := Hid.in_ hn1
  have HM2 := Hid.in_ hn2
  have H1 := Hid.in_ hA1
  have H2 := Hid.in_ hA2
  clear hA1 hA2 h1 h2 hn1 hn2
  by_cases hne : (n1 : Int) = n2
  · have hne2 : n1 = n2 := by omega
    subst hne2
    clear hne
    go_enter Try.func18, Try.ntmps18
    go_wp2
    go_loopg [5] n1 (fun m i wr => ∃ k : Nat, k + m = n1 ∧ i = .int .i64 k ∧ Hid (∀ j, j < k → sameAt VotR.same (l1.map VotO.r) (l2.map VotO.r) j = true) ∧ Hid (Below w.heap.size w wr))
    case atStart => exact ⟨0, by omega, rfl, fun j hj => by omega, Below.refl _ _⟩
    case round =>
      obtain ⟨k, hkm, rfl, HA, HB⟩ := hrel
      have HK := Hid.in_ hkm
      clear hkm
      by_cases hlt : k < n1
      · obtain ⟨g1, rfl, _, hg1, hx1, _⟩ := H1.out (by omega)
        obtain ⟨g2, rfl, _, hg2, hx2, _⟩ := H2.out (by omega)
        obtain ⟨⟨m, mv⟩, hm⟩ := get_lt l1 k (by rw [HM1.out]; exact hlt)
        obtain ⟨⟨q, qv⟩, hq⟩ := get_lt l2 k (by rw [HM2.out]; exact hlt)
        obtain ⟨x0, x1, x2, x3, x4, x5, x6, x7, x8⟩ := boxAt9 ((Box.elem VotO.len hx1 hm).step HB.out)
        have HYB := Hid.in_ ((Box.elem VotO.len hx2 hq).step HB.out)
        have HO1 : Hid (wr.ownsRow b1 2 1 mv m.l.length (I64 m.l)) := Hid.in_ (ostep HB.out (W1.out _ (List.mem_of_getElem? hm)))
        have HO2 : Hid (wr.ownsRow b2 2 1 qv q.l.length (I64 q.l)) := Hid.in_ (ostep HB.out (W2.out _ (List.mem_of_getElem? hq)))
        have HE := Hid.in_ (sameAt_of (f := VotR.same) (map_get rfl hm) (map_get rfl hq))
        clear hx1 hx2 hm hq
        have HSV := Hid.in_ (sameS m q)
        obtain ⟨c, h, n, s, d, t, x, l, vo⟩ := m
        obtain ⟨c', h', n', s', d', t', x', l', vo'⟩ := q
        obtain ⟨N, hN⟩ : ∃ N, l.length = N := ⟨_, rfl⟩
        obtain ⟨N', hN'⟩ : ∃ N, l'.length = N := ⟨_, rfl⟩
        change Hid (wr.ownsRow b1 2 1 mv l.length (I64 l)) at HO1
        change Hid (wr.ownsRow b2 2 1 qv l'.length (I64 l')) at HO2
        rw [hN] at HO1
        rw [hN'] at HO2
        clear hN hN'
        obtain ⟨B1, k1, rfl, _, _, _⟩ := own_shape HO1.out
        obtain ⟨B2, k2, rfl, _, _, _⟩ := own_shape HO2.out
        obtain ⟨y0, y1, y2, y3, y4, y5, y6, y7, y8⟩ := boxAt9 (HYB.out.step (balloc (Below.refl wr.heap.size wr) (.cells #[.int .i64 c, .int .i64 h, .int .i64 n, .int .i64 s, .string d, .int .i64 t, .bool x, .slice B1 N k1, .int .i64 vo] 77)))
        have hB := Hid.in_ (balloc (balloc (Below.refl wr.heap.size wr) (.cells #[.int .i64 c, .int .i64 h, .int .i64 n, .int .i64 s, .string d, .int .i64 t, .bool x, .slice B1 N k1, .int .i64 vo] 77)) (.cells #[.int .i64 c', .int .i64 h', .int .i64 n', .int .i64 s', .string d', .int .i64 t', .bool x', .slice B2 N' k2, .int .i64 vo'] 77))
        have HS := Hid.in_ (spec_l00Same ((wr.alloc (.cells #[.int .i64 c, .int .i64 h, .int .i64 n, .int .i64 s, .string d, .int .i64 t, .bool x, .slice B1 N k1, .int .i64 vo] 77)).alloc (.cells #[.int .i64 c', .int .i64 h', .int .i64 n', .int .i64 s', .string d', .int .i64 t', .bool x', .slice B2 N' k2, .int .i64 vo'] 77)) (ostep hB.out HO1.out) (ostep hB.out HO2.out))
        have HBA := Hid.in_ (HB.out.trans (hB.out.mono HB.out.size))
        change Hid (VotR.same ⟨c, h, n, s, d, t, x, l, vo⟩ ⟨c', h', n', s', d', t', x', l', vo'⟩ = ((c == c') && ((h == h') && ((n == n') && ((s == s') && ((d.toList == d'.toList) && ((t == t') && ((x == x') && ((vo == vo') && listSame eqI l l')))))))) ) at HSV
        generalize listSame eqI l l' = W at *
        cases e0 : (c == c')
        · have g0 : (c != c') = true := by rw [bne, e0]; rfl
          have HV := Hid.in_ (show VotR.same _ _ = false from HSV.out.trans (by rw [e0]; rfl))
          go_wp2
          go_ret
          exact ⟨bool_row (listSame_no (by rw [HL1.out]; exact hlt) (HE.out.trans HV.out)).symm, HBA.out⟩
        · have g0 : (c != c') = false := by rw [bne, e0]; rfl
          cases e1 : (h == h')
          · have g1 : (h != h') = true := by rw [bne, e1]; rfl
            have HV := Hid.in_ (show VotR.same _ _ = false from HSV.out.trans (by rw [e0, e1]; rfl))
            go_wp2
            go_ret
            exact ⟨bool_row (listSame_no (by rw [HL1.out]; exact hlt) (HE.out.trans HV.out)).symm, HBA.out⟩
          · have g1 : (h != h') = false := by rw [bne, e1]; rfl
            cases e2 : (n == n')
            · have g2 : (n != n') = true := by rw [bne, e2]; rfl
              have HV := Hid.in_ (show VotR.same _ _ = false from HSV.out.trans (by rw [e0, e1, e2]; rfl))
              go_wp2
              go_ret
              exact ⟨bool_row (listSame_no (by rw [HL1.out]; exact hlt) (HE.out.trans HV.out)).symm, HBA.out⟩
            · have g2 : (n != n') = false := by rw [bne, e2]; rfl
              cases e3 : (s == s')
              · have g3 : (s != s') = true := by rw [bne, e3]; rfl
                have HV := Hid.in_ (show VotR.same _ _ = false from HSV.out.trans (by rw [e0, e1, e2, e3]; rfl))
                go_wp2
                go_ret
                exact ⟨bool_row (listSame_no (by rw [HL1.out]; exact hlt) (HE.out.trans HV.out)).symm, HBA.out⟩
              · have g3 : (s != s') = false := by rw [bne, e3]; rfl
                cases e4 : (d.toList == d'.toList)
                · have g4 : (d.toList != d'.toList) = true := by rw [bne, e4]; rfl
                  have HV := Hid.in_ (show VotR.same _ _ = false from HSV.out.trans (by rw [e0, e1, e2, e3, e4]; rfl))
                  go_wp2
                  go_ret
                  exact ⟨bool_row (listSame_no (by rw [HL1.out]; exact hlt) (HE.out.trans HV.out)).symm, HBA.out⟩
                · have g4 : (d.toList != d'.toList) = false := by rw [bne, e4]; rfl
                  cases e5 : (t == t')
                  · have g5 : (t != t') = true := by rw [bne, e5]; rfl
                    have HV := Hid.in_ (show VotR.same _ _ = false from HSV.out.trans (by rw [e0, e1, e2, e3, e4, e5]; rfl))
                    go_wp2
                    go_ret
                    exact ⟨bool_row (listSame_no (by rw [HL1.out]; exact hlt) (HE.out.trans HV.out)).symm, HBA.out⟩
                  · have g5 : (t != t') = false := by rw [bne, e5]; rfl
                    cases e6 : (x == x')
                    · have g6 : (x != x') = true := by rw [bne, e6]; rfl
                      have HV := Hid.in_ (show VotR.same _ _ = false from HSV.out.trans (by rw [e0, e1, e2, e3, e4, e5, e6]; rfl))
                      go_wp2
                      go_ret
                      exact ⟨bool_row (listSame_no (by rw [HL1.out]; exact hlt) (HE.out.trans HV.out)).symm, HBA.out⟩
                    · have g6 : (x != x') = false := by rw [bne, e6]; rfl
                      cases e7 : (vo == vo')
                      · have g7 : (vo != vo') = true := by rw [bne, e7]; rfl
                        have HV := Hid.in_ (show VotR.same _ _ = false from HSV.out.trans (by rw [e0, e1, e2, e3, e4, e5, e6, e7]; rfl))
                        go_wp2
                        go_ret
                        exact ⟨bool_row (listSame_no (by rw [HL1.out]; exact hlt) (HE.out.trans HV.out)).symm, HBA.out⟩
                      · have g7 : (vo != vo') = false := by rw [bne, e7]; rfl
                        cases W
                        ·
                          have HV := Hid.in_ (show VotR.same _ _ = false from HSV.out.trans (by rw [e0, e1, e2, e3, e4, e5, e6, e7]; rfl))
                          go_wp2_with fail
                          refine HS.out.mono ?_
                          rintro e w2 ⟨rfl, hb2⟩
                          have HB2 := Hid.in_ (bstep HBA.out hb2)
                          clear hb2
                          go_wp2
                          go_ret
                          exact ⟨bool_row (listSame_no (by rw [HL1.out]; exact hlt) (HE.out.trans HV.out)).symm, HB2.out⟩
                        ·
                          have HV := Hid.in_ (show VotR.same _ _ = true from HSV.out.trans (by rw [e0, e1, e2, e3, e4, e5, e6, e7]; rfl))
                          go_wp2_with fail
                          refine HS.out.mono ?_
                          rintro e w2 ⟨rfl, hb2⟩
                          have HB2 := Hid.in_ (bstep HBA.out hb2)
                          clear hb2
                          go_wp2
                          have hk := HK.out
                          go_roundg (gk - 1)
                          case measure => omega
                          case rel => exact ⟨k + 1, by omega, by go_num, all_next HA.out (HE.out.trans HV.out), HB2.out⟩
      · have hk := HK.out
        obtain rfl : k = n1 := by omega
        go_wp2
        go_ret
        exact ⟨bool_row (listSame_all (by rw [HL1.out, HL2.out]) (by rw [HL1.out]; exact HA.out)).symm, HB.out⟩
  · have HN := Hid.in_ (show ¬ (l1.map VotO.r).length = (l2.map VotO.r).length by rw [HL1.out, HL2.out]; omega)
    go_enter Try.func18, Try.ntmps18
    go_wp2
    go_ret
    exact ⟨bool_row (listSame_len HN.out).symm, Below.refl _ _⟩
end Go.Proofs.Ytlelgpknkgjaeaa
