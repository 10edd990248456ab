/- The marks of records that hold one string: 'markSectorSpecS', 'heldSectorSpecS', 'markFoundS'. -/
import Derived.Test.YtlelgpknkgjaeaaMarkT
import Derived.Test.YtlelgpknkgjaeaaRecF
import Derived.StillTailTactics
namespace Go.Proofs.Ytlelgpknkgjaeaa
open Go.ChangeShapes Go.WideShapes Go.ChangeAt Go.RowKit
set_option linter.unusedVariables false
set_option linter.unusedSimpArgs false
set_option maxRecDepth 4000

theorem setL_app : ∀ (a b : List Value) (o : Nat) (xs : List Value), setL (setL xs o a) (o + a.length) b = setL xs o (a ++ b)
  | [], b, o, xs => rfl
  | v :: a, b, o, xs => by
    show setL (setL (xs.set o v) (o + 1) a) (o + (a.length + 1)) b = setL (xs.set o v) (o + 1) (a ++ b)
    rw [← setL_app a b (o + 1) (xs.set o v), show o + 1 + a.length = o + (a.length + 1) by omega]
theorem setL_len : ∀ (vs : List Value) (o : Nat) (xs : List Value), (setL xs o vs).length = xs.length
  | [], _, _ => rfl
  | v :: vs, o, xs => by
    show (setL (xs.set o v) (o + 1) vs).length = _
    rw [setL_len vs (o + 1) (xs.set o v), List.length_set]
def mod3 (q : Nat) : Bool := decide (q % 3 = 0)

def SecR.mark (k : Nat) : SecR := ⟨((k : Nat) : Int), ((k + 1 : Nat) : Int), ((k + 2 : Nat) : Int), ((k + 3 : Nat) : Int), markT (k + 4), mod3 (k + 5), mod3 (k + 6), mod3 (k + 7)⟩
def SecR.marks (k : Nat) (n : Nat) : List SecR := (List.range n).map fun (i : Nat) => SecR.mark (k + 8 * i)
theorem SecR.marks_len (k n : Nat) : (SecR.marks k n).length = n := by simp [SecR.marks]
theorem SecR.marks_get (k n i : Nat) (h : i < n) : (SecR.marks k n)[i]? = some (SecR.mark (k + 8 * i)) := by simp [SecR.marks, h]
theorem SecR.marks_succ (k n : Nat) : SecR.marks k (n + 1) = SecR.marks k n ++ [SecR.mark (k + 8 * n)] := by simp [SecR.marks, List.range_succ]
theorem SecR.marks_step (m : Nat) (k : Nat) (l : List SecR) (hk : k < l.length) : (SecR.marks m k ++ l.drop k).set k (SecR.mark (m + 8 * k)) = SecR.marks m (k + 1) ++ l.drop (k + 1) := by
  have h3 : l.drop k = l[k] :: l.drop (k + 1) := List.drop_eq_getElem_cons hk
  rw [SecR.marks_succ, h3, List.set_append_right _ _ (by rw [SecR.marks_len]; omega), SecR.marks_len, Nat.sub_self, List.set_cons_zero]
  simp only [List.append_assoc, List.cons_append, List.nil_append]
theorem SecR.mark_cells {k q : Nat} {S : ByteArray} {b5 b6 b7 : Bool} (hS : markT (k + 4) = S) (h5 : mod3 (k + 5) = b5) (h6 : mod3 (k + 6) = b6) (h7 : mod3 (k + 7) = b7) (hq : k = q) : SecR.cells (SecR.mark k) = [.int .i64 ((q : Int)), .int .i64 ((q : Int) + 1), .int .i64 ((q : Int) + 2), .int .i64 ((q : Int) + 3)] ++ [.string S, .bool b5, .bool b6, .bool b7] := by
  subst hq hS h5 h6 h7
  rfl
theorem mod3_at {q i : Nat} {b : Bool} {x : Int} (hx : x = (q : Int) + (i : Int)) (h : mod3 (q + i) = b) : ((x % 3 == 0) = b) := by
  subst hx
  unfold mod3 at h
  rw [← h, Bool.eq_iff_iff, beq_iff_eq, decide_eq_true_iff]
  omega
set_option maxHeartbeats 4000000 in
theorem laws_markSectorSpecS {v : Value} {n b : Nat} {l : List SecR} (m : Nat) (w : World) (h : w.ownsRow b 85 8 v n (l.flatMap SecR.cells)) (hm : 0 < m) (hm2 : m ≤ 16777216) (hn2 : n ≤ 1048576) :
    Calls Try.prog 65 #[v, .int .i64 m] w fun e w' => e = .returned (.int .i64 ((m + 8 * n : Nat) : Int)) ∧ w'.ownsRow b 85 8 v n ((SecR.marks m n).flatMap SecR.cells) ∧ w.grownBy w' v.ownBlock := by
  have hlx : l.length = n := by have := h.1; rw [flat_len SecR.len] at this; omega
  obtain ⟨A, c, rfl, hl, hn, hA⟩ := own_shape h
  have HX := Hid.in_ hlx
  have H0 := Hid.in_ h
  clear hA hl h hlx
  go_enter Try.func65, Try.ntmps65
  go_wp2
  go_loopg [1, 5] n (fun r m' i wr => ∃ k q : Nat, k + r = n ∧ q = m + 8 * k ∧ i = .int .i64 k ∧ m' = .int .i64 q ∧ Hid (wr.ownsRow b 85 8 (.slice A n c) n ((SecR.marks m k ++ l.drop k).flatMap SecR.cells) ∧ w.grownBy wr (Value.slice A n c).ownBlock))
  case atStart => exact ⟨0, m, by omega, by omega, rfl, rfl, by simpa [SecR.marks] using H0.out, World.grownBy.refl _ _⟩
  case round =>
    obtain ⟨k, q, hkm, hq, rfl, rfl, HO⟩ := hrel
    have HK := Hid.in_ (And.intro hkm hq)
    by_cases hlt : k < n
    · obtain ⟨A', c', hv, hl', _, hA'⟩ := own_shape HO.out.1
      obtain ⟨g, hg, _, _, hx, hfz⟩ := hA' (by omega)
      obtain ⟨rfl, rfl⟩ : A = A' ∧ c = c' := by injection hv with h1 h2 h3; exact ⟨h1, h3⟩
      subst hg
      have hlen : k < (SecR.marks m k ++ l.drop k).length := by rw [List.length_append, SecR.marks_len, List.length_drop, HX.out]; omega
      obtain ⟨y, hy⟩ := get_lt _ k hlen
      obtain ⟨c0, c1, c2, c3, c4, c5, c6, c7⟩ := boxAt8 (Box.elem SecR.len hx hy)
      have f0 := hfz (k * 8)
      have f1 := hfz (k * 8 + 1)
      have f2 := hfz (k * 8 + 2)
      have f3 := hfz (k * 8 + 3)
      have hqb : q ≤ 33554432 := by omega
      have hS := own_setCells [.int .i64 ((q : Int)), .int .i64 ((q : Int) + 1), .int .i64 ((q : Int) + 2), .int .i64 ((q : Int) + 3)] (k * 8) HO.out.1
      have HS1 := Hid.in_ hS.1
      have HG1 := Hid.in_ (World.grownBy.trans (show w.grownBy wr (some g) from HO.out.2) hS.2)
      have HLN := Hid.in_ hlen
      clear hS hx hfz hy hv hl' HO hA' hlen hkm hq
      go_wp2_with fail
      refine (show Calls Try.prog 48 #[.int .i64 ((q : Int) + 4)] _ _ from laws_markText (q + 4) _ (by omega) (by omega)).mono ?_
      rintro e w2 ⟨rfl, hb2⟩
      have HS2 := Hid.in_ (ostep hb2 HS1.out)
      have HG2 := Hid.in_ (HG1.out.trans (grown_below hb2 _))
      clear hb2 HS1 HG1 c0 c1 c2 c3 c4 c5 c6 c7 f0 f1 f2 f3
      obtain ⟨A', c', hv, hl', _, hA'⟩ := own_shape HS2.out
      obtain ⟨g', hg, _, _, hx2, hfz2⟩ := hA' (by omega)
      obtain ⟨rfl, rfl⟩ : some ⟨g, 0, none⟩ = A' ∧ c = c' := by injection hv with h1 h2 h3; exact ⟨h1, h3⟩
      obtain rfl : g = g' := by injection hg with h1; injection h1
      have hlen := HLN.out
      obtain ⟨u4, hu4⟩ := get_lt (setL ((SecR.marks m k ++ l.drop k).flatMap SecR.cells) (k * 8) [.int .i64 ((q : Int)), .int .i64 ((q : Int) + 1), .int .i64 ((q : Int) + 2), .int .i64 ((q : Int) + 3)]) (k * 8 + 4) (by rw [setL_len, flat_len SecR.len]; omega)
      have d4 := hx2 (k * 8 + 4) _ hu4
      obtain ⟨u5, hu5⟩ := get_lt (setL ((SecR.marks m k ++ l.drop k).flatMap SecR.cells) (k * 8) [.int .i64 ((q : Int)), .int .i64 ((q : Int) + 1), .int .i64 ((q : Int) + 2), .int .i64 ((q : Int) + 3)]) (k * 8 + 5) (by rw [setL_len, flat_len SecR.len]; omega)
      have d5 := hx2 (k * 8 + 5) _ hu5
      obtain ⟨u6, hu6⟩ := get_lt (setL ((SecR.marks m k ++ l.drop k).flatMap SecR.cells) (k * 8) [.int .i64 ((q : Int)), .int .i64 ((q : Int) + 1), .int .i64 ((q : Int) + 2), .int .i64 ((q : Int) + 3)]) (k * 8 + 6) (by rw [setL_len, flat_len SecR.len]; omega)
      have d6 := hx2 (k * 8 + 6) _ hu6
      obtain ⟨u7, hu7⟩ := get_lt (setL ((SecR.marks m k ++ l.drop k).flatMap SecR.cells) (k * 8) [.int .i64 ((q : Int)), .int .i64 ((q : Int) + 1), .int .i64 ((q : Int) + 2), .int .i64 ((q : Int) + 3)]) (k * 8 + 7) (by rw [setL_len, flat_len SecR.len]; omega)
      have d7 := hx2 (k * 8 + 7) _ hu7
      have f4 := hfz2 (k * 8 + 4)
      have f5 := hfz2 (k * 8 + 5)
      have f6 := hfz2 (k * 8 + 6)
      have f7 := hfz2 (k * 8 + 7)
      obtain ⟨S, hS⟩ : ∃ S, markT (q + 4) = S := ⟨_, rfl⟩
      rw [hS]
      obtain ⟨b5, hb5⟩ : ∃ b, mod3 (q + 5) = b := ⟨_, rfl⟩
      have e5 := mod3_at (q := q) (i := 5) (x := (q : Int) + 1 + 1 + 1 + 1 + 1) (by omega) hb5
      obtain ⟨b6, hb6⟩ : ∃ b, mod3 (q + 6) = b := ⟨_, rfl⟩
      have e6 := mod3_at (q := q) (i := 6) (x := (q : Int) + 1 + 1 + 1 + 1 + 1 + 1) (by omega) hb6
      obtain ⟨b7, hb7⟩ : ∃ b, mod3 (q + 7) = b := ⟨_, rfl⟩
      have e7 := mod3_at (q := q) (i := 7) (x := (q : Int) + 1 + 1 + 1 + 1 + 1 + 1 + 1) (by omega) hb7
      have hT := own_setCells [.string S, .bool b5, .bool b6, .bool b7] (k * 8 + 4) HS2.out
      have hSQ := setL_app [.int .i64 ((q : Int)), .int .i64 ((q : Int) + 1), .int .i64 ((q : Int) + 2), .int .i64 ((q : Int) + 3)] [.string S, .bool b5, .bool b6, .bool b7] (k * 8) ((SecR.marks m k ++ l.drop k).flatMap SecR.cells)
      have hE := setL_flat SecR.len (SecR.mark q) (SecR.marks m k ++ l.drop k) k hlen
      rw [SecR.mark_cells hS hb5 hb6 hb7 rfl, ← hSQ, show q = m + 8 * k from HK.out.2, SecR.marks_step m k l (by rw [HX.out]; exact hlt), ← HK.out.2] at hE
      have HO2 : Hid (_ ∧ _) := And.intro (show (setCells w2 g (k * 8 + 4) [.string S, .bool b5, .bool b6, .bool b7]).ownsRow b 85 8 (.slice (some ⟨g, 0, none⟩) n c) n ((SecR.marks m (k + 1) ++ l.drop (k + 1)).flatMap SecR.cells) from by have h := hT.1; rw [show k * 8 + 4 = k * 8 + ([.int .i64 ((q : Int)), .int .i64 ((q : Int) + 1), .int .i64 ((q : Int) + 2), .int .i64 ((q : Int) + 3)] : List Value).length from rfl, hE] at h; exact h) (World.grownBy.trans HG2.out hT.2)
      clear hT hSQ hE hx2 hfz2 hv hl' hA' hlen hS HS2 HG2 HLN hb5 hb6 hb7
      go_wp2
      have hk := HK.out
      go_roundg (gk - 1)
      case measure => omega
      case rel => exact ⟨k + 1, q + 8, by omega, by omega, by go_num, by go_num, HO2⟩
    · have hk := HK.out
      obtain rfl : k = n := by omega
      have HE : Hid (wr.ownsRow b 85 8 (.slice A k c) k ((SecR.marks m k).flatMap SecR.cells) ∧ w.grownBy wr (Value.slice A k c).ownBlock) := by
        have := HO.out
        rw [List.drop_of_length_le (by rw [HX.out]; exact Nat.le_refl _), List.append_nil] at this
        exact this
      have hqq := hk.2
      clear HO
      go_wp2
      go_ret
      exact ⟨show Ending.returned (.int .i64 ((q : Nat) : Int)) = _ by rw [hqq], HE.out⟩
set_option maxHeartbeats 4000000 in
theorem laws_heldSectorSpecS {v : Value} {n b : Nat} (m : Nat) (w : World) (h : w.ownsRow b 85 8 v n ((SecR.marks m n).flatMap SecR.cells)) (hm : 0 < m) (hm2 : m ≤ 16777216) (hn2 : n ≤ 1048576) :
    Calls Try.prog 66 #[v, .int .i64 m] w fun e w' => e = .returned (.int .i64 ((m + 8 * n : Nat) : Int)) ∧ Below w.heap.size w w' := by
  obtain ⟨A, c, rfl, hl, hn, hA⟩ := own_shape h
  have H1 := Hid.in_ hA
  clear hA hl h
  go_enter Try.func66, Try.ntmps66
  go_wp2
  go_loopg [1, 5] n (fun r m' i wr => ∃ k q : Nat, k + r = n ∧ q = m + 8 * k ∧ i = .int .i64 k ∧ m' = .int .i64 q ∧ Hid (Below w.heap.size w wr))
  case atStart => exact ⟨0, m, by omega, by omega, rfl, rfl, Below.refl _ _⟩
  case round =>
    obtain ⟨k, q, hkm, hq, rfl, rfl, HB⟩ := hrel
    have HK := Hid.in_ (And.intro hkm hq)
    by_cases hlt : k < n
    · obtain ⟨g, rfl, _, _, hx, _⟩ := H1.out (by omega)
      have hB := (Box.elem SecR.len hx (SecR.marks_get m n k hlt)).step HB.out
      obtain ⟨c0, c1, c2, c3, c4, c5, c6, c7⟩ := boxAt8 hB
      rw [← hq] at c0 c1 c2 c3 c4 c5 c6 c7
      simp only [SecR.mark] at c0 c1 c2 c3 c4 c5 c6 c7
      have hqb : q ≤ 33554432 := by omega
      have HM := Hid.in_ (fun w => show Calls Try.prog 48 #[.int .i64 ((q : Int) + 1 + 1 + 1 + 1)] w _ from laws_markText (q + 4) w (by omega) (by omega))
      obtain ⟨S, hS⟩ : ∃ S, markT (q + 4) = S := ⟨_, rfl⟩
      rw [hS] at HM c4
      obtain ⟨b5, hb5⟩ : ∃ b, mod3 (q + 5) = b := ⟨_, rfl⟩
      have e5 := mod3_at (q := q) (i := 5) (x := (q : Int) + 1 + 1 + 1 + 1 + 1) (by omega) hb5
      obtain ⟨b6, hb6⟩ : ∃ b, mod3 (q + 6) = b := ⟨_, rfl⟩
      have e6 := mod3_at (q := q) (i := 6) (x := (q : Int) + 1 + 1 + 1 + 1 + 1 + 1) (by omega) hb6
      obtain ⟨b7, hb7⟩ : ∃ b, mod3 (q + 7) = b := ⟨_, rfl⟩
      have e7 := mod3_at (q := q) (i := 7) (x := (q : Int) + 1 + 1 + 1 + 1 + 1 + 1 + 1) (by omega) hb7
      have c0 : wr.cell? _ = some (.int .i64 ((q : Int))) := c0
      have c1 : wr.cell? _ = some (.int .i64 ((q : Int) + 1)) := c1
      have c2 : wr.cell? _ = some (.int .i64 ((q : Int) + 1 + 1)) := c2
      have c3 : wr.cell? _ = some (.int .i64 ((q : Int) + 1 + 1 + 1)) := c3
      rw [hb5] at c5
      rw [hb6] at c6
      rw [hb7] at c7
      have HC := Hid.in_ c4
      have HC5 := Hid.in_ c5
      have HC6 := Hid.in_ c6
      have HC7 := Hid.in_ c7
      clear hx hB hkm hq hS hb5 hb6 hb7 c5 c6 c7
      go_wp2_with fail
      go_region_with (go_at_call 48; refine (HM.out _).mono ?_; rintro e w2 ⟨rfl, hb2⟩; have hb2' := ((Below.refl wr.heap.size wr).drew).trans hb2; have c4 := cstep hb2' HC.out)
      all_goals
        have d5 := cstep hb2' HC5.out
        have d6 := cstep hb2' HC6.out
        have d7 := cstep hb2' HC7.out
        go_wp2
        have hk := HK.out
        go_roundg (gk - 1)
        case measure => omega
        case rel => exact ⟨k + 1, q + 8, by omega, by omega, by go_num, by go_num, HB.out.trans (hb2'.mono HB.out.size)⟩
    · have hk := HK.out
      obtain rfl : k = n := by omega
      have hqq := hk.2
      go_wp2
      go_ret
      exact ⟨show Ending.returned (.int .i64 ((q : Nat) : Int)) = _ by rw [hqq], HB.out⟩
def FndR.mark (k : Nat) : FndR := ⟨((k : Nat) : Int), ((k + 1 : Nat) : Int), ((k + 2 : Nat) : Int), ((k + 3 : Nat) : Int), markT (k + 4), ((k + 5 : Nat) : Int), mod3 (k + 6), ((k + 7 : Nat) : Int)⟩
def FndR.marks (k : Nat) (n : Nat) : List FndR := (List.range n).map fun (i : Nat) => FndR.mark (k + 8 * i)
theorem FndR.marks_len (k n : Nat) : (FndR.marks k n).length = n := by simp [FndR.marks]
theorem FndR.marks_get (k n i : Nat) (h : i < n) : (FndR.marks k n)[i]? = some (FndR.mark (k + 8 * i)) := by simp [FndR.marks, h]
theorem FndR.marks_succ (k n : Nat) : FndR.marks k (n + 1) = FndR.marks k n ++ [FndR.mark (k + 8 * n)] := by simp [FndR.marks, List.range_succ]
theorem FndR.marks_step (m : Nat) (k : Nat) (l : List FndR) (hk : k < l.length) : (FndR.marks m k ++ l.drop k).set k (FndR.mark (m + 8 * k)) = FndR.marks m (k + 1) ++ l.drop (k + 1) := by
  have h3 : l.drop k = l[k] :: l.drop (k + 1) := List.drop_eq_getElem_cons hk
  rw [FndR.marks_succ, h3, List.set_append_right _ _ (by rw [FndR.marks_len]; omega), FndR.marks_len, Nat.sub_self, List.set_cons_zero]
  simp only [List.append_assoc, List.cons_append, List.nil_append]
theorem FndR.mark_cells {k q : Nat} {S : ByteArray} {b6 : Bool} (hS : markT (k + 4) = S) (h6 : mod3 (k + 6) = b6) (hq : k = q) : FndR.cells (FndR.mark k) = [.int .i64 ((q : Int)), .int .i64 ((q : Int) + 1), .int .i64 ((q : Int) + 2), .int .i64 ((q : Int) + 3)] ++ [.string S, .int .i64 ((q : Int) + 5), .bool b6, .int .i64 ((q : Int) + 7)] := by
  subst hq hS h6
  rfl
set_option maxHeartbeats 4000000 in
theorem laws_markFoundS {v : Value} {n b : Nat} {l : List FndR} (m : Nat) (w : World) (h : w.ownsRow b 128 8 v n (l.flatMap FndR.cells)) (hm : 0 < m) (hm2 : m ≤ 16777216) (hn2 : n ≤ 1048576) :
    Calls Try.prog 79 #[v, .int .i64 m] w fun e w' => e = .returned (.int .i64 ((m + 8 * n : Nat) : Int)) ∧ w'.ownsRow b 128 8 v n ((FndR.marks m n).flatMap FndR.cells) ∧ w.grownBy w' v.ownBlock := by
  have hlx : l.length = n := by have := h.1; rw [flat_len FndR.len] at this; omega
  obtain ⟨A, c, rfl, hl, hn, hA⟩ := own_shape h
  have HX := Hid.in_ hlx
  have H0 := Hid.in_ h
  clear hA hl h hlx
  go_enter Try.func79, Try.ntmps79
  go_wp2
  go_loopg [1, 5] n (fun r m' i wr => ∃ k q : Nat, k + r = n ∧ q = m + 8 * k ∧ i = .int .i64 k ∧ m' = .int .i64 q ∧ Hid (wr.ownsRow b 128 8 (.slice A n c) n ((FndR.marks m k ++ l.drop k).flatMap FndR.cells) ∧ w.grownBy wr (Value.slice A n c).ownBlock))
  case atStart => exact ⟨0, m, by omega, by omega, rfl, rfl, by simpa [FndR.marks] using H0.out, World.grownBy.refl _ _⟩
  case round =>
    obtain ⟨k, q, hkm, hq, rfl, rfl, HO⟩ := hrel
    have HK := Hid.in_ (And.intro hkm hq)
    by_cases hlt : k < n
    · obtain ⟨A', c', hv, hl', _, hA'⟩ := own_shape HO.out.1
      obtain ⟨g, hg, _, _, hx, hfz⟩ := hA' (by omega)
      obtain ⟨rfl, rfl⟩ : A = A' ∧ c = c' := by injection hv with h1 h2 h3; exact ⟨h1, h3⟩
      subst hg
      have hlen : k < (FndR.marks m k ++ l.drop k).length := by rw [List.length_append, FndR.marks_len, List.length_drop, HX.out]; omega
      obtain ⟨y, hy⟩ := get_lt _ k hlen
      obtain ⟨c0, c1, c2, c3, c4, c5, c6, c7⟩ := boxAt8 (Box.elem FndR.len hx hy)
      have f0 := hfz (k * 8)
      have f1 := hfz (k * 8 + 1)
      have f2 := hfz (k * 8 + 2)
      have f3 := hfz (k * 8 + 3)
      have hqb : q ≤ 33554432 := by omega
      have hS := own_setCells [.int .i64 ((q : Int)), .int .i64 ((q : Int) + 1), .int .i64 ((q : Int) + 2), .int .i64 ((q : Int) + 3)] (k * 8) HO.out.1
      have HS1 := Hid.in_ hS.1
      have HG1 := Hid.in_ (World.grownBy.trans (show w.grownBy wr (some g) from HO.out.2) hS.2)
      have HLN := Hid.in_ hlen
      clear hS hx hfz hy hv hl' HO hA' hlen hkm hq
      go_wp2_with fail
      refine (show Calls Try.prog 48 #[.int .i64 ((q : Int) + 4)] _ _ from laws_markText (q + 4) _ (by omega) (by omega)).mono ?_
      rintro e w2 ⟨rfl, hb2⟩
      have HS2 := Hid.in_ (ostep hb2 HS1.out)
      have HG2 := Hid.in_ (HG1.out.trans (grown_below hb2 _))
      clear hb2 HS1 HG1 c0 c1 c2 c3 c4 c5 c6 c7 f0 f1 f2 f3
      obtain ⟨A', c', hv, hl', _, hA'⟩ := own_shape HS2.out
      obtain ⟨g', hg, _, _, hx2, hfz2⟩ := hA' (by omega)
      obtain ⟨rfl, rfl⟩ : some ⟨g, 0, none⟩ = A' ∧ c = c' := by injection hv with h1 h2 h3; exact ⟨h1, h3⟩
      obtain rfl : g = g' := by injection hg with h1; injection h1
      have hlen := HLN.out
      obtain ⟨u4, hu4⟩ := get_lt (setL ((FndR.marks m k ++ l.drop k).flatMap FndR.cells) (k * 8) [.int .i64 ((q : Int)), .int .i64 ((q : Int) + 1), .int .i64 ((q : Int) + 2), .int .i64 ((q : Int) + 3)]) (k * 8 + 4) (by rw [setL_len, flat_len FndR.len]; omega)
      have d4 := hx2 (k * 8 + 4) _ hu4
      obtain ⟨u5, hu5⟩ := get_lt (setL ((FndR.marks m k ++ l.drop k).flatMap FndR.cells) (k * 8) [.int .i64 ((q : Int)), .int .i64 ((q : Int) + 1), .int .i64 ((q : Int) + 2), .int .i64 ((q : Int) + 3)]) (k * 8 + 5) (by rw [setL_len, flat_len FndR.len]; omega)
      have d5 := hx2 (k * 8 + 5) _ hu5
      obtain ⟨u6, hu6⟩ := get_lt (setL ((FndR.marks m k ++ l.drop k).flatMap FndR.cells) (k * 8) [.int .i64 ((q : Int)), .int .i64 ((q : Int) + 1), .int .i64 ((q : Int) + 2), .int .i64 ((q : Int) + 3)]) (k * 8 + 6) (by rw [setL_len, flat_len FndR.len]; omega)
      have d6 := hx2 (k * 8 + 6) _ hu6
      obtain ⟨u7, hu7⟩ := get_lt (setL ((FndR.marks m k ++ l.drop k).flatMap FndR.cells) (k * 8) [.int .i64 ((q : Int)), .int .i64 ((q : Int) + 1), .int .i64 ((q : Int) + 2), .int .i64 ((q : Int) + 3)]) (k * 8 + 7) (by rw [setL_len, flat_len FndR.len]; omega)
      have d7 := hx2 (k * 8 + 7) _ hu7
      have f4 := hfz2 (k * 8 + 4)
      have f5 := hfz2 (k * 8 + 5)
      have f6 := hfz2 (k * 8 + 6)
      have f7 := hfz2 (k * 8 + 7)
      obtain ⟨S, hS⟩ : ∃ S, markT (q + 4) = S := ⟨_, rfl⟩
      rw [hS]
      obtain ⟨b6, hb6⟩ : ∃ b, mod3 (q + 6) = b := ⟨_, rfl⟩
      have e6 := mod3_at (q := q) (i := 6) (x := (q : Int) + 1 + 1 + 1 + 1 + 1 + 1) (by omega) hb6
      have hT := own_setCells [.string S, .int .i64 ((q : Int) + 5), .bool b6, .int .i64 ((q : Int) + 7)] (k * 8 + 4) HS2.out
      have hSQ := setL_app [.int .i64 ((q : Int)), .int .i64 ((q : Int) + 1), .int .i64 ((q : Int) + 2), .int .i64 ((q : Int) + 3)] [.string S, .int .i64 ((q : Int) + 5), .bool b6, .int .i64 ((q : Int) + 7)] (k * 8) ((FndR.marks m k ++ l.drop k).flatMap FndR.cells)
      have hE := setL_flat FndR.len (FndR.mark q) (FndR.marks m k ++ l.drop k) k hlen
      rw [FndR.mark_cells hS hb6 rfl, ← hSQ, show q = m + 8 * k from HK.out.2, FndR.marks_step m k l (by rw [HX.out]; exact hlt), ← HK.out.2] at hE
      have HO2 : Hid (_ ∧ _) := And.intro (show (setCells w2 g (k * 8 + 4) [.string S, .int .i64 ((q : Int) + 5), .bool b6, .int .i64 ((q : Int) + 7)]).ownsRow b 128 8 (.slice (some ⟨g, 0, none⟩) n c) n ((FndR.marks m (k + 1) ++ l.drop (k + 1)).flatMap FndR.cells) from by have h := hT.1; rw [show k * 8 + 4 = k * 8 + ([.int .i64 ((q : Int)), .int .i64 ((q : Int) + 1), .int .i64 ((q : Int) + 2), .int .i64 ((q : Int) + 3)] : List Value).length from rfl, hE] at h; exact h) (World.grownBy.trans HG2.out hT.2)
      clear hT hSQ hE hx2 hfz2 hv hl' hA' hlen hS HS2 HG2 HLN hb6
      go_wp2
      have hk := HK.out
      go_roundg (gk - 1)
      case measure => omega
      case rel => exact ⟨k + 1, q + 8, by omega, by omega, by go_num, by go_num, HO2⟩
    · have hk := HK.out
      obtain rfl : k = n := by omega
      have HE : Hid (wr.ownsRow b 128 8 (.slice A k c) k ((FndR.marks m k).flatMap FndR.cells) ∧ w.grownBy wr (Value.slice A k c).ownBlock) := by
        have := HO.out
        rw [List.drop_of_length_le (by rw [HX.out]; exact Nat.le_refl _), List.append_nil] at this
        exact this
      have hqq := hk.2
      clear HO
      go_wp2
      go_ret
      exact ⟨show Ending.returned (.int .i64 ((q : Nat) : Int)) = _ by rw [hqq], HE.out⟩
end Go.Proofs.Ytlelgpknkgjaeaa
