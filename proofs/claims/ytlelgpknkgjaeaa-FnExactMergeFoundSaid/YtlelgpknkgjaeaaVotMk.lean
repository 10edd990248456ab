/- The marks of rows of voted sectors: 'markVotedS', 'heldVotedS'. -/
import Derived.Test.YtlelgpknkgjaeaaVots
import Derived.Test.YtlelgpknkgjaeaaTch
import Derived.Test.YtlelgpknkgjaeaaMkS
namespace Go.Proofs.Ytlelgpknkgjaeaa
open Go.ChangeShapes Go.WideShapes Go.ChangeAt Go.RowKit
set_option linter.unusedSimpArgs false
set_option linter.unusedVariables false
set_option maxRecDepth 8000

def VotR.zero : VotR := ⟨0, 0, 0, 0, ⟨#[]⟩, 0, false, [], 0⟩
def VotR.mark (q len : Nat) : VotR := ⟨((q : Nat) : Int), ((q + 1 : Nat) : Int), ((q + 2 : Nat) : Int), ((q + 3 : Nat) : Int), markT (q + 4), ((q + 5 : Nat) : Int), mod3 (q + 6), marks ((q + 7 : Nat) : Int) len, ((q + 7 + len : Nat) : Int)⟩
def vAt (l : List VotR) (j : Nat) : VotR := l.getD j VotR.zero
theorem vAt_eq {l : List VotR} {j : Nat} {m : VotR} (h : l[j]? = some m) : vAt l j = m := by unfold vAt; rw [List.getD_eq_getElem?_getD, h]; rfl
def posAt (m : Nat) (l : List VotR) (k : Nat) : Nat := m + 8 * k + sumTo l k
def mkVAt (m : Nat) (l : List VotR) (j : Nat) : VotR := VotR.mark (posAt m l j) (vAt l j).l.length
def mkTo (m : Nat) (l : List VotR) (k : Nat) : List VotR := (List.range k).map (mkVAt m l) ++ l.drop k
theorem posAt_next {m : Nat} {l : List VotR} {k : Nat} {r : VotR} (h : l[k]? = some r) : posAt m l (k + 1) = posAt m l k + 8 + r.l.length := by
  unfold posAt
  rw [sumTo_next h]
  omega
theorem sumTo_mono (l : List VotR) : ∀ (n k : Nat), k ≤ n → n ≤ l.length → sumTo l k ≤ sumTo l n
  | 0, k, h, _ => by
    obtain rfl : k = 0 := by omega
    exact Nat.le_refl _
  | n + 1, k, h, hn => by
    rcases Nat.lt_or_ge k (n + 1) with h1 | h1
    · obtain ⟨r, hr⟩ := get_lt l n (by omega)
      rw [sumTo_next hr]
      have := sumTo_mono l n k (by omega) (by omega)
      omega
    · obtain rfl : k = n + 1 := by omega
      exact Nat.le_refl _
theorem sumTo_le {l : List VotR} {n : Nat} (h : l.length = n) : ∀ k, k ≤ n → sumTo l k ≤ sumTo l n := fun k hk => sumTo_mono l n k hk (by omega)
theorem mkTo_zero (m : Nat) (l : List VotR) : mkTo m l 0 = l := by simp [mkTo]
theorem mkTo_len (m : Nat) (l : List VotR) {k : Nat} (h : k ≤ l.length) : (mkTo m l k).length = l.length := by unfold mkTo; rw [List.length_append, List.length_map, List.length_range, List.length_drop]; omega
theorem mkTo_at (m : Nat) (l : List VotR) {k : Nat} {r : VotR} (h : l[k]? = some r) : (mkTo m l k)[k]? = some r := by
  unfold mkTo
  rw [List.getElem?_append_right (by simp), List.length_map, List.length_range, Nat.sub_self, List.getElem?_drop, Nat.add_zero]
  exact h
theorem mkTo_step (m : Nat) (l : List VotR) {k : Nat} (h : k < l.length) : (mkTo m l k).set k (mkVAt m l k) = mkTo m l (k + 1) := by
  unfold mkTo
  rw [List.set_append_right _ _ (by simp), List.length_map, List.length_range, Nat.sub_self, List.drop_eq_getElem_cons h, List.set_cons_zero, List.range_succ, List.map_append]
  simp
theorem mkTo_got (m : Nat) (l : List VotR) {k j : Nat} (h : j < k) : (mkTo m l k)[j]? = some (mkVAt m l j) := by
  unfold mkTo
  rw [List.getElem?_append_left (by simpa using h), List.getElem?_map, List.getElem?_range h]
  rfl
theorem set_same {xs : List Value} {i : Nat} {v : Value} (h : xs[i]? = some v) : xs.set i v = xs := by
  apply List.ext_getElem?
  intro j
  by_cases hj : i = j
  · subst hj
    rw [List.getElem?_set_self (List.getElem?_eq_some_iff.1 h).1, h]
  · rw [List.getElem?_set_ne hj]
theorem setL_one (xs : List Value) (o : Nat) (v : Value) : setL xs o [v] = xs.set o v := rfl
/-- Element k of a row of records is marked: the other records stay. -/
theorem VRow.swap {w w' : World} {b k : Nat} {v : Value} {os : List VotO} {o : VotO} {r : VotR} (h : VRow w b v os) (hk : os[k]? = some o)
    (hrow : w'.ownsRow b 77 9 v os.length ((os.set k ⟨r, o.v⟩).flatMap VotO.cells)) (hne : 2 ≠ 77)
    (hw : ∀ p ∈ os, p.v.ownBlock = none ∨ p.v.ownBlock ≠ o.v.ownBlock → w'.ownsRow b 2 1 p.v p.r.l.length (I64 p.r.l)) (ho : w'.ownsRow b 2 1 o.v r.l.length (I64 r.l)) :
    VRow w' b v (os.set k ⟨r, o.v⟩) := by
  have hl : k < os.length := (List.getElem?_eq_some_iff.1 hk).1
  have hap : (os.set k ⟨r, o.v⟩).map VotO.v = os.map VotO.v := by
    apply List.ext_getElem?
    intro i
    rw [List.getElem?_map, List.getElem?_map]
    by_cases hi : k = i
    · subst hi
      rw [List.getElem?_set_self hl, hk]
      rfl
    · rw [List.getElem?_set_ne hi]
  have hpv : (os.map VotO.v).Pairwise fun a b => a.ownBlock = none ∨ a.ownBlock ≠ b.ownBlock := by rw [List.pairwise_map]; exact h.apart
  refine ⟨by rw [List.length_set]; exact hrow, fun p hp => ?_, ?_⟩
  · obtain ⟨i, hi⟩ := List.getElem?_of_mem hp
    by_cases hik : k = i
    · subst hik
      rw [List.getElem?_set_self hl] at hi
      injection hi with hi
      subst hi
      exact ho
    · rw [List.getElem?_set_ne hik] at hi
      refine hw p (List.mem_of_getElem? hi) ?_
      have hpw := List.pairwise_iff_getElem.1 h.apart
      have hil : i < os.length := (List.getElem?_eq_some_iff.1 hi).1
      have e1 : os[i] = p := by rw [List.getElem?_eq_getElem hil] at hi; injection hi
      have e2 : os[k] = o := by rw [List.getElem?_eq_getElem hl] at hk; injection hk
      rcases Nat.lt_or_gt_of_ne hik with h1 | h1
      · have := hpw k i hl hil h1
        rw [e1, e2] at this
        cases hpb : p.v.ownBlock with
        | none => exact .inl rfl
        | some q =>
          rcases this with h2 | h2
          · exact .inr (by rw [h2]; intro e; cases e)
          · exact .inr (by rw [← hpb]; exact fun e => h2 e.symm)
      · have := hpw i k hil hl h1
        rw [e1, e2] at this
        exact this
  · have : ((os.set k ⟨r, o.v⟩).map VotO.v).Pairwise fun a b => a.ownBlock = none ∨ a.ownBlock ≠ b.ownBlock := by rw [hap]; exact hpv
    rw [List.pairwise_map] at this
    exact this
def votT (t : TypeId) : Bool := t == 77 || t == 2
theorem votT_v : votT 77 = true := by decide
theorem votT_i : votT 2 = true := by decide
set_option maxHeartbeats 4000000 in
theorem laws_markVotedS {v : Value} {b n : Nat} {os : List VotO} {l : List VotR} (m : Nat) (w : World) (h : VRow w b v os) (hl : os.map VotO.r = l) (hn : l.length = n) (hm : 0 < m) (hm2 : m ≤ 16777216) (hn2 : n ≤ 1048576) (hs2 : sumTo l n ≤ 1048576) (hs3 : ∀ k, k ≤ n → sumTo l k ≤ sumTo l n) (hbw : b ≤ w.heap.size) :
    Calls Try.prog 32 #[v, .int .i64 m] w fun e w' => e = .returned (.int .i64 (posAt m l n : Nat)) ∧ (∃ os', os'.map VotO.r = mkTo m l n ∧ VRow w' b v os') ∧ Tch votT b w w' := by
  have hno : os.length = n := by rw [← hn, ← hl, List.length_map]
  obtain ⟨A, c, rfl, _, hcn, _⟩ := own_shape h.row
  rw [hno] at hcn ⊢
  have HX := Hid.in_ hn
  have H0 := Hid.in_ (show ∃ os', os'.map VotO.r = mkTo m l 0 ∧ VRow w b (.slice A n c) os' from ⟨os, by rw [mkTo_zero, hl], by rw [hno] at h; exact h⟩)
  have HP := Hid.in_ (show ∀ k, k ≤ n → posAt m l k ≤ 33554432 from fun k hk => by have := hs3 k hk; unfold posAt; omega)
  clear h hl hno hn hs2 hs3
  go_enter Try.func32, Try.ntmps32
  go_wp2
  go_loopg [1, 5] n (fun r m' i wr => ∃ k q : Nat, k + r = n ∧ Hid (q = posAt m l k) ∧ i = .int .i64 k ∧ m' = .int .i64 q ∧ Hid (∃ os', os'.map VotO.r = mkTo m l k ∧ VRow wr b (.slice A n c) os') ∧ Hid (Tch votT b w wr))
  case atStart => exact ⟨0, m, by omega, show m = posAt m l 0 by simp [posAt, sumTo], rfl, rfl, H0.out, Tch.refl _ _ _⟩
  case round =>
    obtain ⟨k, q, hkm, HQ, rfl, rfl, HO, HT⟩ := hrel
    have HK := Hid.in_ hkm
    clear hkm
    by_cases hlt : k < n
    · obtain ⟨os, hos, hV⟩ := HO.out
      have hno : os.length = n := by have := congrArg List.length hos; rw [List.length_map, mkTo_len m l (by rw [HX.out]; omega), HX.out] at this; exact this
      obtain ⟨⟨r, v⟩, hr⟩ := get_lt os k (by rw [hno]; exact hlt)
      have hlr : l[k]? = some r := by
        obtain ⟨r', hr'⟩ := get_lt l k (by rw [HX.out]; exact hlt)
        have h1 := mkTo_at m l hr'
        rw [← hos, List.getElem?_map, hr] at h1
        injection h1 with h1
        rw [hr', ← h1]
      have HPN := Hid.in_ (posAt_next (m := m) hlr)
      have HMA := Hid.in_ (show mkVAt m l k = VotR.mark q r.l.length by unfold mkVAt; rw [vAt_eq hlr, HQ.out])
      have hqb : q ≤ 33554432 := by rw [HQ.out]; exact HP.out k (by omega)
      have hrow := hV.row
      rw [hno] at hrow
      obtain ⟨A', c', hv, hl', _, hA'⟩ := own_shape hrow
      obtain ⟨g, hg, _, _, hx, hfz⟩ := hA' (by omega)
      obtain ⟨rfl, rfl⟩ : A = A' ∧ c = c' := by injection hv with h1 h2 h3; exact ⟨h1, h3⟩
      subst hg
      have hwk := hV.weak _ (List.mem_of_getElem? hr)
      obtain ⟨N, hN⟩ : ∃ N, r.l.length = N := ⟨_, rfl⟩
      change wr.ownsRow b 2 1 v r.l.length (I64 r.l) at hwk
      rw [hN] at hwk HPN HMA
      have hNb : N ≤ 33554432 := by have := HP.out (k + 1) (by omega); rw [HPN.out] at this; omega
      obtain ⟨A2, c2, rfl, _, _, _⟩ := own_shape hwk
      obtain ⟨x0, x1, x2, x3, x4, x5, x6, x7, x8⟩ := boxAt9 (Box.elem VotO.len hx hr)
      have f0 := hfz (k * 9)
      have f1 := hfz (k * 9 + 1)
      have f2 := hfz (k * 9 + 2)
      have f3 := hfz (k * 9 + 3)
      have hS := own_setCells [.int .i64 ((q : Int)), .int .i64 ((q : Int) + 1), .int .i64 ((q : Int) + 2), .int .i64 ((q : Int) + 3)] (k * 9) hrow
      have HS1 := Hid.in_ hS.1
      have HW1 := Hid.in_ (show ∀ p ∈ os, (setCells wr g (k * 9) [.int .i64 ((q : Int)), .int .i64 ((q : Int) + 1), .int .i64 ((q : Int) + 2), .int .i64 ((q : Int) + 3)]).ownsRow b 2 1 p.v p.r.l.length (I64 p.r.l) from fun p hp => kept_apart (by decide) (hV.weak p hp) hrow hS.2)
      have HWK1 := Hid.in_ (kept_apart (by decide) hwk hrow hS.2)
      have HT1 := Hid.in_ (HT.out.trans (Tch.of_grown hrow hS.2 votT_v (Nat.le_refl _) (by have := HT.out.size; omega)))
      have HV := Hid.in_ hV
      have HR := Hid.in_ hr
      have HOS := Hid.in_ hos
      have HNO := Hid.in_ hno
      clear hS hx hfz hr hv hl' hA' hrow hV hos hno hlr hwk HO
      go_wp2_with fail
      refine (show Calls Try.prog 48 #[.int .i64 ((q : Int) + 4)] _ _ from laws_markText (q + 4) _ (by have := HP.out 0 (by omega); omega) (by omega)).mono ?_
      rintro e w2 ⟨rfl, hb2⟩
      have HS2 := Hid.in_ (ostep hb2 HS1.out)
      have HW2 := Hid.in_ (fun p hp => ostep hb2 (HW1.out p hp))
      have HWK2 := Hid.in_ (ostep hb2 HWK1.out)
      have HT2 := Hid.in_ (HT1.out.trans (Tch.of_below hb2 (by have := HT1.out.size; exact Nat.le_trans hbw this)))
      clear hb2 HS1 HW1 HWK1 HT1 x0 x1 x2 x3 x4 x5 x6 x7 x8 f0 f1 f2 f3
      obtain ⟨A', c', hv, hl', _, hA'⟩ := own_shape HS2.out
      obtain ⟨g', hg, _, _, hx2, hfz2⟩ := hA' (by omega)
      obtain ⟨rfl, rfl⟩ : some ⟨g, 0, none⟩ = A' ∧ c = c' := by injection hv with h1 h2 h3; exact ⟨h1, h3⟩
      obtain rfl : g = g' := by injection hg with h1; injection h1
      have hxl : (setL (os.flatMap VotO.cells) (k * 9) [.int .i64 ((q : Int)), .int .i64 ((q : Int) + 1), .int .i64 ((q : Int) + 2), .int .i64 ((q : Int) + 3)]).length = n * 9 := by rw [setL_len, flat_len VotO.len, HNO.out]
      have hx7 : (setL (os.flatMap VotO.cells) (k * 9) [.int .i64 ((q : Int)), .int .i64 ((q : Int) + 1), .int .i64 ((q : Int) + 2), .int .i64 ((q : Int) + 3)])[k * 9 + 7]? = some (.slice A2 N c2) := by
        have h := flat_get VotO.len os k 7 _ HR.out (by omega)
        show (((((os.flatMap VotO.cells).set (k * 9) _).set (k * 9 + 1) _).set (k * 9 + 1 + 1) _).set (k * 9 + 1 + 1 + 1) _)[k * 9 + 7]? = _
        rw [List.getElem?_set_ne (by omega), List.getElem?_set_ne (by omega), List.getElem?_set_ne (by omega), List.getElem?_set_ne (by omega)]
        exact h
      obtain ⟨u4, hu4⟩ := get_lt (setL (os.flatMap VotO.cells) (k * 9) [.int .i64 ((q : Int)), .int .i64 ((q : Int) + 1), .int .i64 ((q : Int) + 2), .int .i64 ((q : Int) + 3)]) (k * 9 + 4) (by omega)
      have d4 := hx2 (k * 9 + 4) _ hu4
      obtain ⟨u5, hu5⟩ := get_lt (setL (os.flatMap VotO.cells) (k * 9) [.int .i64 ((q : Int)), .int .i64 ((q : Int) + 1), .int .i64 ((q : Int) + 2), .int .i64 ((q : Int) + 3)]) (k * 9 + 5) (by omega)
      have d5 := hx2 (k * 9 + 5) _ hu5
      obtain ⟨u6, hu6⟩ := get_lt (setL (os.flatMap VotO.cells) (k * 9) [.int .i64 ((q : Int)), .int .i64 ((q : Int) + 1), .int .i64 ((q : Int) + 2), .int .i64 ((q : Int) + 3)]) (k * 9 + 6) (by omega)
      have d6 := hx2 (k * 9 + 6) _ hu6
      have d7 := hx2 (k * 9 + 7) _ hx7
      have f4 := hfz2 (k * 9 + 4)
      have f5 := hfz2 (k * 9 + 5)
      have f6 := hfz2 (k * 9 + 6)
      obtain ⟨S, hS⟩ : ∃ S, markT (q + 4) = S := ⟨_, rfl⟩
      rw [hS]
      obtain ⟨b6, hb6⟩ : ∃ b, mod3 (q + 6) = b := ⟨_, rfl⟩
      have e6 := mod3_at (q := q) (i := 6) (x := (q : Int) + 1 + 1 + 1 + 1 + 1 + 1) (by omega) hb6
      have hT := own_setCells [.string S, .int .i64 ((q : Int) + 5), .bool b6] (k * 9 + 4) HS2.out
      have hx7' : (setL (setL (os.flatMap VotO.cells) (k * 9) [.int .i64 ((q : Int)), .int .i64 ((q : Int) + 1), .int .i64 ((q : Int) + 2), .int .i64 ((q : Int) + 3)]) (k * 9 + 4) [.string S, .int .i64 ((q : Int) + 5), .bool b6])[k * 9 + 7]? = some (.slice A2 N c2) := by
        show ((((setL (os.flatMap VotO.cells) (k * 9) [.int .i64 ((q : Int)), .int .i64 ((q : Int) + 1), .int .i64 ((q : Int) + 2), .int .i64 ((q : Int) + 3)]).set (k * 9 + 4) _).set (k * 9 + 4 + 1) _).set (k * 9 + 4 + 1 + 1) _)[k * 9 + 7]? = _
        rw [List.getElem?_set_ne (by omega), List.getElem?_set_ne (by omega), List.getElem?_set_ne (by omega)]
        exact hx7
      have hE := setL_flat VotO.len ⟨mkVAt m l k, .slice A2 N c2⟩ os k (by rw [HNO.out]; exact hlt)
      rw [HMA.out, show VotO.cells ⟨VotR.mark q N, .slice A2 N c2⟩ = [.int .i64 ((q : Int)), .int .i64 ((q : Int) + 1), .int .i64 ((q : Int) + 2), .int .i64 ((q : Int) + 3)] ++ ([.string S, .int .i64 ((q : Int) + 5), .bool b6] ++ ([.slice A2 N c2] ++ [.int .i64 ((q : Int) + 7 + N)])) from by subst hS hb6; rfl, ← setL_app, ← setL_app, ← setL_app] at hE
      rw [setL_one, setL_one] at hE
      have hE2 : (setL (setL (os.flatMap VotO.cells) (k * 9) [.int .i64 ((q : Int)), .int .i64 ((q : Int) + 1), .int .i64 ((q : Int) + 2), .int .i64 ((q : Int) + 3)]) (k * 9 + 4) [.string S, .int .i64 ((q : Int) + 5), .bool b6]).set (k * 9 + 7) (.slice A2 N c2) = setL (setL (os.flatMap VotO.cells) (k * 9) [.int .i64 ((q : Int)), .int .i64 ((q : Int) + 1), .int .i64 ((q : Int) + 2), .int .i64 ((q : Int) + 3)]) (k * 9 + 4) [.string S, .int .i64 ((q : Int) + 5), .bool b6] := set_same hx7'
      have HE := Hid.in_ (show (setL (setL (os.flatMap VotO.cells) (k * 9) [.int .i64 ((q : Int)), .int .i64 ((q : Int) + 1), .int .i64 ((q : Int) + 2), .int .i64 ((q : Int) + 3)]) (k * 9 + 4) [.string S, .int .i64 ((q : Int) + 5), .bool b6]).set (k * 9 + 8) (.int .i64 ((q : Int) + 7 + N)) = (os.set k ⟨VotR.mark q N, .slice A2 N c2⟩).flatMap VotO.cells from by rw [← hE, ← hE2]; rfl)
      have hxl3 : (setL (setL (os.flatMap VotO.cells) (k * 9) [.int .i64 ((q : Int)), .int .i64 ((q : Int) + 1), .int .i64 ((q : Int) + 2), .int .i64 ((q : Int) + 3)]) (k * 9 + 4) [.string S, .int .i64 ((q : Int) + 5), .bool b6]).length = n * 9 := by rw [setL_len, hxl]
      have HXL := Hid.in_ hxl3
      have HS3 := Hid.in_ hT.1
      have HW3 := Hid.in_ (show ∀ p ∈ os, (setCells w2 g (k * 9 + 4) [.string S, .int .i64 ((q : Int) + 5), .bool b6]).ownsRow b 2 1 p.v p.r.l.length (I64 p.r.l) from fun p hp => kept_apart (by decide) (HW2.out p hp) HS2.out hT.2)
      have HWK3 := Hid.in_ (kept_apart (by decide) HWK2.out HS2.out hT.2)
      have HT3 := Hid.in_ (HT2.out.trans (Tch.of_grown HS2.out hT.2 votT_v (Nat.le_refl _) (by have := HT2.out.size; omega)))
      generalize setL (setL (os.flatMap VotO.cells) (k * 9) [.int .i64 ((q : Int)), .int .i64 ((q : Int) + 1), .int .i64 ((q : Int) + 2), .int .i64 ((q : Int) + 3)]) (k * 9 + 4) [.string S, .int .i64 ((q : Int) + 5), .bool b6] = YS at *
      clear hT hE hE2 hx2 hfz2 hv hl' hA' hx7 hx7' hxl hxl3 hS hb6 hu4 hu5 hu6 HS2 HW2 HWK2 HT2
      go_wp2_with fail
      refine (show Calls Try.prog 15 #[.slice A2 N c2, .int .i64 ((q : Int) + 7)] _ _ from laws_markInt64S ((q : Int) + 7) _ HWK3.out (by omega) (by omega) (by omega)).mono ?_
      rintro e w4 ⟨rfl, ho4, hg4⟩
      have HS4 := Hid.in_ (kept_apart (by decide) HS3.out HWK3.out hg4)
      have HW4 := Hid.in_ (fun p hp hq => (HW3.out p hp).kept hg4 hq)
      have HO4 := Hid.in_ ho4
      have HT4 := Hid.in_ (HT3.out.trans (Tch.of_grown HWK3.out hg4 votT_i (Nat.le_refl _) (by have := HT3.out.size; omega)))
      clear ho4 hg4 d4 d5 d6 d7 f4 f5 f6 HS3 HW3 HWK3 HT3 e6
      obtain ⟨u8, hu8⟩ := get_lt YS (k * 9 + 8) (by rw [HXL.out]; omega)
      have d8 := HS4.out.cellAt (k * 9 + 8) (by omega)
      rw [hu8] at d8
      have f8 := HS4.out.frozenAt (k * 9 + 8)
      have hT5 := HS4.out.stored (k * 9 + 8) (.int .i64 ((q : Int) + 7 + N))
      rw [HE.out] at hT5
      have HT5 := Hid.in_ (HT4.out.trans (Tch.of_grown HS4.out hT5.2 votT_v (Nat.le_refl _) (by have := HT4.out.size; omega)))
      have HF := Hid.in_ (show ∃ os', os'.map VotO.r = mkTo m l (k + 1) ∧ VRow (w4.setCell ⟨g, k * 9 + 8, none⟩ (.int .i64 ((q : Int) + 7 + N))) b (.slice (some ⟨g, 0, none⟩) n c) os' from by
        refine ⟨os.set k ⟨VotR.mark q N, .slice A2 N c2⟩, ?_, ?_⟩
        · rw [List.map_set, HOS.out, ← HMA.out]
          exact mkTo_step m l (by rw [HX.out]; exact hlt)
        · refine VRow.swap (r := VotR.mark q N) HV.out HR.out ?_ (by decide) (fun p hp hq => ?_) ?_
          · rw [HNO.out]; exact hT5.1
          · exact kept_apart (by decide) (HW4.out p hp hq) HS4.out hT5.2
          · have := kept_apart (by decide) HO4.out HS4.out hT5.2
            show World.ownsRow _ b 2 1 (.slice A2 N c2) (marks ((q + 7 : Nat) : Int) N).length (I64 (marks ((q + 7 : Nat) : Int) N))
            rw [marks_len]
            exact this)
      have HQ2 := Hid.in_ (show q + 8 + N = posAt m l (k + 1) by rw [HPN.out, ← HQ.out])
      clear hT5 hu8 HV HR HOS HW4 HO4 HT4 HS4
      go_wp2
      have hk := HK.out
      go_roundg (gk - 1)
      case measure => omega
      case rel => exact ⟨k + 1, q + 8 + N, by omega, HQ2, by go_num, by go_num, HF, HT5⟩
    · have hk := HK.out
      obtain rfl : k = n := by omega
      have hqq := HQ.out
      go_wp2
      go_ret
      exact ⟨show Ending.returned (.int .i64 ((q : Nat) : Int)) = _ by rw [hqq], HO.out, HT.out⟩
end Go.Proofs.Ytlelgpknkgjaeaa
