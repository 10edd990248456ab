/- 'findMarks' of the program, FM and MFM. -/
import Derived.Test.YtlelgpknkgjaeaaGreatDoorSortM
import Derived.Test.YtlelgpknkgjaeaaGreatDoorMksS
namespace Go.Proofs.YtlelgpknkgjaeaaGreatDoor
open Go.ChangeShapes Go.WideShapes Go.ChangeAt Go.RowKit
set_option linter.unusedSimpArgs false
set_option linter.unusedVariables false
set_option maxRecDepth 4000

theorem impl_mark (f : Int) (k : Nat) (hf : inB f 1 3 = true) (h1 : 1 ≤ k) (h2 : k ≤ 3) (w : World) (hT : Tab w) :
    Calls Tryz.prog 58 #[.int .i64 f, .int .i64 k] w fun e w' => e = .returned (.string (patM f k)) ∧ Below w.heap.size w w' := by
  obtain ⟨b, hb, hb2⟩ := markByte_in hf (inB_mk (x := (k : Int)) (lo := 1) (hi := 3) (by omega) (by omega))
  have := impl_markCells f k b w hf hb hb2 hT
  unfold patM
  rw [hb, Int.toNat_natCast]
  exact this

/-- a row of places beside the list that grows. -/
structure Places (w : World) (v : Value) (A : Option Addr) (C : Nat) (X : List Value) : Prop where
  at_ : 0 < C → ∃ g, A = some ⟨g, 0, none⟩ ∧ g < w.heap.size ∧ Box w g X ∧ v.ownBlock ≠ some g
theorem Places.step {w w' : World} {v v' : Value} {A : Option Addr} {C : Nat} {X : List Value} (h : Places w v A C X) (hg : w.grownBy w' v.ownBlock) (hv : v'.ownBlock = v.ownBlock ∨ ∃ g, v'.ownBlock = some g ∧ w.heap.size ≤ g) : Places w' v' A C X := by
  refine ⟨fun hc => ?_⟩
  obtain ⟨g, e, hl, hb, hne⟩ := h.at_ hc
  refine ⟨g, e, Nat.lt_of_lt_of_le hl hg.size, fun j u hu => hg.cell (hb j u hu) (fun e => hne e.symm), ?_⟩
  rcases hv with hv | ⟨g', hv, hge⟩
  · rw [hv]; exact hne
  · rw [hv]; intro e2; injection e2 with e2; omega
theorem Places.alloc {w : World} {v : Value} {A : Option Addr} {C : Nat} {X : List Value} (h : Places w v A C X) (o : Obj) : Places (w.alloc o) v A C X := by
  refine ⟨fun hc => ?_⟩
  obtain ⟨g, e, hl, hb, hne⟩ := h.at_ hc
  exact ⟨g, e, by simp; omega, hb.step (balloc (Below.refl _ _) _), hne⟩

def mapTo (n : Nat) (p : ByteArray) (k : Int) (L : List Int) (j : Nat) : List MarkR := (L.take j).map (mkAt n p k)
theorem mapTo_succ {n : Nat} {p : ByteArray} {k : Int} {L : List Int} {j : Nat} {x : Int} (h : L[j]? = some x) : mapTo n p k L (j + 1) = mapTo n p k L j ++ [mkAt n p k x] := by
  unfold mapTo; rw [List.take_add_one, h, List.map_append]; rfl
theorem mapTo_len (n : Nat) (p : ByteArray) (k : Int) (L : List Int) (j : Nat) : (mapTo n p k L j).length ≤ j := by
  unfold mapTo; rw [List.length_map, List.length_take]; exact Nat.min_le_left _ _
def placeL (s p : ByteArray) : List Int := if p.size ≤ s.size then placesTo (fitsB s p) s.size else []
theorem placeL_map (s p : ByteArray) (k : Int) {j : Nat} (h : (placeL s p).length ≤ j) : mapTo s.size p k (placeL s p) j = kindL s p k := by
  unfold mapTo kindL
  rw [List.take_of_length_le h]
  unfold placeL
  split <;> rfl
theorem placeL_len (s p : ByteArray) : (placeL s p).length ≤ s.size := by
  unfold placeL; split
  · exact placesTo_len _ _
  · exact Nat.zero_le _
theorem placeL_mem {s p : ByteArray} {x : Int} (h : x ∈ placeL s p) : ∃ j : Nat, x = j ∧ j < s.size := by
  unfold placeL at h
  split at h
  · obtain ⟨j, a, b, _⟩ := placesTo_mem h
    exact ⟨j, a, b⟩
  · cases h
theorem impl_places (s p : ByteArray) (w : World) (hs : s.size ≤ 1048576) (hp : p.size ≤ 1048576) :
    Calls Tryz.prog 59 #[.string s, .string p] w fun e w' => ∃ v, e = .returned v ∧ w'.ownsRow w.heap.size 2 1 v (placeL s p).length (I64 (placeL s p)) ∧ Below w.heap.size w w' := by
  by_cases h : p.size ≤ s.size
  · have := impl_findPattern s p w hs h
    unfold placeL
    rw [if_pos h]
    exact this
  · refine (impl_findPattern_long s p w hs (by omega) hp).mono ?_
    rintro e w' ⟨rfl, hb⟩
    unfold placeL
    rw [if_neg h]
    exact ⟨_, rfl, World.ownsRow_nil _ _ _ _, hb⟩
set_option maxHeartbeats 4000000 in
theorem impl_findMarks_f (s : ByteArray) (f : Int) (w : World) (hv : validCells s = true) (hf : inB f 1 3 = true) (hf3 : f ≠ 3) (hT : Tab w) :
    Calls Tryz.prog 38 #[.string s, .int .i64 f] w fun e w' => ∃ n v, e = .returned v ∧ w'.ownsRow w.heap.size 51 3 v n ((marksV s f).flatMap MarkR.cells) ∧ Below w.heap.size w w' := by
  obtain ⟨i0, hti, hz0, hz1, hz2⟩ := info_parts Tryz.info_Mark
  obtain ⟨v1, v2, v3⟩ := valid_size hv
  have HMK := Hid.in_ (fun (k : Nat) (h1 : 1 ≤ k) (h2 : k ≤ 3) w hT => impl_mark f k hf h1 h2 w hT)
  have HPS := Hid.in_ (fun (k : Nat) (h1 : 1 ≤ k) (h2 : k ≤ 3) => pat_size (k := k) hf h1 h2)
  have HKL := Hid.in_ (fun k => kTo_len (s := s) (f := f) v2 k)
  have HTB := Hid.in_ hT
  have HRAW := Hid.in_ (show marksV s f = insM (kTo s f 4) from (kTo_all s f).symm)
  have HAP := Hid.in_ (show (kTo s f 4).Pairwise (fun x y => x.a ≠ y.a) by
    have := rawM_apart (s := s) hf
    rw [kTo_succ (by decide), kTo_succ (by decide), kTo_succ (by decide), kTo_one]
    unfold pieceK
    rw [if_neg hf3, if_neg hf3, if_neg hf3]
    exact this)
  have hff : (f == 3) = false := by simpa using hf3
  have HF3 := Hid.in_ hf3
  clear hv v3 hT hf3
  go_enter Tryz.func38, Tryz.ntmps38
  go_wp2_with fail
  go_loopg [5, 6] 3 (fun r v i wr => ∃ (k n : Nat) (v5 : Value), 1 ≤ k ∧ k + r = 4 ∧ i = .int .i64 k ∧ v = v5 ∧ Hid (wr.ownsRow w.heap.size 51 3 v5 n ((kTo s f k).flatMap MarkR.cells)) ∧ Hid (Below w.heap.size w wr))
  case atStart => exact ⟨1, 0, _, by omega, by omega, by go_num, rfl, World.ownsRow_nil _ _ _ _, Below.refl _ _⟩
  case round =>
    obtain ⟨k, n, v, hk1, hkm, rfl, hvv, HO, HB⟩ := hrel
    subst hvv
    have HK := Hid.in_ hkm
    have hk4 : k ≤ 4 := by omega
    clear hkm
    by_cases hlt : k ≤ 3
    · have hp64 := HPS.out k hk1 hlt
      have HM := Hid.in_ (HMK.out k hk1 hlt)
      have HKS := Hid.in_ (show kTo s f (k + 1) = kTo s f k ++ kindL s (patM f k) k by rw [kTo_succ hk1]; unfold pieceK; rw [if_neg HF3.out])
      obtain ⟨p, hp⟩ : ∃ p, patM f k = p := ⟨_, rfl⟩
      rw [hp] at HM HKS hp64
      clear hp
      go_wp2_with fail
      refine (HM.out _ (HTB.out.step HB.out)).mono ?_
      rintro e w2 ⟨rfl, hb2⟩
      have HB2 := Hid.in_ (HB.out.trans (hb2.mono HB.out.size))
      have HO2 := Hid.in_ (own_below HO.out hb2 (Nat.le_refl _))
      clear hb2
      obtain ⟨L, hL⟩ : ∃ L, placeL s p = L := ⟨_, rfl⟩
      obtain ⟨C, hC⟩ : ∃ C, L.length = C := ⟨_, rfl⟩
      have hCN : C ≤ s.size := by rw [← hC, ← hL]; exact placeL_len _ _
      have HMEM := Hid.in_ (fun x (hx : x ∈ L) => placeL_mem (s := s) (p := p) (by rw [hL]; exact hx))
      have HALL := Hid.in_ (fun j (h : L.length ≤ j) => placeL_map s p k (j := j) (by rw [hL]; exact h))
      have HF0 := fun w => impl_places s p w (by omega) (by omega)
      rw [hL] at HF0 HALL
      rw [hC] at HF0
      have HF := Hid.in_ HF0
      have HC := Hid.in_ hC
      clear HF0 hC hL
      go_wp2_with fail
      refine (HF.out _).mono ?_
      rintro e w3 ⟨v11, rfl, ho11, hb3⟩
      have hap := own_apart HO2.out ho11 (Nat.le_refl _)
      obtain ⟨A11, c11, rfl, hl11, hn11, hA11⟩ := own_shape ho11
      have HB3 := Hid.in_ (HB2.out.trans (hb3.mono HB2.out.size))
      have HO3 := Hid.in_ (own_below HO2.out hb3 (Nat.le_refl _))
      have HPL := Hid.in_ (show Places w3 u5 A11 C (I64 L) from ⟨fun hc => by
        obtain ⟨g, rfl, _, h2, h3, _⟩ := hA11 hc
        refine ⟨g, rfl, h2, h3, ?_⟩
        rcases hap with h | h
        · rw [h]; intro e; cases e
        · exact h⟩)
      clear ho11 hb3 hA11 hl11 hap
      go_wp2_with fail
      obtain ⟨gO, rfl⟩ : ∃ g, g = gk := ⟨_, rfl⟩
      obtain ⟨wo, rfl⟩ : ∃ wo : World, wo = wr := ⟨_, rfl⟩
      have HO4 := Hid.in_ (show w3.ownsRow w.heap.size 51 3 u5 n ((kTo s f k ++ mapTo s.size p k L 0).flatMap MarkR.cells) by
        rw [show mapTo s.size p k L 0 = [] from rfl, List.append_nil]; exact HO3.out)
      clear HB HO HB2 HO2 HO3
      go_loopg [5, 25] C (fun r v i wi => ∃ (j n : Nat) (v5 : Value), j + r = C ∧ i = .int .i64 j ∧ v = v5 ∧ Hid (wi.ownsRow w.heap.size 51 3 v5 n ((kTo s f k ++ mapTo s.size p k L j).flatMap MarkR.cells)) ∧ Hid (Places wi v5 A11 C (I64 L)) ∧ Hid (Below w.heap.size w wi))
      case atStart => exact ⟨0, n, u5, by omega, rfl, rfl, HO4, HPL, HB3⟩
      case round =>
        clear HO4 HPL HB3
        obtain ⟨j, n5, v5, hjm, rfl, hvv, HO5, HPL, HB5⟩ := hrel
        subst hvv
        have HJ := Hid.in_ hjm
        have hjC : j ≤ C := by omega
        clear hjm
        have hn5 : n5 ≤ 100000 := by
          rw [own_n HO5.out, List.length_append]
          have := HKL.out k
          have := mapTo_len s.size p k L j
          omega
        by_cases hjl : j < C
        · obtain ⟨x, hx⟩ := get_lt L j (by rw [HC.out]; exact hjl)
          obtain ⟨q, rfl, hqn⟩ := HMEM.out _ (List.mem_of_getElem? hx)
          have HKT := Hid.in_ (mapTo_succ (n := s.size) (p := p) (k := k) hx)
          obtain ⟨g11, rfl, hg11, hx11, _⟩ := HPL.out.at_ (by omega)
          have cx : wr.cell? ⟨g11, j, none⟩ = some (.int .i64 (q : Int)) := hx11 j _ (by unfold I64; rw [List.getElem?_map, hx]; rfl)
          clear hx hx11
          obtain ⟨bq, hbq⟩ : ∃ bq : Int, ((q : Int) + (p.size : Int)) % (s.size : Int) = bq := ⟨_, rfl⟩
          have HMK2 := Hid.in_ (show mkAt s.size p k (q : Int) = ⟨(k : Int), (q : Int), bq⟩ by unfold mkAt; rw [hbq])
          have hb1 : 0 ≤ bq := by rw [← hbq]; exact Int.emod_nonneg _ (by omega)
          have hb2 : bq < (s.size : Int) := by rw [← hbq]; exact Int.emod_lt_of_pos _ (by omega)
          have hnz : ¬ (s.size : Int) = 0 := by omega
          have hnz2 : ¬ s.size = 0 := by omega
          have hnp : (0 : Int) < s.size := by omega
          go_wp2_with (at_builtin; refine wpList_append_lies _ rfl _ _ 22 rfl w.heap.size 51 i0 (.agg #[.int .i64 0, .int .i64 0, .int .i64 0]) 3 24 Tryz.underlying22 hti hz0 hz1 hz2 rfl (by decide) _ _ _ rfl (HO5.out.alloc _) ⟨wr.heap.size, 0, none⟩ 1 1 [.int .i64 k, .int .i64 q, .int .i64 bq] rfl rfl (cells3m rfl) (fun x hx => by simp at hx; rcases hx with rfl | rfl | rfl <;> rfl) (by decide) (by unfold maxLen; omega) (by omega) (balloc HB5.out _).size _ rfl ?_; intro g6 cp6 w6 ho6 hg6 hat6 hlt6)
          have HB6 := Hid.in_ (bgrown (balloc HB5.out _) (HO5.out.alloc _) (Nat.le_refl _) hg6)
          have HPL6 := Hid.in_ ((HPL.out.alloc (.cells #[.int .i64 k, .int .i64 q, .int .i64 bq] 51)).step (v' := .slice (some ⟨g6, 0, none⟩) (n5 + 1) cp6) hg6 (by
            rcases hat6 with h | h
            · exact .inl h.symm
            · exact .inr ⟨g6, rfl, by omega⟩))
          have HO6 := Hid.in_ (show w6.ownsRow w.heap.size 51 3 (.slice (some ⟨g6, 0, none⟩) (n5 + 1) cp6) (n5 + 1) ((kTo s f k ++ mapTo s.size p k L (j + 1)).flatMap MarkR.cells) by
            rw [HKT.out, ← List.append_assoc, List.flatMap_append, HMK2.out]
            exact ho6)
          clear ho6 hg6 hat6 hbq
          have hj := HJ.out
          go_roundg (gk - 1)
          case measure => omega
          case rel => exact ⟨j + 1, n5 + 1, _, by omega, by go_num, rfl, HO6, HPL6, HB6⟩
        · have hj := HJ.out
          have hk := HK.out
          have HO6 := Hid.in_ (show wr.ownsRow w.heap.size 51 3 u5 n5 ((kTo s f (k + 1)).flatMap MarkR.cells) by
            rw [HKS.out, ← HALL.out j (by rw [HC.out]; omega)]
            exact HO5.out)
          go_wp2
          go_roundg (gO - 1)
          case measure => omega
          case rel => exact ⟨k + 1, n5, u5, by omega, by omega, by go_num, rfl, HO6, HB5⟩
    · have hk := HK.out
      obtain rfl : k = 4 := by omega
      obtain ⟨A, c, hA0, _, _, hA⟩ := own_shape HO.out
      subst hA0
      have hn5 : n ≤ 100000 := by
        rw [own_n HO.out]
        have := HKL.out 4
        omega
      by_cases hn : n = 0
      · subst hn
        have HN := Hid.in_ (fun w => sort_none A c (.func (.func 69) #[] #[]) w)
        have HZ := Hid.in_ (show kTo s f 4 = [] from List.eq_nil_of_length_eq_zero (own_n HO.out).symm)
        clear hA
        go_wp2_with (go_at_call 68; refine (HN.out _).mono ?_; rintro e w1 ⟨rfl, rfl⟩)
        go_ret
        exact ⟨0, _, rfl, by have := HO.out; rw [HRAW.out, HZ.out]; rw [HZ.out] at this; exact this, HB.out⟩
      · obtain ⟨g, rfl, _⟩ := hA (by omega)
        have HS := Hid.in_ (sort_marks wr HO.out hn5)
        clear hA
        go_wp2_with (go_at_call 68; refine HS.out.mono ?_; rintro e w1 ⟨rfl, d', hp, hs, ho1, hb1⟩)
        go_ret
        exact ⟨n, _, rfl, by rw [HRAW.out, ← insM_eq hp hs HAP.out]; exact ho1, HB.out.trans hb1⟩
end Go.Proofs.YtlelgpknkgjaeaaGreatDoor
