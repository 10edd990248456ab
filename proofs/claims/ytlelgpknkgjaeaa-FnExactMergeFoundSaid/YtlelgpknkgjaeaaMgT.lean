/- 'l10Merge' of the reference. -/
import Derived.Test.YtlelgpknkgjaeaaMgY
namespace Go.Proofs.Ytlelgpknkgjaeaa
open Go.ChangeShapes Go.WideShapes Go.ChangeAt Go.RowKit
set_option linter.unusedSimpArgs false
set_option linter.unusedVariables false
set_option maxRecDepth 4000

def keyV (a : AdrR) (vo : Nat) : VotO := ⟨⟨a.c, a.h, a.n, a.s, ⟨#[]⟩, 0, false, [], (vo : Nat)⟩, .slice none 0 0⟩
/-- A row of sectors of which those in D are filled. -/
structure MT (w wr : World) (g c K : Nat) (D X : List VotO) : Prop where
  row : wr.ownsRow w.heap.size 77 9 (.slice (some ⟨g, 0, none⟩) K c) K ((D ++ X).flatMap VotO.cells)
  weak : ∀ o ∈ D, wr.ownsRow w.heap.size 2 1 o.v o.r.l.length (I64 o.r.l)
  apart : D.Pairwise fun a b => a.v.ownBlock = none ∨ a.v.ownBlock ≠ b.v.ownBlock
  low : Below w.heap.size w wr
theorem MT.step {w wr w' : World} {g c K : Nat} {D X : List VotO} (k : Below wr.heap.size wr w') (h : MT w wr g c K D X) : MT w w' g c K D X :=
  ⟨ostep k h.row, fun o ho => ostep k (h.weak o ho), h.apart, h.low.trans (k.mono h.low.size)⟩
theorem mid_get (D : List VotO) (o : VotO) (X : List VotO) : (D ++ o :: X)[D.length]? = some o := by rw [List.getElem?_append_right (Nat.le_refl _), Nat.sub_self]; rfl
theorem mid_set (D : List VotO) (o o' : VotO) (X : List VotO) : (D ++ o :: X).set D.length o' = D ++ o' :: X := by rw [List.set_append_right _ _ (Nat.le_refl _), Nat.sub_self, List.set_cons_zero]
theorem mid_set' {D X : List VotO} {o o' : VotO} {i : Nat} (h : D.length = i) : (D ++ o :: X).set i o' = D ++ o' :: X := by subst h; exact mid_set D o o' X
theorem MT.turn {w wr w' : World} {g c K : Nat} {D X X' : List VotO} (h : MT w wr g c K D X) (hr : w'.ownsRow w.heap.size 77 9 (.slice (some ⟨g, 0, none⟩) K c) K ((D ++ X').flatMap VotO.cells)) (hg : wr.grownBy w' (some g)) : MT w w' g c K D X' :=
  ⟨hr, fun o ho => kept_apart (by decide) (h.weak o ho) h.row hg, h.apart, h.low.grown hg h.low.size (fun k hk => by injection hk with hk; rw [← hk]; exact (h.row.lt g rfl).1)⟩
theorem MT.put {w wr : World} {g c K i j : Nat} {D X : List VotO} {o : VotO} (h : MT w wr g c K D (o :: X)) (hD : D.length = i) (o' : VotO) (x : Value) (hj : j < 9) (he : o'.cells = o.cells.set j x) :
    MT w (wr.setCell ⟨g, i * 9 + j, none⟩ x) g c K D (o' :: X) := by
  subst hD
  have := own_put VotO.len h.row (o' := o') x (mid_get D o X) hj he
  rw [mid_set] at this
  exact h.turn this.1 this.2
theorem MT.snoc {w wr : World} {g c K : Nat} {D X : List VotO} {o : VotO} (h : MT w wr g c K D (o :: X)) (hw : wr.ownsRow w.heap.size 2 1 o.v o.r.l.length (I64 o.r.l)) (ha : ∀ p ∈ D, p.v.ownBlock = none ∨ p.v.ownBlock ≠ o.v.ownBlock) : MT w wr g c K (D ++ [o]) X := by
  refine ⟨by rw [List.append_assoc]; exact h.row, fun p hp => ?_, ?_, h.low⟩
  · rcases List.mem_append.1 hp with hp | hp
    · exact h.weak p hp
    · rw [List.mem_singleton] at hp; subst hp; exact hw
  · rw [List.pairwise_append]
    refine ⟨h.apart, List.pairwise_singleton _ _, fun p hp q hq => ?_⟩
    rw [List.mem_singleton] at hq
    subst hq
    exact ha p hp
theorem MT.box {w wr : World} {g c K i : Nat} {D X : List VotO} {o : VotO} (h : MT w wr g c K D (o :: X)) (hD : D.length = i) : BoxAt wr g (i * 9) o.cells := by
  subst hD
  exact Box.elem VotO.len (own_box h.row).1 (mid_get D o X)
theorem head4 {w : World} {g o : Nat} {a : AdrR} {x : VotO} (h : BoxAt w g o x.cells) (hc : x.r.c = a.c) (hh : x.r.h = a.h) (hn : x.r.n = a.n) (hs : x.r.s = a.s) : BoxAt w g o a.cells := fun j u hu => by
  have hj : j < 4 := (List.getElem?_eq_some_iff.1 hu).1
  refine h j u ?_
  have h4 : j = 0 ∨ j = 1 ∨ j = 2 ∨ j = 3 := by omega
  have hx : x.cells = [.int .i64 x.r.c, .int .i64 x.r.h, .int .i64 x.r.n, .int .i64 x.r.s, .string x.r.d, .int .i64 x.r.t, .bool x.r.x, x.v, .int .i64 x.r.vo] := rfl
  rw [hx, hc, hh, hn, hs]
  rcases h4 with rfl | rfl | rfl | rfl <;> exact hu
theorem flat_small {ls : List (List FndR)} (h5 : ls.length ≤ 5) (h64 : ∀ fs ∈ ls, fs.length ≤ 64) : ls.flatten.length ≤ 320 := by
  by_cases h0 : ls.length = 0
  · have : ls = [] := List.eq_nil_of_length_eq_zero h0
    rw [this]; exact Nat.zero_le _
  · have hlast : ls.length - 1 < ls.length := by omega
    have h1 := preF_small (ls := ls) (i := ls.length - 1) (k := (ls.getD (ls.length - 1) []).length) h5 h64 hlast (by
      rw [List.getD_eq_getElem?_getD, List.getElem?_eq_getElem hlast]
      exact h64 _ (List.getElem_mem hlast))
    have h2 : preF ls (ls.length - 1) (ls.getD (ls.length - 1) []).length = ls.flatten := by
      have h3 := preF_turn (ls := ls) (i := ls.length - 1) (fs := ls[ls.length - 1]) (List.getElem?_eq_getElem hlast)
      rw [List.getD_eq_getElem?_getD, List.getElem?_eq_getElem hlast]
      show preF ls (ls.length - 1) (ls[ls.length - 1]).length = _
      rw [h3, show ls.length - 1 + 1 = ls.length by omega, preF_all]
    rw [h2] at h1
    exact h1
theorem drop_keys {KS : List AdrR} {i : Nat} {a : AdrR} (h : KS[i]? = some a) : (KS.drop i).map keyO = keyV a 0 :: (KS.drop (i + 1)).map keyO := by
  have hi : i < KS.length := (List.getElem?_eq_some_iff.1 h).1
  have e : KS[i] = a := (List.getElem?_eq_some_iff.1 h).2
  rw [List.drop_eq_getElem_cons hi, e, List.map_cons]
  rfl
theorem merge_one {ls : List (List FndR)} {a : AdrR} (h : (dataOf ls.flatten a 1).length ≠ 0) : mergeV ls a = fillV a (dataOf ls.flatten a 1) (delOf ls.flatten a 1) (if (placesTo (diffAt (dataOf ls.flatten a 1)) (revLen (dataOf ls.flatten a 1))).length = 0 then 1 else 5) (votesTo ls a ls.length) := if_pos h
theorem merge_two {ls : List (List FndR)} {a : AdrR} (h : ¬ (dataOf ls.flatten a 1).length ≠ 0) (h3 : (dataOf ls.flatten a 3).length ≠ 0) : mergeV ls a = fillV a (dataOf ls.flatten a 3) (delOf ls.flatten a 3) 3 (votesTo ls a ls.length) := by
  unfold mergeV; rw [if_neg h, if_pos h3]
theorem merge_none {ls : List (List FndR)} {a : AdrR} (h : ¬ (dataOf ls.flatten a 1).length ≠ 0) (h3 : ¬ (dataOf ls.flatten a 3).length ≠ 0) : mergeV ls a = ⟨a.c, a.h, a.n, a.s, ⟨#[]⟩, 4, false, [], (votesTo ls a ls.length : Nat)⟩ := by
  unfold mergeV; rw [if_neg h, if_neg h3]
theorem FsRow.below {w w' : World} {b B : Nat} {v : Value} {os : List FsO} (h : FsRow w b v os) (k : Below B w w') (hB : w.heap.size ≤ B) : FsRow w' b v os :=
  ⟨own_below h.row k hB, fun o ho => own_below (h.each o ho) k hB, h.apart⟩
set_option maxHeartbeats 16000000 in
theorem spec_l10Merge {v : Value} {b n : Nat} {os : List FsO} {ls : List (List FndR)} (w : World) (h : FsRow w b v os) (hl : os.map FsO.r = ls) (hn : ls.length = n) (h64 : ∀ fs ∈ ls, fs.length ≤ 64) (hn5 : n ≤ 5) (hg : ∀ f ∈ ls.flatten, goodF f) :
    Calls Try.prog 73 #[v] w fun e w' => ∃ v' os', e = .returned v' ∧ os'.map VotO.r = mgV ls ∧ VRow w' w.heap.size v' os' ∧ Below w.heap.size w w' := by
  have hno : os.length = n := by rw [← hn, ← hl, List.length_map]
  have HFS := Hid.in_ h
  have HE := Hid.in_ h.each
  have HKY := Hid.in_ (spec_l10Keys w h hl hn h64 hn5)
  obtain ⟨A, c, rfl, _, hcn, hA⟩ := own_shape h.row
  rw [hno] at hcn hA HFS HKY ⊢
  have H1 := Hid.in_ hA
  have HNO := Hid.in_ hno
  have HLS := Hid.in_ hl
  have HNN := Hid.in_ hn
  have H64 := Hid.in_ h64
  have HG := Hid.in_ hg
  clear h hl hn h64 hno hA hg
  obtain ⟨KS, hKS⟩ : ∃ KS, keysOf ls.flatten = KS := ⟨_, rfl⟩
  obtain ⟨K, hKL⟩ : ∃ K, KS.length = K := ⟨_, rfl⟩
  rw [hKS, hKL] at HKY
  have HMG := Hid.in_ (show mgV ls = KS.map (mergeV ls) by unfold mgV; rw [hKS])
  have HKL := Hid.in_ hKL
  have hKb : K ≤ 320 := by
    rw [← hKL, ← hKS]
    refine Nat.le_trans (keysOf_len _) ?_
    have h5 := HNN.out
    by_cases h0 : n = 0
    · have : ls = [] := List.eq_nil_of_length_eq_zero (by omega)
      rw [this]; exact Nat.zero_le _
    · have hlast : ls.length - 1 < ls.length := by omega
      have h1 := preF_small (ls := ls) (i := ls.length - 1) (k := (ls.getD (ls.length - 1) []).length) (by omega) H64.out hlast (by
        rw [List.getD_eq_getElem?_getD, List.getElem?_eq_getElem hlast]
        exact H64.out _ (List.getElem_mem hlast))
      have h2 : preF ls (ls.length - 1) (ls.getD (ls.length - 1) []).length = ls.flatten := by
        have h3 := preF_turn (ls := ls) (i := ls.length - 1) (fs := ls[ls.length - 1]) (List.getElem?_eq_getElem hlast)
        rw [List.getD_eq_getElem?_getD, List.getElem?_eq_getElem hlast]
        show preF ls (ls.length - 1) (ls[ls.length - 1]).length = _
        rw [h3, show ls.length - 1 + 1 = ls.length by omega, preF_all]
      rw [h2] at h1
      exact h1
  clear hKS hKL
  go_enter Try.func73, Try.ntmps73
  go_wp2_with fail
  refine HKY.out.mono ?_
  rintro e w1 ⟨g, cq, rfl, ho1, hb1⟩
  have HM1 := Hid.in_ (show MT w w1 g cq K [] (KS.map keyO) from ⟨ho1, (fun o ho => by cases ho), List.Pairwise.nil, hb1⟩)
  clear ho1 hb1 HKY
  go_wp2_with fail
  go_loopg [4] K (fun m v4 wr => ∃ (i : Nat) (D : List VotO), i + m = K ∧ v4 = .int .i64 i ∧ Hid (D.length = i ∧ D.map VotO.r = (KS.take i).map (mergeV ls)) ∧ Hid (MT w wr g cq K D ((KS.drop i).map keyO)))
  case atStart => exact ⟨0, [], by omega, rfl, ⟨rfl, rfl⟩, HM1⟩
  case round =>
    clear HM1
    obtain ⟨i, D, him, rfl, HD, HM⟩ := hrel
    have HK := Hid.in_ him
    clear him
    by_cases hlt : i < K
    · obtain ⟨a, ha⟩ := get_lt KS i (by rw [HKL.out]; exact hlt)
      have hm0 := HM.out
      rw [drop_keys ha] at hm0
      have HM0 := Hid.in_ hm0
      have HA := Hid.in_ ha
      have hgw : g < wr.heap.size := (hm0.row.lt g rfl).2
      clear ha hm0 HM
      go_wp2_with fail
      obtain ⟨gI, rfl⟩ : ∃ x, x = gk := ⟨_, rfl⟩
      go_loopg [6] n (fun m v6 wr => ∃ (k vo : Nat), k + m = n ∧ v6 = .int .i64 k ∧ Hid (vo = votesTo ls a k) ∧ Hid (MT w wr g cq K D (keyV a vo :: (KS.drop (i + 1)).map keyO)))
      case atStart => exact ⟨0, 0, by omega, rfl, rfl, HM0⟩
      case round =>
        clear HM0
        obtain ⟨k, vo, hkm, rfl, HVO, HM⟩ := hrel
        have HQ := Hid.in_ hkm
        clear hkm
        by_cases hlk : k < n
        · obtain ⟨g1, rfl, _, hg1, hx, _⟩ := H1.out (by omega)
          obtain ⟨⟨fs, fv⟩, ho⟩ := get_lt os k (by rw [HNO.out]; exact hlk)
          have hbx := Box.elem FsO.len hx ho
          rw [Nat.mul_one] at hbx
          have HC0 : Hid (w.cell? ⟨g1, k, none⟩ = some fv) := by have := hbx 0 _ rfl; exact this
          have hfr : w.ownsRow b 128 8 fv fs.length (fs.flatMap FndR.cells) := HE.out _ (List.mem_of_getElem? ho)
          have hli : ls[k]? = some fs := fso_get HLS.out ho
          have HVN := Hid.in_ (votesTo_next (a := a) hli)
          have hvo5 : vo ≤ 5 := by rw [HVO.out]; exact Nat.le_trans (votesTo_le _ _ _) (by omega)
          obtain ⟨N, hN⟩ : ∃ N, fs.length = N := ⟨_, rfl⟩
          rw [hN] at hfr
          obtain ⟨A2, c2, rfl, _, hc2, hA2⟩ := own_shape hfr
          have H2 := Hid.in_ hA2
          have HFN := Hid.in_ hN
          clear hbx hx ho hfr hli hA2 hN
          go_wp2_with fail
          obtain ⟨gJ, rfl⟩ : ∃ x, x = gk := ⟨_, rfl⟩
          go_loopg [7, 8] N (fun m v7 v8 wr => ∃ (j : Nat) (has : Bool), j + m = N ∧ v7 = .bool has ∧ v8 = .int .i64 j ∧ Hid (has = hasF (fs.take j) a) ∧ Hid (MT w wr g cq K D (keyV a vo :: (KS.drop (i + 1)).map keyO)))
          case atStart => exact ⟨0, false, by omega, rfl, rfl, rfl, HM⟩
          case round =>
            clear HM
            obtain ⟨j, has, hjm, rfl, rfl, HHS, HM⟩ := hrel
            have HJ := Hid.in_ hjm
            clear hjm
            have c0 : wr.cell? ⟨g1, k, none⟩ = some (.slice A2 N c2) := cstep HM.out.low HC0.out
            by_cases hlj : j < N
            · obtain ⟨g2, rfl, _, hg2, hx2, _⟩ := H2.out (by omega)
              obtain ⟨f, hf⟩ := get_lt fs j (by rw [HFN.out]; exact hlj)
              have HHN := Hid.in_ (show hasF (fs.take (j + 1)) a = (has || keyF f a) by rw [List.take_add_one, hf, HHS.out]; exact hasF_snoc _ _ _)
              have HKEY := Hid.in_ (spec_l10Key wr ((Box.elem FndR.len hx2 hf).step HM.out.low) (head4 (a := a) (HM.out.box HD.out.1) rfl rfl rfl rfl))
              have hg2w : g2 < wr.heap.size := Nat.lt_of_lt_of_le hg2 HM.out.low.size
              clear hx2 hf
              cases has
              · generalize keyF f a = kf at *
                go_wp2_with fail
                refine HKEY.out.mono ?_
                rintro e w2 ⟨rfl, q, rfl⟩
                go_wp2
                have hj := HJ.out
                go_roundg (gk - 1)
                case measure => omega
                case rel => exact ⟨j + 1, kf, by omega, by go_num, by go_num, Hid.in_ (by rw [HHN.out]; rfl), HM.out.step (below_drewN (Below.refl _ _) _)⟩
              · go_wp2
                have hj := HJ.out
                go_roundg (gk - 1)
                case measure => omega
                case rel => exact ⟨j + 1, true, by omega, rfl, by go_num, Hid.in_ (by rw [HHN.out]; rfl), HM⟩
            · have hj := HJ.out
              obtain rfl : j = N := by omega
              have HTF := Hid.in_ (show fs.take j = fs by rw [List.take_of_length_le (by rw [HFN.out]; exact Nat.le_refl _)])
              rw [HTF.out] at HHS
              cases has
              · have HVE := Hid.in_ (show vo = votesTo ls a (k + 1) by rw [HVN.out, ← HHS.out, ← HVO.out]; rfl)
                go_wp2
                have hq := HQ.out
                go_roundg (gJ - 1)
                case measure => omega
                case rel => exact ⟨k + 1, vo, by omega, by go_num, HVE, HM⟩
              · have HVE := Hid.in_ (show vo + 1 = votesTo ls a (k + 1) by rw [HVN.out, ← HHS.out, ← HVO.out]; rfl)
                have hbv := HM.out.box HD.out.1
                have d8 : wr.cell? ⟨g, i * 9 + 8, none⟩ = some (.int .i64 (vo : Nat)) := hbv 8 _ rfl
                have f8 := (own_box HM.out.row).2.1 (i * 9 + 8)
                have HP := Hid.in_ (HM.out.put HD.out.1 (keyV a (vo + 1)) (.int .i64 ((vo : Int) + 1)) (j := 8) (by decide) rfl)
                clear hbv
                go_wp2
                have hq := HQ.out
                go_roundg (gJ - 1)
                case measure => omega
                case rel => exact ⟨k + 1, vo + 1, by omega, by go_num, HVE, HP⟩
        · have hq := HQ.out
          obtain rfl : k = n := by omega
          have HVF := Hid.in_ (show vo = votesTo ls a ls.length by rw [HVO.out, HNN.out])
          go_wp2_with fail
          refine (spec_l10All 1 _ (HFS.out.below HM.out.low (Nat.le_refl _)) HLS.out HNN.out H64.out hn5 (head4 (a := a) (HM.out.box HD.out.1) rfl rfl rfl rfl)).mono ?_
          rintro e w2 ⟨v2, rfl, ho2, hb2⟩
          have HM2 := Hid.in_ (HM.out.step hb2)
          have HO2 := Hid.in_ ho2
          clear hb2 ho2
          go_wp2_with fail
          refine (spec_l10All 3 _ (HFS.out.below HM2.out.low (Nat.le_refl _)) HLS.out HNN.out H64.out hn5 (head4 (a := a) (HM2.out.box HD.out.1) rfl rfl rfl rfl)).mono ?_
          rintro e w3 ⟨v3, rfl, ho3, hb3⟩
          have HM3 := Hid.in_ (HM2.out.step hb3)
          have hO2 := ostep hb3 HO2.out
          have hfl : ls.flatten.length ≤ 320 := by
            by_cases h0 : k = 0
            · have : ls = [] := List.eq_nil_of_length_eq_zero (by rw [HNN.out]; exact h0)
              rw [this]; exact Nat.zero_le _
            · exact flat_small (by rw [HNN.out]; exact hn5) H64.out
          obtain ⟨P1, hP1⟩ : ∃ P1, pickF ls.flatten a 1 = P1 := ⟨_, rfl⟩
          obtain ⟨P3, hP3⟩ : ∃ P3, pickF ls.flatten a 3 = P3 := ⟨_, rfl⟩
          have hn1b : P1.length ≤ 320 := by rw [← hP1]; exact Nat.le_trans (pick_len _ _ _) hfl
          have hn3b : P3.length ≤ 320 := by rw [← hP3]; exact Nat.le_trans (pick_len _ _ _) hfl
          rw [hP1] at hO2
          rw [hP3] at ho3
          obtain ⟨n1, hn1⟩ : ∃ n1, P1.length = n1 := ⟨_, rfl⟩
          obtain ⟨n3, hn3⟩ : ∃ n3, P3.length = n3 := ⟨_, rfl⟩
          rw [hn1] at hO2 hn1b
          rw [hn3] at ho3 hn3b
          obtain ⟨A4, c4, rfl, _, _, _⟩ := own_shape hO2
          obtain ⟨A5, c5, rfl, _, _, _⟩ := own_shape ho3
          have HOG := Hid.in_ hO2
          have HOB := Hid.in_ ho3
          have HP1 := Hid.in_ hP1
          have HP3 := Hid.in_ hP3
          have Hn1 := Hid.in_ hn1
          have Hn3 := Hid.in_ hn3
          have hmid : (D ++ keyV a vo :: (KS.drop (i + 1)).map keyO)[i]? = some (keyV a vo) := by
            have := mid_get D (keyV a vo) ((KS.drop (i + 1)).map keyO)
            rw [HD.out.1] at this
            exact this
          have hgw3 : g < w3.heap.size := (HM3.out.row.lt g rfl).2
          clear hb3 ho3 hO2 hP1 hP3 hn1 hn3 hfl HM HM2 HO2
          by_cases hn1 : n1 = 0
          · by_cases hn3 : n3 = 0
            · have HMV := Hid.in_ (show mergeV ls a = ⟨a.c, a.h, a.n, a.s, ⟨#[]⟩, 4, false, [], (vo : Nat)⟩ by
                rw [merge_none (by rw [data_len, HP1.out, Hn1.out]; omega) (by rw [data_len, HP3.out, Hn3.out]; omega), HVF.out])
              have hb3 := HM3.out.box HD.out.1
              have d5 : w3.cell? ⟨g, i * 9 + 5, none⟩ = some (.int .i64 0) := hb3 5 _ rfl
              have f5 := (own_box HM3.out.row).2.1 (i * 9 + 5)
              have HP := Hid.in_ (HM3.out.put HD.out.1 (⟨⟨a.c, a.h, a.n, a.s, ⟨#[]⟩, 4, false, [], (vo : Nat)⟩, .slice none 0 0⟩) (.int .i64 4) (j := 5) (by decide) rfl)
              clear hb3 hmid
              subst hn1 hn3
              go_wp2
              have hk := HK.out
              go_roundg (gI - 1)
              case measure => omega
              case rel =>
                refine ⟨i + 1, D ++ [(⟨⟨a.c, a.h, a.n, a.s, ⟨#[]⟩, 4, false, [], (vo : Nat)⟩, .slice none 0 0⟩ : VotO)], by omega, by go_num, ⟨by rw [List.length_append, HD.out.1]; rfl, ?_⟩, Hid.in_ (HP.out.snoc (World.ownsRow_nil _ _ _ _) (fun p hp => by
                  cases hpb : p.v.ownBlock with
                  | none => exact .inl rfl
                  | some z => exact .inr (by intro e; cases e)))⟩
                rw [List.map_append, HD.out.2, List.take_add_one, HA.out, List.map_append]
                show _ ++ [(_ : VotR)] = _ ++ [mergeV ls a]
                rw [HMV.out]
            · subst hn1
              have hn3p : (0 : Int) < (n3 : Int) := by omega
              have hN := data_size (fs := ls.flatten) (a := a) (st := 3) HG.out (by omega)
              obtain ⟨NR, hNR⟩ : ∃ NR, revLen (dataOf ls.flatten a 3) = NR := ⟨_, rfl⟩
              have hN1 : ∀ s ∈ (P3).map FndR.d, s.size = NR := fun s hs => by rw [← hNR]; exact (hN s (by rw [← HP3.out] at hs; exact hs)).1
              have hN2 : NR ≤ 1024 := by
                obtain ⟨s, hs⟩ : ∃ s, s ∈ (P3).map FndR.d := by
                  cases hp : (P3) with
                  | nil => exfalso; have := Hn3.out; rw [hp] at this; exact hn3 this.symm
                  | cons x r => exact ⟨x.d, by simp⟩
                rw [← hN1 s hs]
                exact (hN s (by rw [← HP3.out] at hs; exact hs)).2
              have HFL := Hid.in_ (spec_l10Fill w3 HOB.out HM3.out.row hmid (by omega) hn3b hN1 hN2)
              obtain ⟨W, hW⟩ : ∃ W, placesTo (diffAt ((P3).map FndR.d)) NR = W := ⟨_, rfl⟩
              obtain ⟨DD, hDD⟩ : ∃ DD : ByteArray, (⟨(voteTo ((P3).map FndR.d) NR).toArray⟩ : ByteArray) = DD := ⟨_, rfl⟩
              obtain ⟨bx, hbx⟩ : ∃ bx, decide (n3 < 2 * ((P3).filter FndR.l).length) = bx := ⟨_, rfl⟩
              rw [hW, hDD, hbx] at HFL
              have HMV := Hid.in_ (show mergeV ls a = ⟨a.c, a.h, a.n, a.s, DD, 3, bx, W, (vo : Nat)⟩ by
                have e1 : (dataOf ls.flatten a 3).length = n3 := by rw [data_len, ← Hn3.out, HP3.out]
                rw [merge_two (by rw [data_len, HP1.out, Hn1.out]; omega) (by omega)]
                unfold fillV
                rw [e1, hNR, ← HVF.out]
                unfold dataOf delOf
                rw [HP3.out, hW, hDD, hbx])
              clear hN hN1 hN2 hNR hW hDD hbx
              go_wp2_with fail
              refine HFL.out.mono ?_
              rintro e w4 ⟨rfl, wv, how, hor, hgr⟩
              have hm4 := HM3.out.turn (X' := (keyV a vo).fill DD bx W wv :: (KS.drop (i + 1)).map keyO) (by
                rw [mid_set' HD.out.1] at hor
                exact hor) hgr
              have HAP := Hid.in_ (show ∀ p ∈ D, p.v.ownBlock = none ∨ p.v.ownBlock ≠ wv.ownBlock from fun p hp => own_apart (HM3.out.weak p hp) how (Nat.le_refl _))
              have HWV := Hid.in_ (own_base how HM3.out.low.size)
              have HM4 := Hid.in_ hm4
              have hb4 := hm4.box HD.out.1
              obtain ⟨A9, c9, rfl, _, _, _⟩ := own_shape how
              have f5 := (own_box hm4.row).2.1 (i * 9 + 5)
              have d5 : w4.cell? ⟨g, i * 9 + 5, none⟩ = some (.int .i64 0) := hb4 5 _ rfl
              have d7 : w4.cell? ⟨g, i * 9 + 7, none⟩ = some (.slice A9 W.length c9) := hb4 7 _ rfl
              have HP := Hid.in_ (HM4.out.put HD.out.1 (⟨⟨a.c, a.h, a.n, a.s, DD, 3, bx, W, (vo : Nat)⟩, .slice A9 W.length c9⟩) (.int .i64 3) (j := 5) (by decide) rfl)
              have HWP := Hid.in_ (kept_apart (by decide) HWV.out HM4.out.row (own_setCells [.int .i64 3] (i * 9 + 5) HM4.out.row).2)
              clear hm4 hb4 how hor hgr
              go_wp2
              have hk := HK.out
              go_roundg (gI - 1)
              case measure => omega
              case rel =>
                refine ⟨i + 1, D ++ [(⟨⟨a.c, a.h, a.n, a.s, DD, 3, bx, W, (vo : Nat)⟩, .slice A9 W.length c9⟩ : VotO)], by omega, by go_num, ⟨by rw [List.length_append, HD.out.1]; rfl, ?_⟩, Hid.in_ (HP.out.snoc HWP.out HAP.out)⟩
                rw [List.map_append, HD.out.2, List.take_add_one, HA.out, List.map_append]
                show _ ++ [(_ : VotR)] = _ ++ [mergeV ls a]
                rw [HMV.out]
          · have hn1p : (0 : Int) < (n1 : Int) := by omega
            have hN := data_size (fs := ls.flatten) (a := a) (st := 1) HG.out (by omega)
            obtain ⟨NR, hNR⟩ : ∃ NR, revLen (dataOf ls.flatten a 1) = NR := ⟨_, rfl⟩
            have hN1 : ∀ s ∈ (P1).map FndR.d, s.size = NR := fun s hs => by rw [← hNR]; exact (hN s (by rw [← HP1.out] at hs; exact hs)).1
            have hN2 : NR ≤ 1024 := by
              obtain ⟨s, hs⟩ : ∃ s, s ∈ (P1).map FndR.d := by
                cases hp : (P1) with
                | nil => exfalso; have := Hn1.out; rw [hp] at this; exact hn1 this.symm
                | cons x r => exact ⟨x.d, by simp⟩
              rw [← hN1 s hs]
              exact (hN s (by rw [← HP1.out] at hs; exact hs)).2
            have HFL := Hid.in_ (spec_l10Fill w3 HOG.out HM3.out.row hmid (by omega) hn1b hN1 hN2)
            obtain ⟨W, hW⟩ : ∃ W, placesTo (diffAt ((P1).map FndR.d)) NR = W := ⟨_, rfl⟩
            obtain ⟨DD, hDD⟩ : ∃ DD : ByteArray, (⟨(voteTo ((P1).map FndR.d) NR).toArray⟩ : ByteArray) = DD := ⟨_, rfl⟩
            obtain ⟨bx, hbx⟩ : ∃ bx, decide (n1 < 2 * ((P1).filter FndR.l).length) = bx := ⟨_, rfl⟩
            rw [hW, hDD, hbx] at HFL
            have HMV := Hid.in_ (show mergeV ls a = ⟨a.c, a.h, a.n, a.s, DD, if W.length = 0 then 1 else 5, bx, W, (vo : Nat)⟩ by
              have e1 : (dataOf ls.flatten a 1).length = n1 := by rw [data_len, ← Hn1.out, HP1.out]
              rw [merge_one (by omega)]
              unfold fillV
              rw [e1, hNR, ← HVF.out]
              unfold dataOf delOf
              rw [HP1.out, hW, hDD, hbx])
            clear hN hN1 hN2 hNR hW hDD hbx
            go_wp2_with fail
            refine HFL.out.mono ?_
            rintro e w4 ⟨rfl, wv, how, hor, hgr⟩
            have hm4 := HM3.out.turn (X' := (keyV a vo).fill DD bx W wv :: (KS.drop (i + 1)).map keyO) (by
              rw [mid_set' HD.out.1] at hor
              exact hor) hgr
            have HAP := Hid.in_ (show ∀ p ∈ D, p.v.ownBlock = none ∨ p.v.ownBlock ≠ wv.ownBlock from fun p hp => own_apart (HM3.out.weak p hp) how (Nat.le_refl _))
            have HWV := Hid.in_ (own_base how HM3.out.low.size)
            have HM4 := Hid.in_ hm4
            have hb4 := hm4.box HD.out.1
            obtain ⟨A9, c9, rfl, _, _, _⟩ := own_shape how
            have f5 := (own_box hm4.row).2.1 (i * 9 + 5)
            have d5 : w4.cell? ⟨g, i * 9 + 5, none⟩ = some (.int .i64 0) := hb4 5 _ rfl
            have d7 : w4.cell? ⟨g, i * 9 + 7, none⟩ = some (.slice A9 W.length c9) := hb4 7 _ rfl
            have HP := Hid.in_ (HM4.out.put HD.out.1 (⟨⟨a.c, a.h, a.n, a.s, DD, 1, bx, W, (vo : Nat)⟩, .slice A9 W.length c9⟩) (.int .i64 1) (j := 5) (by decide) rfl)
            have HWP := Hid.in_ (kept_apart (by decide) HWV.out HM4.out.row (own_setCells [.int .i64 1] (i * 9 + 5) HM4.out.row).2)
            clear hm4 hb4 how hor hgr
            by_cases hW0 : W.length = 0
            · rw [hW0] at d7
              go_wp2
              have hk := HK.out
              go_roundg (gI - 1)
              case measure => omega
              case rel =>
                refine ⟨i + 1, D ++ [(⟨⟨a.c, a.h, a.n, a.s, DD, 1, bx, W, (vo : Nat)⟩, .slice A9 W.length c9⟩ : VotO)], by omega, by go_num, ⟨by rw [List.length_append, HD.out.1]; rfl, ?_⟩, Hid.in_ (HP.out.snoc HWP.out HAP.out)⟩
                rw [List.map_append, HD.out.2, List.take_add_one, HA.out, List.map_append]
                show _ ++ [(_ : VotR)] = _ ++ [mergeV ls a]
                rw [HMV.out, if_pos hW0]
            · have hWp : (0 : Int) < (W.length : Int) := by omega
              have HQ5 := Hid.in_ (HP.out.put HD.out.1 (⟨⟨a.c, a.h, a.n, a.s, DD, 5, bx, W, (vo : Nat)⟩, .slice A9 W.length c9⟩) (.int .i64 5) (j := 5) (by decide) rfl)
              have HWQ := Hid.in_ (kept_apart (by decide) HWP.out HP.out.row (own_setCells [.int .i64 5] (i * 9 + 5) HP.out.row).2)
              go_wp2
              have hk := HK.out
              go_roundg (gI - 1)
              case measure => omega
              case rel =>
                refine ⟨i + 1, D ++ [(⟨⟨a.c, a.h, a.n, a.s, DD, 5, bx, W, (vo : Nat)⟩, .slice A9 W.length c9⟩ : VotO)], by omega, by go_num, ⟨by rw [List.length_append, HD.out.1]; rfl, ?_⟩, Hid.in_ (HQ5.out.snoc HWQ.out HAP.out)⟩
                rw [List.map_append, HD.out.2, List.take_add_one, HA.out, List.map_append]
                show _ ++ [(_ : VotR)] = _ ++ [mergeV ls a]
                rw [HMV.out, if_neg hW0]
    · have hk := HK.out
      obtain rfl : i = K := by omega
      have HF := Hid.in_ (show D.map VotO.r = mgV ls ∧ VRow wr w.heap.size (.slice (some ⟨g, 0, none⟩) i cq) D from ⟨by
        rw [HD.out.2, HMG.out, List.take_of_length_le (by rw [HKL.out]; exact Nat.le_refl _)], by
        have hr := HM.out.row
        rw [List.drop_of_length_le (by rw [HKL.out]; exact Nat.le_refl _), List.map_nil, List.append_nil] at hr
        refine ⟨?_, HM.out.weak, HM.out.apart⟩
        rw [HD.out.1]; exact hr⟩)
      go_wp2
      go_ret
      exact ⟨_, D, rfl, HF.out.1, HF.out.2, HM.out.low⟩
end Go.Proofs.Ytlelgpknkgjaeaa
