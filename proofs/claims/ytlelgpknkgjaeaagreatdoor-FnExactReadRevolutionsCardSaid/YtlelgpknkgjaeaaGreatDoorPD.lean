/- Several texts in one: Rr, VotMk, VotHd, Door. -/
import Derived.Test.YtlelgpknkgjaeaaGreatDoorPC
import Derived.Test.YtlelgpknkgjaeaaGreatDoorPB
import Derived.Test.YtlelgpknkgjaeaaGreatDoorPA
import Derived.Test.YtlelgpknkgjaeaaGreatDoorI64
import Derived.Test.YtlelgpknkgjaeaaGreatDoorLaw
import Derived.LaidSub
import Derived.Lib.LaidTab
import Derived.Deep.DeepHandedRow
import Derived.SevenTiedAt
import GoSem.ClaimSeven
/- 'ReadRevolutions' of the program and of the reference. -/
namespace Go.Proofs.YtlelgpknkgjaeaaGreatDoor
open Go.ChangeShapes Go.WideShapes Go.ChangeAt Go.RowKit
set_option linter.unusedSimpArgs false
set_option linter.unusedVariables false
set_option maxRecDepth 4000

theorem ret_vi {v : Value} {a b : Int} (h : a = b) : Ending.returned (.tuple #[v, .int .i64 a]) = .returned (.tuple #[v, .int .i64 b]) := by rw [h]
theorem Tryz.info_Fs2 : (Tryz.prog.info? 28).map (fun i => (i.zero, i.size, i.bytes)) = some (some (.slice none 0 0), 1, 24) := by kernel_rfl
theorem FsRow.push {w w1 w2 : World} {b : Nat} {v v2 x : Value} {os : List FsO} {r : List FndR} (h : FsRow w b v os) (k : Below w.heap.size w w1) (hx : w1.ownsRow w.heap.size 63 8 x r.length (r.flatMap FndR.cells)) (hb : b ≤ w.heap.size)
    (ho : w2.ownsRow b 28 1 v2 (os.length + 1) (os.flatMap FsO.cells ++ [x])) (o : Obj) (hg : (w1.alloc o).grownBy w2 v.ownBlock) : FsRow w2 b v2 (os ++ [⟨r, x⟩]) := by
  have hr := (ostep k h.row).alloc o
  refine ⟨by rw [List.length_append, List.flatMap_append]; exact ho, fun p hp => ?_, fpair_snoc (o := ⟨r, x⟩) h.apart h.each hx (Nat.le_refl _)⟩
  rcases List.mem_append.1 hp with hp | hp
  · exact kept_apart (by decide) ((ostep k (h.each p hp)).alloc o) hr hg
  · rw [List.mem_singleton] at hp
    subst hp
    exact kept_apart (by decide) ((own_base hx hb).alloc o) hr hg
set_option maxHeartbeats 4000000 in
theorem spec_ReadRevolutions {v : Value} {n b : Nat} {l : List ByteArray} (f : Int) (w : World) (h : w.ownsRow b 9 1 v n (Strs l)) (hk : ∀ s ∈ l, s.size ≤ 1048576) :
    Calls Tryz.prog 18 #[v, .int .i64 f] w fun e w' => ∃ v' os', e = .returned (.tuple #[v', .int .i64 (rrC l f)]) ∧ os'.map VotO.r = rrV l f ∧ VRow w' w.heap.size v' os' ∧ Below w.heap.size w w' := by
  obtain ⟨i0, hti, hz0, hz1, hz2⟩ := info_parts Tryz.info_Fs2
  have hlx : l.length = n := by have := h.1; rw [Strs_len] at this; omega
  have hv0 := spec_l10Ok w h (fun s hs => Nat.le_trans (hk s hs) (by omega))
  have HO := Hid.in_ h
  have HL := Hid.in_ hlx
  have HSZ0 := Hid.in_ hk
  obtain ⟨A, c, rfl, _, hn, hA⟩ := own_shape h
  have H1 := Hid.in_ hA
  have HVR := Hid.in_ hv0
  clear h hA hk hlx hv0
  cases hr : revsOk l
  · have HX := Hid.in_ (rr_bad (l := l) (f := f) (by unfold rrOk; rw [hr]; rfl))
    rw [hr] at HVR
    clear hr
    go_enter Tryz.func18, Tryz.ntmps18
    go_wp2_with fail
    refine HVR.out.mono ?_
    rintro e w1 ⟨rfl, hb1⟩
    go_wp2
    go_ret2
    exact ⟨_, [], ret_vi HX.out.1.symm, by rw [HX.out.2]; rfl, VRow.nil _ _, hb1⟩
  rw [hr] at HVR
  cases hf : inB f 1 3
  · have HX := Hid.in_ (rr_bad (l := l) (f := f) (by unfold rrOk; rw [hr, hf]; rfl))
    clear hr
    go_enter Tryz.func18, Tryz.ntmps18
    go_wp2_with fail
    refine HVR.out.mono ?_
    rintro e w1 ⟨rfl, hb1⟩
    go_wp2_with (go_at_call 34; refine (spec_l07Format _ _).mono ?_; rintro e w' ⟨rfl, rfl⟩)
    go_ret2
    exact ⟨_, [], ret_vi HX.out.1.symm, by rw [HX.out.2]; rfl, VRow.nil _ _, hb1⟩
  · have hn5 : n ≤ 5 := by
      unfold revsOk at hr
      rw [Bool.and_eq_true] at hr
      have := inB_t hr.1
      rw [HL.out] at this
      omega
    have HOK := Hid.in_ (show rrOk l f = true by unfold rrOk; rw [hr, hf]; rfl)
    clear hr
    go_enter Tryz.func18, Tryz.ntmps18
    go_wp2_with fail
    refine HVR.out.mono ?_
    rintro e w1 ⟨rfl, hb1⟩
    have HB1 := Hid.in_ hb1
    clear hb1
    go_wp2_with (go_at_call 34; refine (spec_l07Format _ _).mono ?_; rintro e w' ⟨rfl, rfl⟩)
    go_loopg [6, 7] n (fun m v6 vk wr => ∃ (k : Nat) (os : List FsO), k + m = n ∧ vk = .int .i64 k ∧ Hid (os.length = k ∧ os.map FsO.r = (rdsV l f).take k) ∧ Hid (∀ j x, j < k → l[j]? = some x → fmCode x f = 0) ∧ Hid (FsRow wr w.heap.size v6 os) ∧ Hid (Below w.heap.size w wr))
    case atStart => exact ⟨0, [], by omega, rfl, ⟨rfl, rfl⟩, (fun j x hj => absurd hj (by omega)), ⟨World.ownsRow_lit w1 #[] 0 HB1.out.size (by decide) (by decide), (fun o ho => by cases ho), List.Pairwise.nil⟩, balloc HB1.out _⟩
    case round =>
      obtain ⟨k, os, hkm, rfl, HOS, HA, HI, HB⟩ := hrel
      have HK := Hid.in_ hkm
      clear hkm
      by_cases hlt : k < n
      · obtain ⟨g, rfl, _, hg, hx, _⟩ := H1.out (by omega)
        obtain ⟨s, hs⟩ := get_lt l k (by rw [HL.out]; exact hlt)
        have c0 : wr.cell? ⟨g, k, none⟩ = some (.string s) := cstep HB.out (hx k _ (by unfold Strs; rw [List.getElem?_map, hs]; rfl))
        have HSZ := Hid.in_ (HSZ0.out s (List.mem_of_getElem? hs))
        have HS := Hid.in_ hs
        have HTK := Hid.in_ (show (rdsV l f).take (k + 1) = (rdsV l f).take k ++ [readV s f] by
          rw [List.take_add_one]; unfold rdsV; rw [List.getElem?_map, hs]; rfl)
        have hgw : g < wr.heap.size := Nat.lt_of_lt_of_le hg HB.out.size
        clear hx hs
        obtain ⟨cd, hcd⟩ : ∃ cd, fmCode s f = cd := ⟨_, rfl⟩
        have HRT := Hid.in_ (spec_ReadTrack s f wr HSZ.out)
        rw [hcd] at HRT
        have HCD := Hid.in_ hcd
        clear hcd
        go_wp2_with fail
        refine HRT.out.mono ?_
        rintro e w2 ⟨v2, rfl, ho2, hb2⟩
        obtain ⟨R, hR⟩ : ∃ R, readV s f = R := ⟨_, rfl⟩
        rw [hR] at ho2 HTK
        have HB2 := Hid.in_ (HB.out.trans (hb2.mono HB.out.size))
        by_cases hc0 : cd = 0
        · subst hc0
          obtain ⟨A9, c9, rfl, _, _, _⟩ := own_shape ho2
          have HI2 := Hid.in_ (HI.out.step hb2)
          have HO2 := Hid.in_ ho2
          have Hb2 := Hid.in_ hb2
          have hosb : os.length ≤ 5 := by rw [HOS.out.1]; omega
          clear ho2 hb2 c0 hR
          go_wp2_with (at_builtin; refine wpList_append_own _ rfl _ _ 68 rfl w.heap.size 28 i0 (.slice none 0 0) 1 24 Tryz.underlying68 hti hz0 hz1 hz2 rfl (by decide) _ _ _ rfl (HI2.out.row.alloc _) ⟨w2.heap.size, 0, none⟩ 1 1 [.slice A9 R.length c9] rfl rfl (cell_one_new _ _ _) (fun x hx => by simp at hx; subst hx; rfl) (by unfold maxLen; omega) (by omega) (balloc HB2.out _).size ?_; intro v4 w4 ho4 hg4 _)
          have HB4 := Hid.in_ (bgrown (balloc HB2.out _) (HI2.out.row.alloc _) (Nat.le_refl _) hg4)
          have HI4 := Hid.in_ (HI.out.push Hb2.out HO2.out HB.out.size ho4 _ hg4)
          clear ho4 hg4
          have hk := HK.out
          go_roundg (gk - 1)
          case measure => omega
          case rel =>
            refine ⟨k + 1, os ++ [(⟨R, .slice A9 R.length c9⟩ : FsO)], by omega, by go_num, ⟨by rw [List.length_append, HOS.out.1]; rfl, by rw [List.map_append, HOS.out.2, HTK.out]; rfl⟩, Hid.in_ (fun j x hj hx => ?_), HI4, HB4⟩
            rcases Nat.lt_or_ge j k with h1 | h1
            · exact HA.out j x h1 hx
            · obtain rfl : j = k := by omega
              rw [HS.out] at hx
              injection hx with hx
              rw [← hx]; exact HCD.out
        · have hne : (cd != 0) = true := by simp [hc0]
          have HX := Hid.in_ (rr_code HOK.out HA.out HS.out (by rw [HCD.out]; exact hc0))
          obtain ⟨A9, c9, rfl, _, _, _⟩ := own_shape ho2
          clear ho2 hb2 c0 hR
          go_wp2
          go_ret2
          exact ⟨_, [], ret_vi (by rw [HX.out.1, HCD.out]), by rw [HX.out.2]; rfl, VRow.nil _ _, HB2.out⟩
      · have hk := HK.out
        obtain rfl : k = n := by omega
        have HRF := Hid.in_ (rds_facts l f)
        have HNR := Hid.in_ (show (rdsV l f).length = k by unfold rdsV; rw [List.length_map, HL.out])
        have HLL := Hid.in_ (show os.map FsO.r = rdsV l f by rw [HOS.out.2, List.take_of_length_le (by rw [HNR.out]; exact Nat.le_refl _)])
        have HY := Hid.in_ (rr_good HL.out HOK.out HA.out)
        go_wp2_with fail
        refine (spec_l10Merge wr HI.out HLL.out HNR.out HRF.out.1 (by omega) HRF.out.2.1).mono ?_
        rintro e w2 ⟨v2, os2, rfl, hm2, hr2, hb2⟩
        have HB2 := Hid.in_ (HB.out.trans (hb2.mono HB.out.size))
        have HR2 := Hid.in_ (hr2.base HB.out.size)
        have HM2 := Hid.in_ hm2
        clear hb2 hr2 hm2
        go_wp2
        go_ret2
        exact ⟨_, os2, ret_vi HY.out.1.symm, by rw [HY.out.2]; exact HM2.out, HR2.out, HB2.out⟩
set_option maxHeartbeats 4000000 in
theorem impl_ReadRevolutions {v : Value} {n b : Nat} {l : List ByteArray} (f : Int) (w : World) (h : w.ownsRow b 9 1 v n (Strs l)) (hk : ∀ s ∈ l, s.size ≤ 1048576) (hT : Tab w) :
    Calls Tryz.prog 20 #[v, .int .i64 f] w fun e w' => ∃ v' os', e = .returned (.tuple #[v', .int .i64 (rrC l f)]) ∧ os'.map VotO.r = rrV l f ∧ VRow w' w.heap.size v' os' ∧ Below w.heap.size w w' := by
  obtain ⟨i0, hti, hz0, hz1, hz2⟩ := info_parts Tryz.info_Fs2
  have hlx : l.length = n := by have := h.1; rw [Strs_len] at this; omega
  have hv0 := impl_ValidRevolutions w h (fun s hs => Nat.le_trans (hk s hs) (by omega))
  have HO := Hid.in_ h
  have HTB := Hid.in_ hT
  have HL := Hid.in_ hlx
  have HSZ0 := Hid.in_ hk
  obtain ⟨A, c, rfl, _, hn, hA⟩ := own_shape h
  have H1 := Hid.in_ hA
  have HVR := Hid.in_ hv0
  clear h hA hk hlx hv0 hT
  cases hr : revsOk l
  · have HX := Hid.in_ (rr_bad (l := l) (f := f) (by unfold rrOk; rw [hr]; rfl))
    rw [hr] at HVR
    clear hr
    go_enter Tryz.func20, Tryz.ntmps20
    go_wp2_with fail
    refine HVR.out.mono ?_
    rintro e w1 ⟨rfl, hb1⟩
    go_wp2
    go_ret2
    exact ⟨_, [], ret_vi HX.out.1.symm, by rw [HX.out.2]; rfl, VRow.nil _ _, hb1⟩
  rw [hr] at HVR
  cases hf : inB f 1 3
  · have HX := Hid.in_ (rr_bad (l := l) (f := f) (by unfold rrOk; rw [hr, hf]; rfl))
    clear hr
    go_enter Tryz.func20, Tryz.ntmps20
    go_wp2_with fail
    refine HVR.out.mono ?_
    rintro e w1 ⟨rfl, hb1⟩
    go_wp2_with (go_at_call 37; refine (impl_isFormat _ _).mono ?_; rintro e w' ⟨rfl, rfl⟩)
    go_ret2
    exact ⟨_, [], ret_vi HX.out.1.symm, by rw [HX.out.2]; rfl, VRow.nil _ _, hb1⟩
  · have hn5 : n ≤ 5 := by
      unfold revsOk at hr
      rw [Bool.and_eq_true] at hr
      have := inB_t hr.1
      rw [HL.out] at this
      omega
    have HOK := Hid.in_ (show rrOk l f = true by unfold rrOk; rw [hr, hf]; rfl)
    clear hr
    go_enter Tryz.func20, Tryz.ntmps20
    go_wp2_with fail
    refine HVR.out.mono ?_
    rintro e w1 ⟨rfl, hb1⟩
    have HB1 := Hid.in_ hb1
    clear hb1
    go_wp2_with (go_at_call 37; refine (impl_isFormat _ _).mono ?_; rintro e w' ⟨rfl, rfl⟩)
    go_loopg [6, 21] n (fun m v6 vk wr => ∃ (k : Nat) (os : List FsO), k + m = n ∧ vk = .int .i64 k ∧ Hid (os.length = k ∧ os.map FsO.r = (rdsV l f).take k) ∧ Hid (∀ j x, j < k → l[j]? = some x → fmCode x f = 0) ∧ Hid (FsRow wr w.heap.size v6 os) ∧ Hid (Below w.heap.size w wr))
    case atStart => exact ⟨0, [], by omega, rfl, ⟨rfl, rfl⟩, (fun j x hj => absurd hj (by omega)), ⟨World.ownsRow_nil _ _ _ _, (fun o ho => by cases ho), List.Pairwise.nil⟩, HB1.out⟩
    case round =>
      obtain ⟨k, os, hkm, rfl, HOS, HA, HI, HB⟩ := hrel
      have HK := Hid.in_ hkm
      clear hkm
      by_cases hlt : k < n
      · obtain ⟨g, rfl, _, hg, hx, _⟩ := H1.out (by omega)
        obtain ⟨s, hs⟩ := get_lt l k (by rw [HL.out]; exact hlt)
        have c0 : wr.cell? ⟨g, k, none⟩ = some (.string s) := cstep HB.out (hx k _ (by unfold Strs; rw [List.getElem?_map, hs]; rfl))
        have HSZ := Hid.in_ (HSZ0.out s (List.mem_of_getElem? hs))
        have HS := Hid.in_ hs
        have HTK := Hid.in_ (show (rdsV l f).take (k + 1) = (rdsV l f).take k ++ [readV s f] by
          rw [List.take_add_one]; unfold rdsV; rw [List.getElem?_map, hs]; rfl)
        have hgw : g < wr.heap.size := Nat.lt_of_lt_of_le hg HB.out.size
        clear hx hs
        obtain ⟨cd, hcd⟩ : ∃ cd, fmCode s f = cd := ⟨_, rfl⟩
        have HRT := Hid.in_ (impl_ReadTrack s f wr HSZ.out (HTB.out.step HB.out))
        rw [hcd] at HRT
        have HCD := Hid.in_ hcd
        clear hcd
        go_wp2_with fail
        refine HRT.out.mono ?_
        rintro e w2 ⟨v2, rfl, ho2, hb2⟩
        obtain ⟨R, hR⟩ : ∃ R, readV s f = R := ⟨_, rfl⟩
        rw [hR] at ho2 HTK
        have HB2 := Hid.in_ (HB.out.trans (hb2.mono HB.out.size))
        by_cases hc0 : cd = 0
        · subst hc0
          obtain ⟨A9, c9, rfl, _, _, _⟩ := own_shape ho2
          have HI2 := Hid.in_ (HI.out.step hb2)
          have HO2 := Hid.in_ ho2
          have Hb2 := Hid.in_ hb2
          have hosb : os.length ≤ 5 := by rw [HOS.out.1]; omega
          clear ho2 hb2 c0 hR
          go_wp2_with (at_builtin; refine wpList_append_own _ rfl _ _ 68 rfl w.heap.size 28 i0 (.slice none 0 0) 1 24 Tryz.underlying68 hti hz0 hz1 hz2 rfl (by decide) _ _ _ rfl (HI2.out.row.alloc _) ⟨w2.heap.size, 0, none⟩ 1 1 [.slice A9 R.length c9] rfl rfl (cell_one_new _ _ _) (fun x hx => by simp at hx; subst hx; rfl) (by unfold maxLen; omega) (by omega) (balloc HB2.out _).size ?_; intro v4 w4 ho4 hg4 _)
          have HB4 := Hid.in_ (bgrown (balloc HB2.out _) (HI2.out.row.alloc _) (Nat.le_refl _) hg4)
          have HI4 := Hid.in_ (HI.out.push Hb2.out HO2.out HB.out.size ho4 _ hg4)
          clear ho4 hg4
          have hk := HK.out
          go_roundg (gk - 1)
          case measure => omega
          case rel =>
            refine ⟨k + 1, os ++ [(⟨R, .slice A9 R.length c9⟩ : FsO)], by omega, by go_num, ⟨by rw [List.length_append, HOS.out.1]; rfl, by rw [List.map_append, HOS.out.2, HTK.out]; rfl⟩, Hid.in_ (fun j x hj hx => ?_), HI4, HB4⟩
            rcases Nat.lt_or_ge j k with h1 | h1
            · exact HA.out j x h1 hx
            · obtain rfl : j = k := by omega
              rw [HS.out] at hx
              injection hx with hx
              rw [← hx]; exact HCD.out
        · have hne : (cd != 0) = true := by simp [hc0]
          have HX := Hid.in_ (rr_code HOK.out HA.out HS.out (by rw [HCD.out]; exact hc0))
          obtain ⟨A9, c9, rfl, _, _, _⟩ := own_shape ho2
          clear ho2 hb2 c0 hR
          go_wp2
          go_ret2
          exact ⟨_, [], ret_vi (by rw [HX.out.1, HCD.out]), by rw [HX.out.2]; rfl, VRow.nil _ _, HB2.out⟩
      · have hk := HK.out
        obtain rfl : k = n := by omega
        have HRF := Hid.in_ (rds_facts l f)
        have HNR := Hid.in_ (show (rdsV l f).length = k by unfold rdsV; rw [List.length_map, HL.out])
        have HLL := Hid.in_ (show os.map FsO.r = rdsV l f by rw [HOS.out.2, List.take_of_length_le (by rw [HNR.out]; exact Nat.le_refl _)])
        have HY := Hid.in_ (rr_good HL.out HOK.out HA.out)
        go_wp2_with fail
        refine (impl_mergeFound wr HI.out HLL.out HNR.out HRF.out.1 (by omega) HRF.out.2.1 HRF.out.2.2).mono ?_
        rintro e w2 ⟨v2, os2, rfl, hm2, hr2, hb2⟩
        have HB2 := Hid.in_ (HB.out.trans (hb2.mono HB.out.size))
        have HR2 := Hid.in_ (hr2.base HB.out.size)
        have HM2 := Hid.in_ hm2
        clear hb2 hr2 hm2
        go_wp2
        go_ret2
        exact ⟨_, os2, ret_vi HY.out.1.symm, by rw [HY.out.2]; exact HM2.out, HR2.out, HB2.out⟩
end Go.Proofs.YtlelgpknkgjaeaaGreatDoor

/- The marks of rows of voted sectors: 'markVotedS', 'heldVotedS'. -/
namespace Go.Proofs.YtlelgpknkgjaeaaGreatDoor
open Go.ChangeShapes Go.WideShapes Go.ChangeAt Go.RowKit
set_option linter.unusedSimpArgs false
set_option linter.unusedVariables false
set_option maxRecDepth 8000

def VotR.zero : VotR := ⟨0, 0, 0, 0, ⟨#[]⟩, 0, false, [], 0⟩
def VotR.mark (q len : Nat) : VotR := ⟨((q : Nat) : Int), ((q + 1 : Nat) : Int), ((q + 2 : Nat) : Int), ((q + 3 : Nat) : Int), markT (q + 4), ((q + 5 : Nat) : Int), mod3 (q + 6), marks ((q + 7 : Nat) : Int) len, ((q + 7 + len : Nat) : Int)⟩
def vAt (l : List VotR) (j : Nat) : VotR := l.getD j VotR.zero
theorem vAt_eq {l : List VotR} {j : Nat} {m : VotR} (h : l[j]? = some m) : vAt l j = m := by unfold vAt; rw [List.getD_eq_getElem?_getD, h]; rfl
def posAt (m : Nat) (l : List VotR) (k : Nat) : Nat := m + 8 * k + sumTo l k
def mkVAt (m : Nat) (l : List VotR) (j : Nat) : VotR := VotR.mark (posAt m l j) (vAt l j).l.length
def mkTo (m : Nat) (l : List VotR) (k : Nat) : List VotR := (List.range k).map (mkVAt m l) ++ l.drop k
theorem posAt_next {m : Nat} {l : List VotR} {k : Nat} {r : VotR} (h : l[k]? = some r) : posAt m l (k + 1) = posAt m l k + 8 + r.l.length := by
  unfold posAt
  rw [sumTo_next h]
  omega
theorem sumTo_mono (l : List VotR) : ∀ (n k : Nat), k ≤ n → n ≤ l.length → sumTo l k ≤ sumTo l n
  | 0, k, h, _ => by
    obtain rfl : k = 0 := by omega
    exact Nat.le_refl _
  | n + 1, k, h, hn => by
    rcases Nat.lt_or_ge k (n + 1) with h1 | h1
    · obtain ⟨r, hr⟩ := get_lt l n (by omega)
      rw [sumTo_next hr]
      have := sumTo_mono l n k (by omega) (by omega)
      omega
    · obtain rfl : k = n + 1 := by omega
      exact Nat.le_refl _
theorem sumTo_le {l : List VotR} {n : Nat} (h : l.length = n) : ∀ k, k ≤ n → sumTo l k ≤ sumTo l n := fun k hk => sumTo_mono l n k hk (by omega)
theorem mkTo_zero (m : Nat) (l : List VotR) : mkTo m l 0 = l := by simp [mkTo]
theorem mkTo_len (m : Nat) (l : List VotR) {k : Nat} (h : k ≤ l.length) : (mkTo m l k).length = l.length := by unfold mkTo; rw [List.length_append, List.length_map, List.length_range, List.length_drop]; omega
theorem mkTo_at (m : Nat) (l : List VotR) {k : Nat} {r : VotR} (h : l[k]? = some r) : (mkTo m l k)[k]? = some r := by
  unfold mkTo
  rw [List.getElem?_append_right (by simp), List.length_map, List.length_range, Nat.sub_self, List.getElem?_drop, Nat.add_zero]
  exact h
theorem mkTo_step (m : Nat) (l : List VotR) {k : Nat} (h : k < l.length) : (mkTo m l k).set k (mkVAt m l k) = mkTo m l (k + 1) := by
  unfold mkTo
  rw [List.set_append_right _ _ (by simp), List.length_map, List.length_range, Nat.sub_self, List.drop_eq_getElem_cons h, List.set_cons_zero, List.range_succ, List.map_append]
  simp
theorem mkTo_got (m : Nat) (l : List VotR) {k j : Nat} (h : j < k) : (mkTo m l k)[j]? = some (mkVAt m l j) := by
  unfold mkTo
  rw [List.getElem?_append_left (by simpa using h), List.getElem?_map, List.getElem?_range h]
  rfl
theorem set_same {xs : List Value} {i : Nat} {v : Value} (h : xs[i]? = some v) : xs.set i v = xs := by
  apply List.ext_getElem?
  intro j
  by_cases hj : i = j
  · subst hj
    rw [List.getElem?_set_self (List.getElem?_eq_some_iff.1 h).1, h]
  · rw [List.getElem?_set_ne hj]
theorem setL_one (xs : List Value) (o : Nat) (v : Value) : setL xs o [v] = xs.set o v := rfl
/-- Element k of a row of records is marked: the other records stay. -/
theorem VRow.swap {w w' : World} {b k : Nat} {v : Value} {os : List VotO} {o : VotO} {r : VotR} (h : VRow w b v os) (hk : os[k]? = some o)
    (hrow : w'.ownsRow b 72 9 v os.length ((os.set k ⟨r, o.v⟩).flatMap VotO.cells)) (hne : 2 ≠ 72)
    (hw : ∀ p ∈ os, p.v.ownBlock = none ∨ p.v.ownBlock ≠ o.v.ownBlock → w'.ownsRow b 2 1 p.v p.r.l.length (I64 p.r.l)) (ho : w'.ownsRow b 2 1 o.v r.l.length (I64 r.l)) :
    VRow w' b v (os.set k ⟨r, o.v⟩) := by
  have hl : k < os.length := (List.getElem?_eq_some_iff.1 hk).1
  have hap : (os.set k ⟨r, o.v⟩).map VotO.v = os.map VotO.v := by
    apply List.ext_getElem?
    intro i
    rw [List.getElem?_map, List.getElem?_map]
    by_cases hi : k = i
    · subst hi
      rw [List.getElem?_set_self hl, hk]
      rfl
    · rw [List.getElem?_set_ne hi]
  have hpv : (os.map VotO.v).Pairwise fun a b => a.ownBlock = none ∨ a.ownBlock ≠ b.ownBlock := by rw [List.pairwise_map]; exact h.apart
  refine ⟨by rw [List.length_set]; exact hrow, fun p hp => ?_, ?_⟩
  · obtain ⟨i, hi⟩ := List.getElem?_of_mem hp
    by_cases hik : k = i
    · subst hik
      rw [List.getElem?_set_self hl] at hi
      injection hi with hi
      subst hi
      exact ho
    · rw [List.getElem?_set_ne hik] at hi
      refine hw p (List.mem_of_getElem? hi) ?_
      have hpw := List.pairwise_iff_getElem.1 h.apart
      have hil : i < os.length := (List.getElem?_eq_some_iff.1 hi).1
      have e1 : os[i] = p := by rw [List.getElem?_eq_getElem hil] at hi; injection hi
      have e2 : os[k] = o := by rw [List.getElem?_eq_getElem hl] at hk; injection hk
      rcases Nat.lt_or_gt_of_ne hik with h1 | h1
      · have := hpw k i hl hil h1
        rw [e1, e2] at this
        cases hpb : p.v.ownBlock with
        | none => exact .inl rfl
        | some q =>
          rcases this with h2 | h2
          · exact .inr (by rw [h2]; intro e; cases e)
          · exact .inr (by rw [← hpb]; exact fun e => h2 e.symm)
      · have := hpw i k hil hl h1
        rw [e1, e2] at this
        exact this
  · have : ((os.set k ⟨r, o.v⟩).map VotO.v).Pairwise fun a b => a.ownBlock = none ∨ a.ownBlock ≠ b.ownBlock := by rw [hap]; exact hpv
    rw [List.pairwise_map] at this
    exact this
def votT (t : TypeId) : Bool := t == 72 || t == 2
theorem votT_v : votT 72 = true := by decide
theorem votT_i : votT 2 = true := by decide
set_option maxHeartbeats 4000000 in
theorem laws_markVotedS {v : Value} {b n : Nat} {os : List VotO} {l : List VotR} (m : Nat) (w : World) (h : VRow w b v os) (hl : os.map VotO.r = l) (hn : l.length = n) (hm : 0 < m) (hm2 : m ≤ 16777216) (hn2 : n ≤ 1048576) (hs2 : sumTo l n ≤ 1048576) (hs3 : ∀ k, k ≤ n → sumTo l k ≤ sumTo l n) (hbw : b ≤ w.heap.size) :
    Calls Tryz.prog 24 #[v, .int .i64 m] w fun e w' => e = .returned (.int .i64 (posAt m l n : Nat)) ∧ (∃ os', os'.map VotO.r = mkTo m l n ∧ VRow w' b v os') ∧ Tch votT b w w' := by
  have hno : os.length = n := by rw [← hn, ← hl, List.length_map]
  obtain ⟨A, c, rfl, _, hcn, _⟩ := own_shape h.row
  rw [hno] at hcn ⊢
  have HX := Hid.in_ hn
  have H0 := Hid.in_ (show ∃ os', os'.map VotO.r = mkTo m l 0 ∧ VRow w b (.slice A n c) os' from ⟨os, by rw [mkTo_zero, hl], by rw [hno] at h; exact h⟩)
  have HP := Hid.in_ (show ∀ k, k ≤ n → posAt m l k ≤ 33554432 from fun k hk => by have := hs3 k hk; unfold posAt; omega)
  clear h hl hno hn hs2 hs3
  go_enter Tryz.func24, Tryz.ntmps24
  go_wp2
  go_loopg [1, 5] n (fun r m' i wr => ∃ k q : Nat, k + r = n ∧ Hid (q = posAt m l k) ∧ i = .int .i64 k ∧ m' = .int .i64 q ∧ Hid (∃ os', os'.map VotO.r = mkTo m l k ∧ VRow wr b (.slice A n c) os') ∧ Hid (Tch votT b w wr))
  case atStart => exact ⟨0, m, by omega, show m = posAt m l 0 by simp [posAt, sumTo], rfl, rfl, H0.out, Tch.refl _ _ _⟩
  case round =>
    obtain ⟨k, q, hkm, HQ, rfl, rfl, HO, HT⟩ := hrel
    have HK := Hid.in_ hkm
    clear hkm
    by_cases hlt : k < n
    · obtain ⟨os, hos, hV⟩ := HO.out
      have hno : os.length = n := by have := congrArg List.length hos; rw [List.length_map, mkTo_len m l (by rw [HX.out]; omega), HX.out] at this; exact this
      obtain ⟨⟨r, v⟩, hr⟩ := get_lt os k (by rw [hno]; exact hlt)
      have hlr : l[k]? = some r := by
        obtain ⟨r', hr'⟩ := get_lt l k (by rw [HX.out]; exact hlt)
        have h1 := mkTo_at m l hr'
        rw [← hos, List.getElem?_map, hr] at h1
        injection h1 with h1
        rw [hr', ← h1]
      have HPN := Hid.in_ (posAt_next (m := m) hlr)
      have HMA := Hid.in_ (show mkVAt m l k = VotR.mark q r.l.length by unfold mkVAt; rw [vAt_eq hlr, HQ.out])
      have hqb : q ≤ 33554432 := by rw [HQ.out]; exact HP.out k (by omega)
      have hrow := hV.row
      rw [hno] at hrow
      obtain ⟨A', c', hv, hl', _, hA'⟩ := own_shape hrow
      obtain ⟨g, hg, _, _, hx, hfz⟩ := hA' (by omega)
      obtain ⟨rfl, rfl⟩ : A = A' ∧ c = c' := by injection hv with h1 h2 h3; exact ⟨h1, h3⟩
      subst hg
      have hwk := hV.weak _ (List.mem_of_getElem? hr)
      obtain ⟨N, hN⟩ : ∃ N, r.l.length = N := ⟨_, rfl⟩
      change wr.ownsRow b 2 1 v r.l.length (I64 r.l) at hwk
      rw [hN] at hwk HPN HMA
      have hNb : N ≤ 33554432 := by have := HP.out (k + 1) (by omega); rw [HPN.out] at this; omega
      obtain ⟨A2, c2, rfl, _, _, _⟩ := own_shape hwk
      obtain ⟨x0, x1, x2, x3, x4, x5, x6, x7, x8⟩ := boxAt9 (Box.elem VotO.len hx hr)
      have f0 := hfz (k * 9)
      have f1 := hfz (k * 9 + 1)
      have f2 := hfz (k * 9 + 2)
      have f3 := hfz (k * 9 + 3)
      have hS := own_setCells [.int .i64 ((q : Int)), .int .i64 ((q : Int) + 1), .int .i64 ((q : Int) + 2), .int .i64 ((q : Int) + 3)] (k * 9) hrow
      have HS1 := Hid.in_ hS.1
      have HW1 := Hid.in_ (show ∀ p ∈ os, (setCells wr g (k * 9) [.int .i64 ((q : Int)), .int .i64 ((q : Int) + 1), .int .i64 ((q : Int) + 2), .int .i64 ((q : Int) + 3)]).ownsRow b 2 1 p.v p.r.l.length (I64 p.r.l) from fun p hp => kept_apart (by decide) (hV.weak p hp) hrow hS.2)
      have HWK1 := Hid.in_ (kept_apart (by decide) hwk hrow hS.2)
      have HT1 := Hid.in_ (HT.out.trans (Tch.of_grown hrow hS.2 votT_v (Nat.le_refl _) (by have := HT.out.size; omega)))
      have HV := Hid.in_ hV
      have HR := Hid.in_ hr
      have HOS := Hid.in_ hos
      have HNO := Hid.in_ hno
      clear hS hx hfz hr hv hl' hA' hrow hV hos hno hlr hwk HO
      go_wp2_with fail
      refine (show Calls Tryz.prog 43 #[.int .i64 ((q : Int) + 4)] _ _ from laws_markText (q + 4) _ (by have := HP.out 0 (by omega); omega) (by omega)).mono ?_
      rintro e w2 ⟨rfl, hb2⟩
      have HS2 := Hid.in_ (ostep hb2 HS1.out)
      have HW2 := Hid.in_ (fun p hp => ostep hb2 (HW1.out p hp))
      have HWK2 := Hid.in_ (ostep hb2 HWK1.out)
      have HT2 := Hid.in_ (HT1.out.trans (Tch.of_below hb2 (by have := HT1.out.size; exact Nat.le_trans hbw this)))
      clear hb2 HS1 HW1 HWK1 HT1 x0 x1 x2 x3 x4 x5 x6 x7 x8 f0 f1 f2 f3
      obtain ⟨A', c', hv, hl', _, hA'⟩ := own_shape HS2.out
      obtain ⟨g', hg, _, _, hx2, hfz2⟩ := hA' (by omega)
      obtain ⟨rfl, rfl⟩ : some ⟨g, 0, none⟩ = A' ∧ c = c' := by injection hv with h1 h2 h3; exact ⟨h1, h3⟩
      obtain rfl : g = g' := by injection hg with h1; injection h1
      have hxl : (setL (os.flatMap VotO.cells) (k * 9) [.int .i64 ((q : Int)), .int .i64 ((q : Int) + 1), .int .i64 ((q : Int) + 2), .int .i64 ((q : Int) + 3)]).length = n * 9 := by rw [setL_len, flat_len VotO.len, HNO.out]
      have hx7 : (setL (os.flatMap VotO.cells) (k * 9) [.int .i64 ((q : Int)), .int .i64 ((q : Int) + 1), .int .i64 ((q : Int) + 2), .int .i64 ((q : Int) + 3)])[k * 9 + 7]? = some (.slice A2 N c2) := by
        have h := flat_get VotO.len os k 7 _ HR.out (by omega)
        show (((((os.flatMap VotO.cells).set (k * 9) _).set (k * 9 + 1) _).set (k * 9 + 1 + 1) _).set (k * 9 + 1 + 1 + 1) _)[k * 9 + 7]? = _
        rw [List.getElem?_set_ne (by omega), List.getElem?_set_ne (by omega), List.getElem?_set_ne (by omega), List.getElem?_set_ne (by omega)]
        exact h
      obtain ⟨u4, hu4⟩ := get_lt (setL (os.flatMap VotO.cells) (k * 9) [.int .i64 ((q : Int)), .int .i64 ((q : Int) + 1), .int .i64 ((q : Int) + 2), .int .i64 ((q : Int) + 3)]) (k * 9 + 4) (by omega)
      have d4 := hx2 (k * 9 + 4) _ hu4
      obtain ⟨u5, hu5⟩ := get_lt (setL (os.flatMap VotO.cells) (k * 9) [.int .i64 ((q : Int)), .int .i64 ((q : Int) + 1), .int .i64 ((q : Int) + 2), .int .i64 ((q : Int) + 3)]) (k * 9 + 5) (by omega)
      have d5 := hx2 (k * 9 + 5) _ hu5
      obtain ⟨u6, hu6⟩ := get_lt (setL (os.flatMap VotO.cells) (k * 9) [.int .i64 ((q : Int)), .int .i64 ((q : Int) + 1), .int .i64 ((q : Int) + 2), .int .i64 ((q : Int) + 3)]) (k * 9 + 6) (by omega)
      have d6 := hx2 (k * 9 + 6) _ hu6
      have d7 := hx2 (k * 9 + 7) _ hx7
      have f4 := hfz2 (k * 9 + 4)
      have f5 := hfz2 (k * 9 + 5)
      have f6 := hfz2 (k * 9 + 6)
      obtain ⟨S, hS⟩ : ∃ S, markT (q + 4) = S := ⟨_, rfl⟩
      rw [hS]
      obtain ⟨b6, hb6⟩ : ∃ b, mod3 (q + 6) = b := ⟨_, rfl⟩
      have e6 := mod3_at (q := q) (i := 6) (x := (q : Int) + 1 + 1 + 1 + 1 + 1 + 1) (by omega) hb6
      have hT := own_setCells [.string S, .int .i64 ((q : Int) + 5), .bool b6] (k * 9 + 4) HS2.out
      have hx7' : (setL (setL (os.flatMap VotO.cells) (k * 9) [.int .i64 ((q : Int)), .int .i64 ((q : Int) + 1), .int .i64 ((q : Int) + 2), .int .i64 ((q : Int) + 3)]) (k * 9 + 4) [.string S, .int .i64 ((q : Int) + 5), .bool b6])[k * 9 + 7]? = some (.slice A2 N c2) := by
        show ((((setL (os.flatMap VotO.cells) (k * 9) [.int .i64 ((q : Int)), .int .i64 ((q : Int) + 1), .int .i64 ((q : Int) + 2), .int .i64 ((q : Int) + 3)]).set (k * 9 + 4) _).set (k * 9 + 4 + 1) _).set (k * 9 + 4 + 1 + 1) _)[k * 9 + 7]? = _
        rw [List.getElem?_set_ne (by omega), List.getElem?_set_ne (by omega), List.getElem?_set_ne (by omega)]
        exact hx7
      have hE := setL_flat VotO.len ⟨mkVAt m l k, .slice A2 N c2⟩ os k (by rw [HNO.out]; exact hlt)
      rw [HMA.out, show VotO.cells ⟨VotR.mark q N, .slice A2 N c2⟩ = [.int .i64 ((q : Int)), .int .i64 ((q : Int) + 1), .int .i64 ((q : Int) + 2), .int .i64 ((q : Int) + 3)] ++ ([.string S, .int .i64 ((q : Int) + 5), .bool b6] ++ ([.slice A2 N c2] ++ [.int .i64 ((q : Int) + 7 + N)])) from by subst hS hb6; rfl, ← setL_app, ← setL_app, ← setL_app] at hE
      rw [setL_one, setL_one] at hE
      have hE2 : (setL (setL (os.flatMap VotO.cells) (k * 9) [.int .i64 ((q : Int)), .int .i64 ((q : Int) + 1), .int .i64 ((q : Int) + 2), .int .i64 ((q : Int) + 3)]) (k * 9 + 4) [.string S, .int .i64 ((q : Int) + 5), .bool b6]).set (k * 9 + 7) (.slice A2 N c2) = setL (setL (os.flatMap VotO.cells) (k * 9) [.int .i64 ((q : Int)), .int .i64 ((q : Int) + 1), .int .i64 ((q : Int) + 2), .int .i64 ((q : Int) + 3)]) (k * 9 + 4) [.string S, .int .i64 ((q : Int) + 5), .bool b6] := set_same hx7'
      have HE := Hid.in_ (show (setL (setL (os.flatMap VotO.cells) (k * 9) [.int .i64 ((q : Int)), .int .i64 ((q : Int) + 1), .int .i64 ((q : Int) + 2), .int .i64 ((q : Int) + 3)]) (k * 9 + 4) [.string S, .int .i64 ((q : Int) + 5), .bool b6]).set (k * 9 + 8) (.int .i64 ((q : Int) + 7 + N)) = (os.set k ⟨VotR.mark q N, .slice A2 N c2⟩).flatMap VotO.cells from by rw [← hE, ← hE2]; rfl)
      have hxl3 : (setL (setL (os.flatMap VotO.cells) (k * 9) [.int .i64 ((q : Int)), .int .i64 ((q : Int) + 1), .int .i64 ((q : Int) + 2), .int .i64 ((q : Int) + 3)]) (k * 9 + 4) [.string S, .int .i64 ((q : Int) + 5), .bool b6]).length = n * 9 := by rw [setL_len, hxl]
      have HXL := Hid.in_ hxl3
      have HS3 := Hid.in_ hT.1
      have HW3 := Hid.in_ (show ∀ p ∈ os, (setCells w2 g (k * 9 + 4) [.string S, .int .i64 ((q : Int) + 5), .bool b6]).ownsRow b 2 1 p.v p.r.l.length (I64 p.r.l) from fun p hp => kept_apart (by decide) (HW2.out p hp) HS2.out hT.2)
      have HWK3 := Hid.in_ (kept_apart (by decide) HWK2.out HS2.out hT.2)
      have HT3 := Hid.in_ (HT2.out.trans (Tch.of_grown HS2.out hT.2 votT_v (Nat.le_refl _) (by have := HT2.out.size; omega)))
      generalize setL (setL (os.flatMap VotO.cells) (k * 9) [.int .i64 ((q : Int)), .int .i64 ((q : Int) + 1), .int .i64 ((q : Int) + 2), .int .i64 ((q : Int) + 3)]) (k * 9 + 4) [.string S, .int .i64 ((q : Int) + 5), .bool b6] = YS at *
      clear hT hE hE2 hx2 hfz2 hv hl' hA' hx7 hx7' hxl hxl3 hS hb6 hu4 hu5 hu6 HS2 HW2 HWK2 HT2
      go_wp2_with fail
      refine (show Calls Tryz.prog 49 #[.slice A2 N c2, .int .i64 ((q : Int) + 7)] _ _ from laws_markInt64S ((q : Int) + 7) _ HWK3.out (by omega) (by omega) (by omega)).mono ?_
      rintro e w4 ⟨rfl, ho4, hg4⟩
      have HS4 := Hid.in_ (kept_apart (by decide) HS3.out HWK3.out hg4)
      have HW4 := Hid.in_ (fun p hp hq => (HW3.out p hp).kept hg4 hq)
      have HO4 := Hid.in_ ho4
      have HT4 := Hid.in_ (HT3.out.trans (Tch.of_grown HWK3.out hg4 votT_i (Nat.le_refl _) (by have := HT3.out.size; omega)))
      clear ho4 hg4 d4 d5 d6 d7 f4 f5 f6 HS3 HW3 HWK3 HT3 e6
      obtain ⟨u8, hu8⟩ := get_lt YS (k * 9 + 8) (by rw [HXL.out]; omega)
      have d8 := HS4.out.cellAt (k * 9 + 8) (by omega)
      rw [hu8] at d8
      have f8 := HS4.out.frozenAt (k * 9 + 8)
      have hT5 := HS4.out.stored (k * 9 + 8) (.int .i64 ((q : Int) + 7 + N))
      rw [HE.out] at hT5
      have HT5 := Hid.in_ (HT4.out.trans (Tch.of_grown HS4.out hT5.2 votT_v (Nat.le_refl _) (by have := HT4.out.size; omega)))
      have HF := Hid.in_ (show ∃ os', os'.map VotO.r = mkTo m l (k + 1) ∧ VRow (w4.setCell ⟨g, k * 9 + 8, none⟩ (.int .i64 ((q : Int) + 7 + N))) b (.slice (some ⟨g, 0, none⟩) n c) os' from by
        refine ⟨os.set k ⟨VotR.mark q N, .slice A2 N c2⟩, ?_, ?_⟩
        · rw [List.map_set, HOS.out, ← HMA.out]
          exact mkTo_step m l (by rw [HX.out]; exact hlt)
        · refine VRow.swap (r := VotR.mark q N) HV.out HR.out ?_ (by decide) (fun p hp hq => ?_) ?_
          · rw [HNO.out]; exact hT5.1
          · exact kept_apart (by decide) (HW4.out p hp hq) HS4.out hT5.2
          · have := kept_apart (by decide) HO4.out HS4.out hT5.2
            show World.ownsRow _ b 2 1 (.slice A2 N c2) (marks ((q + 7 : Nat) : Int) N).length (I64 (marks ((q + 7 : Nat) : Int) N))
            rw [marks_len]
            exact this)
      have HQ2 := Hid.in_ (show q + 8 + N = posAt m l (k + 1) by rw [HPN.out, ← HQ.out])
      clear hT5 hu8 HV HR HOS HW4 HO4 HT4 HS4
      go_wp2
      have hk := HK.out
      go_roundg (gk - 1)
      case measure => omega
      case rel => exact ⟨k + 1, q + 8 + N, by omega, HQ2, by go_num, by go_num, HF, HT5⟩
    · have hk := HK.out
      obtain rfl : k = n := by omega
      have hqq := HQ.out
      go_wp2
      go_ret
      exact ⟨show Ending.returned (.int .i64 ((q : Nat) : Int)) = _ by rw [hqq], HO.out, HT.out⟩
end Go.Proofs.YtlelgpknkgjaeaaGreatDoor

/- 'heldVotedS' of the laws. -/
namespace Go.Proofs.YtlelgpknkgjaeaaGreatDoor
open Go.ChangeShapes Go.WideShapes Go.ChangeAt Go.RowKit
set_option linter.unusedSimpArgs false
set_option linter.unusedVariables false
set_option maxRecDepth 8000

set_option maxHeartbeats 8000000 in
theorem laws_heldVotedS {v : Value} {b n : Nat} {os : List VotO} {l : List VotR} (m : Nat) (w : World) (h : VRow w b v os) (hl : os.map VotO.r = mkTo m l n) (hn : l.length = n) (hm : 0 < m) (hm2 : m ≤ 16777216) (hn2 : n ≤ 1048576) (hs2 : sumTo l n ≤ 1048576) (hs3 : ∀ k, k ≤ n → sumTo l k ≤ sumTo l n) :
    Calls Tryz.prog 25 #[v, .int .i64 m] w fun e w' => e = .returned (.int .i64 (posAt m l n : Nat)) ∧ Below w.heap.size w w' := by
  have hno : os.length = n := by have := congrArg List.length hl; rw [List.length_map, mkTo_len m l (by omega)] at this; omega
  have HW := Hid.in_ h.weak
  obtain ⟨A, c, rfl, _, hcn, hA⟩ := own_shape h.row
  rw [hno] at hcn hA ⊢
  have H1 := Hid.in_ hA
  have HNO := Hid.in_ hno
  have HL := Hid.in_ hl
  have HX := Hid.in_ hn
  have HP := Hid.in_ (show ∀ k, k ≤ n → posAt m l k ≤ 33554432 from fun k hk => by have := hs3 k hk; unfold posAt; omega)
  clear h hl hno hn hs2 hs3 hA
  go_enter Tryz.func25, Tryz.ntmps25
  go_wp2
  go_loopg [1, 5] n (fun r m' i wr => ∃ k q : Nat, k + r = n ∧ Hid (q = posAt m l k) ∧ i = .int .i64 k ∧ m' = .int .i64 q ∧ Hid (Below w.heap.size w wr))
  case atStart => exact ⟨0, m, by omega, show m = posAt m l 0 by simp [posAt, sumTo], rfl, rfl, Below.refl _ _⟩
  case round =>
    obtain ⟨k, q, hkm, HQ, rfl, rfl, HB⟩ := hrel
    have HK := Hid.in_ hkm
    clear hkm
    by_cases hlt : k < n
    · obtain ⟨g, rfl, _, hg, hx, _⟩ := H1.out (by omega)
      obtain ⟨⟨r, ov⟩, hr⟩ := get_lt os k (by rw [HNO.out]; exact hlt)
      obtain ⟨r0, hr0⟩ := get_lt l k (by rw [HX.out]; exact hlt)
      have hrm : r = VotR.mark q r0.l.length := by
        have h1 := mkTo_got m l hlt
        rw [← HL.out, List.getElem?_map, hr] at h1
        injection h1 with h1
        rw [show r = mkVAt m l k from h1]
        unfold mkVAt
        rw [vAt_eq hr0, ← HQ.out]
      have hqb : q ≤ 33554432 := by rw [HQ.out]; exact HP.out k (by omega)
      have HPN := Hid.in_ (posAt_next (m := m) hr0)
      obtain ⟨N, hN⟩ : ∃ N, r0.l.length = N := ⟨_, rfl⟩
      rw [hN] at hrm HPN
      have hNb : N ≤ 33554432 := by have := HP.out (k + 1) (by omega); rw [HPN.out] at this; omega
      have hwk := ostep HB.out (HW.out _ (List.mem_of_getElem? hr))
      have hB := (Box.elem VotO.len hx hr).step HB.out
      subst hrm
      have hwk2 : wr.ownsRow b 2 1 ov N (I64 (marks ((q + 7 : Nat) : Int) N)) := by
        have := hwk
        change wr.ownsRow b 2 1 ov (marks ((q + 7 : Nat) : Int) N).length (I64 (marks ((q + 7 : Nat) : Int) N)) at this
        have hlm : (marks ((q + 7 : Nat) : Int) N).length = N := by have := this.1; rw [I64_len] at this; simp [marks]
        rw [hlm] at this
        exact this
      have HWK := Hid.in_ hwk2
      obtain ⟨A9, c9, rfl, _, _, _⟩ := own_shape hwk2
      obtain ⟨c0, c1, c2, c3, c4, c5, c6, c7, c8⟩ := boxAt9 hB
      simp only [VotR.mark] at c0 c1 c2 c3 c4 c5 c6 c7 c8
      have HM := Hid.in_ (fun w => show Calls Tryz.prog 43 #[.int .i64 ((q : Int) + 1 + 1 + 1 + 1)] w _ from laws_markText (q + 4) w (by omega) (by omega))
      obtain ⟨S, hS⟩ : ∃ S, markT (q + 4) = S := ⟨_, rfl⟩
      rw [hS] at HM c4
      obtain ⟨b6, hb6⟩ : ∃ b, mod3 (q + 6) = b := ⟨_, rfl⟩
      have e6 := mod3_at (q := q) (i := 6) (x := (q : Int) + 1 + 1 + 1 + 1 + 1 + 1) (by omega) hb6
      have c0 : wr.cell? _ = some (.int .i64 ((q : Int))) := c0
      have c1 : wr.cell? _ = some (.int .i64 ((q : Int) + 1)) := c1
      have c2 : wr.cell? _ = some (.int .i64 ((q : Int) + 1 + 1)) := c2
      have c3 : wr.cell? _ = some (.int .i64 ((q : Int) + 1 + 1 + 1)) := c3
      have c5 : wr.cell? _ = some (.int .i64 ((q : Int) + 1 + 1 + 1 + 1 + 1)) := c5
      rw [hb6] at c6
      have HC4 := Hid.in_ c4
      have HC5 := Hid.in_ c5
      have HC6 := Hid.in_ c6
      have HC7 := Hid.in_ c7
      have HC8 := Hid.in_ (show wr.cell? ⟨g, k * 9 + 8, none⟩ = some (.int .i64 ((q : Int) + 7 + N)) by rw [c8]; congr 2)
      clear hx hB hr hr0 hN hwk hwk2 hS hb6 c5 c6 c7 c8
      go_wp2_with fail
      go_region_with (go_at_call 43; refine (HM.out _).mono ?_; rintro e w2 ⟨rfl, hb2⟩; have hb2' := ((Below.refl wr.heap.size wr).drew).trans hb2; have c4 := cstep hb2' HC4.out)
      all_goals
        have d5 := cstep hb2' HC5.out
        have d6 := cstep hb2' HC6.out
        have d7 := cstep hb2' HC7.out
        have d8 := cstep hb2' HC8.out
        have HWK2 := Hid.in_ (show Calls Tryz.prog 50 #[.slice A9 N c9, .int .i64 ((q : Int) + 1 + 1 + 1 + 1 + 1 + 1 + 1)] w2 fun e w' => e = .returned (.int .i64 ((q : Int) + 7 + N)) ∧ w2 = w' from laws_heldInt64S ((q + 7 : Nat) : Int) w2 (ostep hb2' HWK.out) (by omega) (by omega) (by omega))
        go_wp2_with fail
        refine HWK2.out.mono ?_
        rintro e w3 ⟨rfl, rfl⟩
        go_wp2
        have hk := HK.out
        go_roundg (gk - 1)
        case measure => omega
        case rel => exact ⟨k + 1, q + 8 + N, by omega, Hid.in_ (by rw [HPN.out, ← HQ.out]), by go_num, by go_num, HB.out.trans (hb2'.mono HB.out.size)⟩
    · have hk := HK.out
      obtain rfl : k = n := by omega
      have HQ2 := HQ
      go_wp2
      go_ret
      exact ⟨show Ending.returned (.int .i64 ((q : Nat) : Int)) = _ by rw [HQ2.out], HB.out⟩
end Go.Proofs.YtlelgpknkgjaeaaGreatDoor

/- For laws whose rows list package-level variables: the law's row behind its walk, and what a listed table gives the walk. No condition. -/
namespace Go.Proofs.YtlelgpknkgjaeaaGreatDoor
open Go.ChangeShapes Go.WideShapes Go.ChangeAt Go.RowKit
set_option linter.unusedVariables false

section
variable {H : Type} {enc : TypeId × Value → H} {P : Program} {W W' : World}

theorem var_same {n : String} {cs : Array Value} (hb : Below W.heap.size W W') (h : W.var? P n = some cs) : W'.var? P n = some cs := by
  unfold World.var? at h ⊢
  cases hg : P.globalNamed n with
  | none => rw [hg] at h; cases h
  | some g =>
    rw [hg] at h
    simp only [Option.bind_some] at h ⊢
    have hlt : g < W.heap.size := by
      rcases Nat.lt_or_ge g W.heap.size with h' | h'
      · exact h'
      · rw [Array.getElem?_eq_none h'] at h; cases h
    rw [hb.block g hlt]
    exact h

def varOk (P : Program) (n : String) : Bool := match P.globalNamed n with
  | some g => match (P.globals[g]?).map (·.type) with
    | some t => P.readableRec t && decide (t < P.types.size)
    | none => false
  | none => false

theorem trodVars_stays (hl : laidOutB P = true) (hb : Below W.heap.size W W') : ∀ {ns : List String} {gs : List (DataW H)} {ps : List MemPlace},
    (ns.all (varOk P)) = true → (∀ x ∈ ps, x.block < W.heap.size) → DataW.TrodVars enc P W (fun _ => true) ns gs ps → DataW.TrodVars enc P W' (fun b => decide (b < W.heap.size)) ns gs ps
  | [], [], ps, _, _, h => h
  | [], _ :: _, ps, _, _, h => by cases h
  | _ :: _, [], ps, _, _, h => by cases h
  | n :: ns, d :: gs, ps, hn, hlt, h => by
    obtain ⟨g, t, cs, fuel, p, q, hg, ht, hv, hd, hr, rfl⟩ := h
    simp only [List.all_cons, Bool.and_eq_true] at hn
    have hok := hn.1
    unfold varOk at hok
    rw [hg] at hok
    simp only [ht, Bool.and_eq_true, decide_eq_true_eq] at hok
    refine ⟨g, t, cs, fuel, p, q, hg, ht, var_same hb hv, ?_, trodVars_stays hl hb hn.2 (fun x hx => hlt x (by simp [hx])) hr, rfl⟩
    exact DataW.trod_stays (kids_book hl hok.1) (book_sized hok.1) (fun h => by cases h) ⟨hok.2, book_self t⟩ hd (fun x hx => hb.same (hlt x (by simp [hx]))) (fun x hx => by simpa using hlt x (by simp [hx]))

/-- The law's row, behind its walk: with listed variables. -/
theorem law_post_vars {f : Func} {s : ChangeSpec} {tb : TypeId} {args : Array Value} {ds gs : List (DataW H)} {before : List MemPlace} (hl : laidOutB P = true)
    (hts : (f.params.toList.all fun t => P.readableRec t && decide (t < P.types.size)) = true) (hvs : (s.vars.all (varOk P)) = true) (hr : f.resultTypes = #[tb]) (htb : P.underlying tb = some .bool)
    (hs : s.fn H (ds ++ gs) = { results := [.lit (.bool true)], args := ds, vars := gs })
    (hW : DataW.Whole enc P f.params.toList s.vars false W args.toList ds gs before) (hb : Below W.heap.size W W') : s.post enc P f false true false false W args (.bool true) W' := by
  have hlt := hW.lt
  have hW' := hW
  obtain ⟨p, q, hA, hV, rfl, hfz, hnd⟩ := hW'
  refine ⟨ds, gs, _, [], p, q, hW, ?_, ?_, ?_, hb.frame _, fun h => by cases h⟩
  · rw [hs, hr]
    exact trodAll_mk1 (shut_bool htb _)
  · rw [hs]
    exact trodAll_stays hl hb hts (fun x hx => hlt x (List.mem_append.2 (.inl hx))) hA
  · rw [hs]
    exact trodVars_stays hl hb hvs (fun x hx => hlt x (List.mem_append.2 (.inr hx))) hV
end

/-- A listed variable reads as it is listed. -/
theorem laid_at {P : Program} {W : World} : ∀ {l : List (String × DataW Unit)} {ps : List MemPlace}, DataW.LaidVars P W l ps → ∀ {n : String} {d : DataW Unit}, (n, d) ∈ l →
    ∃ g t cs fuel p, P.globalNamed n = some g ∧ (P.globals[g]?).map (·.type) = some t ∧ W.var? P n = some cs ∧ DataW.trod (fun _ => ()) P W 0 (fun _ => true) false fuel t cs.toList = some (d, p) ∧ ∀ x ∈ MemPlace.row ⟨g, 0, none⟩ cs.size, x ∈ ps
  | [], _, _, n, d, h => by cases h
  | (n', d') :: l, ps, hl, n, d, h => by
    obtain ⟨g, t, cs, fuel, p, q, hg, ht, hv, hd, hr, rfl⟩ := hl
    rcases List.mem_cons.1 h with h | h
    · injection h with h1 h2
      subst h1
      subst h2
      exact ⟨g, t, cs, fuel, p, hg, ht, hv, hd, fun x hx => by simp [hx]⟩
    · obtain ⟨g2, t2, cs2, fuel2, p2, a1, a2, a3, a4, a5⟩ := laid_at hr h
      exact ⟨g2, t2, cs2, fuel2, p2, a1, a2, a3, a4, fun x hx => by simp [a5 x hx]⟩

/-- An array of strings that reads as the table holds the table's strings, cell for cell. -/
theorem cells_of_strs {P : Program} {w : World} {base : Nat} {sp : Nat → Bool} {held : Bool} {fuel : Nat} {t e : TypeId} {n : Nat} {cs : List Value} {zs : List (List UInt8)} {p : List MemPlace}
    (ht : P.underlying t = some (.array n e)) (he : P.underlying e = some .string) (hce : P.cellsOf e = 1) (hct : P.cellsOf t = n)
    (h : DataW.trod (fun _ => ()) P w base sp held fuel t cs = some (.agg (zs.map fun z => (.lit (.string z) : DataW Unit)), p)) : cs = zs.map fun z => Value.string ⟨z.toArray⟩ := by
  cases fuel with
  | zero => simp [DataW.trod] at h
  | succ fuel =>
    simp only [DataW.trod, ht, hce, hct, Nat.mul_one] at h
    split at h
    · rename_i hl
      obtain ⟨xs, hm, hx⟩ := Option.map_eq_some_iff.1 h
      have hxs : xs.map (·.1) = zs.map fun z => (DataW.lit (.string z) : DataW Unit) := by
        have := congrArg Prod.fst hx
        simpa using this
      have hxl : xs.length = n := by simpa using Lib.mapM_length hm
      have hzl : zs.length = n := by
        have := congrArg List.length hxs
        simp at this
        omega
      apply List.ext_getElem?
      intro i
      by_cases hi : i < n
      · obtain ⟨b, hb, hf⟩ := Lib.mapM_at hm i i (by simp [hi])
        obtain ⟨z, hc, rfl, _⟩ := DataW.trod_string he hf
        have h1 : cs[i]? = some (.string z) := by
          have := congrArg (·[0]?) hc
          simpa [List.getElem?_take, List.getElem?_drop] using this
        have h2 : (xs.map (·.1))[i]? = some (DataW.lit (.string z.data.toList) : DataW Unit) := by simp [hb]
        rw [hxs] at h2
        simp only [List.getElem?_map, Option.map_eq_some_iff, DataW.lit.injEq, Lit.string.injEq] at h2
        obtain ⟨z', hz', hz2⟩ := h2
        rw [h1, List.getElem?_map, hz', hz2]
        rfl
      · rw [List.getElem?_eq_none (by omega), List.getElem?_eq_none (by simp; omega)]
    · cases h

/-- A table of strings that a row lists: the variable's whole block. -/
theorem strs_laid {P : Program} {W : World} {l : List (String × DataW Unit)} (y : String × DataW Unit) {zs : List (List UInt8)} {g : Nat} {t e : TypeId} {n : Nat}
    (hg : P.globalNamed y.1 = some g) (hty : (P.globals[g]?).map (·.type) = some t) (ht : P.underlying t = some (.array n e)) (he : P.underlying e = some .string) (hce : P.cellsOf e = 1) (hct : P.cellsOf t = n)
    (hy : y.2 = DataW.agg (zs.map fun z => (.lit (.string z) : DataW Unit))) (hm : y ∈ l.filter fun x => x.2.handleName?.isNone) (hL : laidMetH P l W) (hz : 0 < zs.length) :
    ∃ t', W.heap[g]? = some (.cells (zs.map fun z => Value.string ⟨z.toArray⟩).toArray t' (0, 0)) := by
  obtain ⟨name, d⟩ := y
  simp only at hy hg
  subst hy
  obtain ⟨ps, hv, _, hrow⟩ := (laidMetH_iff.1 hL).1
  obtain ⟨g2, t2, cs, fuel, p, a1, a2, a3, a4, a5⟩ := laid_at hv hm
  obtain rfl := Option.some.inj (hg.symm.trans a1)
  obtain rfl := Option.some.inj (hty.symm.trans a2)
  have hcs := cells_of_strs ht he hce hct a4
  have hsz : 0 < cs.size := by
    have := congrArg List.length hcs
    simp at this
    omega
  obtain ⟨⟨c, t', hc⟩, _⟩ := hrow g 0 (a5 _ (by simp [MemPlace.row]; exact hsz))
  refine ⟨t', ?_⟩
  unfold World.var? at a3
  rw [hg] at a3
  simp only [Option.bind_some, hc] at a3
  injection a3 with a3
  have h4 : (zs.map fun z => Value.string ⟨z.toArray⟩).toArray = cs := by rw [← hcs]
  rw [hc, a3, h4]

theorem vars_1 {H : Type} {enc : TypeId × Value → H} {P : Program} {W : World} {sp : Nat → Bool} {n0 : String} {gs : List (DataW H)} {ps : List MemPlace} (h : DataW.TrodVars enc P W sp [n0] gs ps) : ∃ g0, gs = [g0] := by
  match gs, h with
  | [g0], _ => exact ⟨g0, rfl⟩
  | [], h => simp [DataW.TrodVars] at h
  | g0 :: _ :: _, h => simp [DataW.TrodVars] at h
theorem vars_2 {H : Type} {enc : TypeId × Value → H} {P : Program} {W : World} {sp : Nat → Bool} {n0 n1 : String} {gs : List (DataW H)} {ps : List MemPlace} (h : DataW.TrodVars enc P W sp [n0, n1] gs ps) : ∃ g0 g1, gs = [g0, g1] := by
  match gs, h with
  | [g0, g1], _ => exact ⟨g0, g1, rfl⟩
  | [], h => simp [DataW.TrodVars] at h
  | [g0], h => simp [DataW.TrodVars] at h
  | g0 :: g1 :: _ :: _, h => simp [DataW.TrodVars] at h
theorem vars_3 {H : Type} {enc : TypeId × Value → H} {P : Program} {W : World} {sp : Nat → Bool} {n0 n1 n2 : String} {gs : List (DataW H)} {ps : List MemPlace} (h : DataW.TrodVars enc P W sp [n0, n1, n2] gs ps) : ∃ g0 g1 g2, gs = [g0, g1, g2] := by
  match gs, h with
  | [g0, g1, g2], _ => exact ⟨g0, g1, g2, rfl⟩
  | [], h => simp [DataW.TrodVars] at h
  | [g0], h => simp [DataW.TrodVars] at h
  | [g0, g1], h => simp [DataW.TrodVars] at h
  | g0 :: g1 :: g2 :: _ :: _, h => simp [DataW.TrodVars] at h
theorem vars_4 {H : Type} {enc : TypeId × Value → H} {P : Program} {W : World} {sp : Nat → Bool} {n0 n1 n2 n3 : String} {gs : List (DataW H)} {ps : List MemPlace} (h : DataW.TrodVars enc P W sp [n0, n1, n2, n3] gs ps) : ∃ g0 g1 g2 g3, gs = [g0, g1, g2, g3] := by
  match gs, h with
  | [g0, g1, g2, g3], _ => exact ⟨g0, g1, g2, g3, rfl⟩
  | [], h => simp [DataW.TrodVars] at h
  | [g0], h => simp [DataW.TrodVars] at h
  | [g0, g1], h => simp [DataW.TrodVars] at h
  | [g0, g1, g2], h => simp [DataW.TrodVars] at h
  | g0 :: g1 :: g2 :: g3 :: _ :: _, h => simp [DataW.TrodVars] at h
/-- plain data, as cells. -/
def dataCells : DataW Unit → List Value
  | .lit (.int k n) => [.int k n]
  | .lit (.string s) => [.string ⟨s.toArray⟩]
  | .lit (.bool b) => [.bool b]
  | .agg l => dataCellsAll l
  | _ => []
where dataCellsAll : List (DataW Unit) → List Value
  | [] => []
  | d :: l => dataCells d ++ dataCellsAll l
/-- A world for the witness: the settled one, each listed variable holding what is listed. -/
noncomputable def laidWorld (P : Program) (os : Os) (laid : List (String × DataW Unit)) : World :=
  laid.foldl (fun w x => match P.globalNamed x.1 with
    | some g => { w with heap := w.heap.modify g fun
        | .cells _ t frozen => .cells (dataCells x.2).toArray t frozen
        | o => o }
    | none => w) (World.holding P os ⟨#[], #[], []⟩)
theorem laidWorld_os (P : Program) (os : Os) : ∀ (laid : List (String × DataW Unit)), (laidWorld P os laid).os = os := by
  intro laid
  unfold laidWorld
  have h : ∀ (l : List (String × DataW Unit)) (w : World), (l.foldl (fun w x => match P.globalNamed x.1 with
    | some g => { w with heap := w.heap.modify g fun
        | .cells _ t frozen => .cells (dataCells x.2).toArray t frozen
        | o => o }
    | none => w) w).os = w.os := by
    intro l
    induction l with
    | nil => intro w; rfl
    | cons x l ih =>
      intro w
      rw [List.foldl_cons, ih]
      cases P.globalNamed x.1 <;> rfl
  exact h laid _
theorem noStandIn {P : Program} {fn : Func} (h : (fn.params.toList.all fun t => !P.wantsStandIn t) = true) (j : Nat) (t : TypeId) (ht : fn.params[j]? = some t) : P.wantsStandIn t = false := by
  have := List.all_eq_true.1 h t (Array.mem_toList_iff.2 (Array.mem_of_getElem? ht))
  simpa using this
end Go.Proofs.YtlelgpknkgjaeaaGreatDoor
