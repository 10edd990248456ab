/- 'MajorityCells' of the program. -/
import Derived.Test.YtfmlobfgkinngaaDoorMaj
namespace Go.Proofs.YtfmlobfgkinngaaDoor
open Go.ChangeShapes Go.WideShapes Go.ChangeAt Go.RowKit
set_option linter.unusedSimpArgs false
set_option linter.unusedVariables false
set_option maxRecDepth 4000

theorem fill_cells {M : List UInt8} {k : Nat} {c : UInt8} (h : M[k]? = some c) : (Lib.byteCells (fillR M 0 k)).set k (.int .u8 (c.toNat : Int)) = Lib.byteCells (fillR M 0 (k + 1)) := by
  rw [byteCells_set, fillR_set h]
set_option maxHeartbeats 4000000 in
theorem impl_MajorityCells {v : Value} {n b : Nat} {l : List ByteArray} (w : World) (h : w.ownsRow b 9 1 v n (Strs l)) (hk : ∀ s ∈ l, s.size ≤ 9223372036854775807) :
    Calls Tryd.prog 51 #[v] w fun e w' => e = .returned (.tuple #[.string (majV l), .int .i64 (revCode l)]) ∧ Below w.heap.size w w' := by
  obtain ⟨i0, hti, hz0, hz1, hz2⟩ := info_parts Tryd.infoU8m
  have hlx : l.length = n := by have := h.1; rw [Strs_len] at this; omega
  have HC := Hid.in_ (impl_ValidRevolutions w h hk)
  obtain ⟨A, c, rfl, _, _, hA⟩ := own_shape h
  have HL := Hid.in_ hlx
  have H1 := Hid.in_ hA
  clear hA h hlx hk
  cases hr : revsOk l
  · have HV := Hid.in_ (majV_no hr)
    rw [hr] at HC
    go_enter Tryd.func51, Tryd.ntmps51
    go_wp2_with (go_at_call 48; refine HC.out.mono ?_; rintro e w1 ⟨rfl, hb1⟩)
    go_ret2
    exact ⟨ret2_si HV.out.1.symm HV.out.2.symm, hb1⟩
  · have HV := Hid.in_ (majV_yes hr)
    have HR := Hid.in_ hr
    obtain ⟨r1, r2, r3, r4, r5⟩ := revs_at hr
    rw [HL.out] at r1 r2
    have HZ := Hid.in_ r5
    rw [hr] at HC
    clear hr r5
    obtain ⟨g, rfl, _, hg, hx, _⟩ := H1.out (by omega)
    obtain ⟨s0, hs0, hz0'⟩ := head_get (l := l) (by rw [HL.out]; omega)
    have HX := Hid.in_ hx
    have HS0 := Hid.in_ hs0
    have hsz0 := (HZ.out s0 (List.mem_of_getElem? hs0)).1
    clear hx hs0 hz0'
    obtain ⟨N, hN⟩ : ∃ N, revLen l = N := ⟨_, rfl⟩
    rw [hN] at hsz0 r3 r4 HV HZ
    have HN := Hid.in_ hN
    clear hN
    go_enter Tryd.func51, Tryd.ntmps51
    go_wp2_with fail
    refine HC.out.mono ?_
    rintro e w1 ⟨rfl, hb1⟩
    have HB1 := Hid.in_ hb1
    have c0 := (HX.out.step hb1) 0 _ (Strs_get HS0.out)
    clear hb1
    go_wp2_with (at_make; refine wpList_make_full _ rfl _ _ _ rfl w.heap.size 5 i0 _ 1 Tryd.underlying34 hti hz0 hz1 _ _ _ _ N rfl rfl rfl rfl (by rw [hz2]; omega) (by unfold maxLen; omega) HB1.out.size ?_; intro w2 hown hgrow)
    obtain ⟨G, hG⟩ : ∃ G, w1.heap.size = G := ⟨_, rfl⟩
    have HO : Hid (w2.ownsRow w.heap.size 5 1 (.slice (some ⟨w1.heap.size, 0, none⟩) N N) N (Lib.byteCells (fillR (majTo l N) 0 0)) ∧ Below w.heap.size w w2) := by
      refine ⟨?_, HB1.out.grown hgrow HB1.out.size (by simp)⟩
      have h : (madeCells (Value.int .u8 0).cells (N * 1)).toList = Lib.byteCells (fillR (majTo l N) 0 0) := by
        show (madeCells #[Value.int .u8 0] (N * 1)).toList = _
        rw [toList_madeCells_one, fillR_none, majTo_len]
        simp [Lib.byteCells]
      rw [← h]
      exact hown
    have HGB := Hid.in_ (show w.heap.size ≤ G by rw [← hG]; exact HB1.out.size)
    rw [hG] at HO ⊢
    clear hown hgrow hG c0
    go_loopg [19] N (fun m i wr => ∃ k : Nat, k + m = N ∧ i = .int .i64 k ∧ Hid (wr.ownsRow w.heap.size 5 1 (.slice (some ⟨G, 0, none⟩) N N) N (Lib.byteCells (fillR (majTo l N) 0 k)) ∧ Below w.heap.size w wr))
    case atStart => exact ⟨0, by omega, rfl, HO⟩
    case round =>
      clear HO
      obtain ⟨k, hkm, rfl, HO⟩ := hrel
      have HK := Hid.in_ hkm
      clear hkm
      by_cases hlt : k < N
      · go_wp2
        obtain ⟨gO, rfl⟩ : ∃ g, g = gk := ⟨_, rfl⟩
        obtain ⟨wo, rfl⟩ : ∃ wo : World, wo = wr := ⟨_, rfl⟩
        go_loopg [6, 24] n (fun m o i wi => ∃ j : Nat, j + m = n ∧ i = .int .i64 j ∧ o = .int .i64 (onesTo l k j : Nat) ∧ wo = wi)
        case atStart => exact ⟨0, by omega, rfl, rfl, rfl⟩
        case round =>
          obtain ⟨j, hjm, rfl, rfl, rfl⟩ := hrel
          have HJ := Hid.in_ hjm
          clear hjm
          have hle := ones_le l k j
          by_cases hlj : j < n
          · obtain ⟨s, hs⟩ := get_lt l j (by rw [HL.out]; exact hlj)
            have c1 := (HX.out.step HO.out.2) j _ (Strs_get hs)
            have hsz := (HZ.out s (List.mem_of_getElem? hs)).1
            have hks : k < s.size := by omega
            obtain ⟨c, hc⟩ : ∃ c : UInt8, s[k] = c := ⟨_, rfl⟩
            have HC1 := Hid.in_ (colAt_val hs hks hc)
            have hb := col_bit HR.out (j := j) (k := k) (by rw [HL.out]; exact hlj) (by rw [HN.out]; exact hlt)
            rw [HC1.out] at hb
            clear hs
            obtain rfl | rfl := hb
            · have HN0 := Hid.in_ (ones_next0 (l := l) (k := k) (i := j) (by rw [HC1.out]; decide))
              generalize onesTo l k j = X at *
              go_wp2
              have hj := HJ.out
              go_roundg (gk - 1)
              case measure => omega
              case rel => exact ⟨j + 1, by omega, by go_num, by rw [HN0.out], rfl⟩
            · have HN1 := Hid.in_ (ones_next1 (l := l) (k := k) (i := j) HC1.out)
              generalize onesTo l k j = X at *
              go_wp2
              have hj := HJ.out
              go_roundg (gk - 1)
              case measure => omega
              case rel => exact ⟨j + 1, by omega, by go_num, by rw [HN1.out]; go_num, rfl⟩
          · have hj := HJ.out
            obtain rfl : j = n := by omega
            have f1 := HO.out.1.cellAt k (by omega)
            obtain ⟨u, hu⟩ := get_lt (Lib.byteCells (fillR (majTo l N) 0 k)) k (by rw [Lib.byteCells_length, fillR_len _ _ _ (by rw [majTo_len]; omega), majTo_len]; exact hlt)
            rw [hu] at f1
            have f2 := HO.out.1.frozenAt k
            have HS1 := HO.out.1.stored k (.int .u8 48)
            have g1 := HS1.1.cellAt k (by omega)
            rw [List.getElem?_set_self (by rw [Lib.byteCells_length, fillR_len _ _ _ (by rw [majTo_len]; omega), majTo_len]; exact hlt)] at g1
            have g2 := HS1.1.frozenAt k
            have hBS := HO.out.2.setCell (p := ⟨G, k, none⟩) HGB.out (.int .u8 48)
            by_cases hq : j < 2 * onesTo l k j
            · have hm := majTo_get l hlt
              rw [majB_yes HL.out hq] at hm
              have HF := Hid.in_ (And.intro (HS1.1.stored k (.int .u8 49)).1 (hBS.setCell (p := ⟨G, k, none⟩) HGB.out (.int .u8 49)))
              rw [List.set_set, show (Lib.byteCells (fillR (majTo l N) 0 k)).set k (.int .u8 49) = _ from fill_cells hm] at HF
              clear HS1 hBS hm hu HO
              generalize onesTo l k j = X at *
              go_wp2
              have hk := HK.out
              go_roundg (gO - 1)
              case measure => omega
              case rel => exact ⟨k + 1, by omega, by go_num, HF⟩
            · have hm := majTo_get l hlt
              rw [majB_no HL.out hq] at hm
              have HF := Hid.in_ (And.intro HS1.1 hBS)
              rw [show (Lib.byteCells (fillR (majTo l N) 0 k)).set k (.int .u8 48) = _ from fill_cells hm] at HF
              clear HS1 hBS hm hu HO g1 g2
              generalize onesTo l k j = X at *
              go_wp2
              have hk := HK.out
              go_roundg (gO - 1)
              case measure => omega
              case rel => exact ⟨k + 1, by omega, by go_num, HF⟩
      · have hk := HK.out
        obtain rfl : k = N := by omega
        have hO := HO.out.1
        have hfa := fillR_all (majTo l k) 0
        rw [majTo_len] at hfa
        rw [hfa] at hO
        have hc := conv_own Tryd.underlying34 Tryd.underlying5 Tryd.underlying9 hO
        clear hO hfa
        go_wp2
        go_ret2
        exact ⟨ret2_si HV.out.1.symm HV.out.2.symm, HO.out.2⟩
end Go.Proofs.YtfmlobfgkinngaaDoor
