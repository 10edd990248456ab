/- 'mergeFound' of the program. -/
import Derived.Test.YtlelgpknkgjaeaaMgN
namespace Go.Proofs.Ytlelgpknkgjaeaa
open Go.ChangeShapes Go.WideShapes Go.ChangeAt Go.RowKit
set_option linter.unusedSimpArgs false
set_option linter.unusedVariables false
set_option maxRecDepth 4000

theorem cells4g {w : World} {g : Nat} {a0 a1 a2 a3 : Value} {t : TypeId} (hg : g = w.heap.size) : ∀ j u, ([a0, a1, a2, a3] : List Value)[j]? = some u → (w.alloc (.cells #[a0, a1, a2, a3] t)).cell? ((⟨g, 0, none⟩ : Addr).add j) = some u := fun j u hu => by
  subst hg
  have h := World.ownsRow_lit (e := t) w #[a0, a1, a2, a3] 1 (base := w.heap.size) (size := 4) (Nat.le_refl _) (by decide) rfl
  exact h.cells (g := w.heap.size) rfl j u hu
theorem Try.info_Adr : (Try.prog.info? 136).map (fun i => (i.zero, i.size, i.bytes)) = some (some (.agg #[.int .i64 0, .int .i64 0, .int .i64 0, .int .i64 0]), 4, 32) := by kernel_rfl
theorem slices_Compact0 (A : Option Addr) (c : Nat) (w : World) : Calls Try.prog 104 #[.slice A 0 c] w fun e w' => e = .returned (.slice A 0 c) ∧ w' = w := by
  go_enter Try.func104, Try.ntmps104
  go_wp2
  go_ret
  exact ⟨rfl, rfl⟩
set_option maxHeartbeats 8000000 in
theorem impl_mergeFound {v : Value} {b n : Nat} {os : List FsO} {ls : List (List FndR)} (w : World) (h : FsRow w b v os) (hl : os.map FsO.r = ls) (hn : ls.length = n) (h64 : ∀ fs ∈ ls, fs.length ≤ 64) (hn5 : n ≤ 5)
    (hg : ∀ f ∈ ls.flatten, goodF f) (ht : ∀ f ∈ ls.flatten, 1 ≤ f.t ∧ f.t ≤ 4) :
    Calls Try.prog 77 #[v] w fun e w' => ∃ v' os', e = .returned v' ∧ os'.map VotO.r = mgV ls ∧ VRow w' w.heap.size v' os' ∧ Below w.heap.size w w' := by
  obtain ⟨i0, hti, hz0, hz1, hz2⟩ := info_parts Try.info_Adr
  obtain ⟨i1, hti1, hy0, hy1, hy2⟩ := info_parts Try.info_Voted
  have hno : os.length = n := by rw [← hn, ← hl, List.length_map]
  have HFS := Hid.in_ h
  have HMA := Hid.in_ (fun (a : AdrR) (w' : World) (hB : Below w.heap.size w w') => impl_mergeAddress a w' (h.below hB (Nat.le_refl _)) hl hn h64 hn5 hg ht)
  have HE := Hid.in_ h.each
  obtain ⟨A, c, rfl, _, hcn, hA⟩ := own_shape h.row
  rw [hno] at hcn hA HFS HMA ⊢
  have H1 := Hid.in_ hA
  have HNO := Hid.in_ hno
  have HLS := Hid.in_ hl
  have HNN := Hid.in_ hn
  have H64 := Hid.in_ h64
  have hfb := flat_small (ls := ls) (by omega) h64
  clear h hl hn h64 hno hA hg ht
  go_enter Try.func77, Try.ntmps77
  go_wp2_with fail
  go_loopg [3, 13] n (fun m v3 v13 wr => ∃ i : Nat, i + m = n ∧ v13 = .int .i64 i ∧ Hid (wr.ownsRow w.heap.size 136 4 v3 (adrsOf (preF ls i 0)).length ((adrsOf (preF ls i 0)).flatMap AdrR.cells)) ∧ Hid (Below w.heap.size w wr))
  case atStart => exact ⟨0, by omega, rfl, by rw [preF_zero]; exact World.ownsRow_nil _ _ _ _, Below.refl _ _⟩
  case round =>
    obtain ⟨i, him, rfl, HI, HB⟩ := hrel
    have HK := Hid.in_ him
    clear him
    by_cases hlt : i < n
    · obtain ⟨g, rfl, _, hg, hx, _⟩ := H1.out (by omega)
      obtain ⟨⟨fs, fv⟩, ho⟩ := get_lt os i (by rw [HNO.out]; exact hlt)
      have hbx := Box.elem FsO.len hx ho
      rw [Nat.mul_one] at hbx
      have hc0 : w.cell? ⟨g, i, none⟩ = some fv := by have := hbx 0 _ rfl; exact this
      have hfr : w.ownsRow b 128 8 fv fs.length (fs.flatMap FndR.cells) := HE.out _ (List.mem_of_getElem? ho)
      have hli : ls[i]? = some fs := fso_get HLS.out ho
      have hfl : fs.length ≤ 64 := H64.out fs (List.mem_of_getElem? hli)
      have HLI := Hid.in_ hli
      obtain ⟨N, hN⟩ : ∃ N, fs.length = N := ⟨_, rfl⟩
      rw [hN] at hfr hfl
      obtain ⟨A2, c2, rfl, _, hc2, hA2⟩ := own_shape hfr
      have H2 := Hid.in_ hA2
      have HFN := Hid.in_ hN
      have c0 : wr.cell? ⟨g, i, none⟩ = some (.slice A2 N c2) := cstep HB.out hc0
      clear hbx hx ho hfr hli hA2 hN hc0
      go_wp2_with fail
      clear c0
      obtain ⟨gO, rfl⟩ : ∃ g, g = gk := ⟨_, rfl⟩
      go_loopg [3, 19] N (fun m v3 v19 wr => ∃ k : Nat, k + m = N ∧ v19 = .int .i64 k ∧ Hid (wr.ownsRow w.heap.size 136 4 v3 (adrsOf (preF ls i k)).length ((adrsOf (preF ls i k)).flatMap AdrR.cells)) ∧ Hid (Below w.heap.size w wr))
      case atStart => exact ⟨0, by omega, rfl, HI, HB⟩
      case round =>
        clear HI HB
        obtain ⟨k, hkm, rfl, HI, HB⟩ := hrel
        have HQ := Hid.in_ hkm
        clear hkm
        by_cases hlk : k < N
        · obtain ⟨g2, rfl, _, hg2, hx2, _⟩ := H2.out (by omega)
          obtain ⟨f, hf⟩ := get_lt fs k (by rw [HFN.out]; exact hlk)
          obtain ⟨x0, x1, x2, x3, x4, x5, x6, x7⟩ := boxAt8 ((Box.elem FndR.len hx2 hf).step HB.out)
          have HPN := Hid.in_ (preF_next HLI.out hf)
          have HPL := Hid.in_ (show (adrsOf (preF ls i k)).length ≤ 320 from Nat.le_trans (adrsOf_len _) (preF_small (by rw [HNN.out]; exact hn5) H64.out (by rw [HNN.out]; exact hlt) (by omega)))
          obtain ⟨fc, fh, fn, fs_, fd, ft, fl, fp⟩ := f
          simp only at x0 x1 x2 x3 x4 x5 x6 x7
          have HBA := Hid.in_ (balloc (Below.refl wr.heap.size wr) (.cells #[.int .i64 fc, .int .i64 fh, .int .i64 fn, .int .i64 fs_, .string fd, .int .i64 ft, .bool fl, .int .i64 fp] 128))
          clear hx2 hf
          cases e2 : (ft == 2)
          · have hne : (ft != 2) = true := by rw [bne, e2]; rfl
            have HN := Hid.in_ (show adrsOf (preF ls i (k + 1)) = adrsOf (preF ls i k) ++ [⟨fc, fh, fn, fs_⟩] by
              rw [HPN.out, adrsOf_yes (by simpa using e2)]; rfl)
            go_wp2_with fail
            refine (impl_addressOf _ _ _ _ _ _ _ _ _).mono ?_
            rintro e we ⟨rfl, hbe⟩
            have hB2 := HB.out.trans ((HBA.out.trans (hbe.mono HBA.out.size)).mono HB.out.size)
            have hI2 := ostep (HBA.out.trans (hbe.mono HBA.out.size)) HI.out
            have HB2 := Hid.in_ hB2
            have HI2 := Hid.in_ hI2
            clear hbe hB2 hI2 x0 x1 x2 x3 x4 x5 x6 x7
            go_wp2_with (at_builtin; refine wpList_append_own _ rfl _ _ 134 rfl w.heap.size 136 i0 (.agg #[.int .i64 0, .int .i64 0, .int .i64 0, .int .i64 0]) 4 32 Try.underlying134 hti hz0 hz1 hz2 rfl (by decide) _ _ _ rfl (HI2.out.alloc _) ⟨we.heap.size, 0, none⟩ 1 1 [.int .i64 fc, .int .i64 fh, .int .i64 fn, .int .i64 fs_] rfl rfl (cells4g rfl) (fun x hx => by simp at hx; rcases hx with rfl | rfl | rfl | rfl <;> rfl) (by have := HPL.out; unfold maxLen; omega) (by have := HPL.out; omega) (balloc HB2.out _).size ?_; intro v4 w4 ho4 hg4 _)
            have HB4 := Hid.in_ (bgrown (balloc HB2.out _) (HI2.out.alloc _) (Nat.le_refl _) hg4)
            have HO4 := Hid.in_ (show w4.ownsRow w.heap.size 136 4 v4 (adrsOf (preF ls i (k + 1))).length ((adrsOf (preF ls i (k + 1))).flatMap AdrR.cells) by
              rw [HN.out, List.length_append, List.flatMap_append]
              exact ho4)
            clear ho4 hg4
            have hq := HQ.out
            go_roundg (gk - 1)
            case measure => omega
            case rel => exact ⟨k + 1, by omega, by go_num, HO4, HB4⟩
          · have hne : (ft != 2) = false := by rw [bne, e2]; rfl
            have HN := Hid.in_ (show adrsOf (preF ls i (k + 1)) = adrsOf (preF ls i k) by
              rw [HPN.out, adrsOf_no (by simpa using e2)])
            go_wp2
            have hq := HQ.out
            go_roundg (gk - 1)
            case measure => omega
            case rel => exact ⟨k + 1, by omega, by go_num, by rw [HN.out]; exact ostep HBA.out HI.out, HB.out.trans (HBA.out.mono HB.out.size)⟩
        · have hq := HQ.out
          obtain rfl : k = N := by omega
          have HT := Hid.in_ (show preF ls i k = preF ls (i + 1) 0 by rw [← HFN.out]; exact preF_turn HLI.out)
          rw [HT.out] at HI
          go_wp2
          have hk := HK.out
          go_roundg (gO - 1)
          case measure => omega
          case rel => exact ⟨i + 1, by omega, by go_num, HI, HB⟩
    · have hk := HK.out
      obtain rfl : i = n := by omega
      have HP := Hid.in_ (show preF ls i 0 = ls.flatten by rw [← HNN.out]; exact preF_all ls)
      rw [HP.out] at HI
      obtain ⟨n0, hn0⟩ : ∃ n0, (adrsOf ls.flatten).length = n0 := ⟨_, rfl⟩
      have hn0b : n0 ≤ 320 := by rw [← hn0]; exact Nat.le_trans (adrsOf_len _) hfb
      rw [hn0] at HI
      have HN0 := Hid.in_ hn0
      clear hn0
      by_cases hz : n0 = 0
      · subst hz
        have HKE := Hid.in_ (show mgV ls = [] by
          unfold mgV keysOf
          rw [List.eq_nil_of_length_eq_zero HN0.out]; rfl)
        obtain ⟨A6, c6, rfl, _, _, _⟩ := own_shape HI.out
        go_wp2_with fail
        refine (sort_anone _ _ _ _).mono ?_
        rintro e w2 ⟨rfl, rfl⟩
        go_wp2_with fail
        refine (slices_Compact0 _ _ _).mono ?_
        rintro e wC ⟨rfl, rfl⟩
        obtain ⟨KS, hKS⟩ : ∃ KS : List AdrR, KS = [] := ⟨_, rfl⟩
        obtain ⟨K, hK⟩ : ∃ K : Nat, K = 0 := ⟨_, rfl⟩
        have HKL := Hid.in_ (show KS.length = K by rw [hKS, hK]; rfl)
        have HMG := Hid.in_ (show mgV ls = KS.map (mergeV ls) by rw [HKE.out, hKS]; rfl)
        have HBX : Hid (0 < K → ∃ g, A6 = some ⟨g, 0, none⟩ ∧ g < wC.heap.size ∧ Box wC g (KS.flatMap AdrR.cells)) := Hid.in_ (fun h => absurd h (by omega))
        have HBC := HB
        have hKb : K ≤ 320 := by omega
        rw [show (Value.slice A6 0 c6) = .slice A6 K c6 by rw [hK]]
        clear hKS hK HB HI HKE
        go_wp2_with fail
        go_loopg [8, 38] K (fun m v8 v38 wr => ∃ (j : Nat) (D : List VotO), j + m = K ∧ v38 = .int .i64 j ∧ Hid (D.length = j ∧ D.map VotO.r = (KS.take j).map (mergeV ls)) ∧ Hid (VRow wr wC.heap.size v8 D) ∧ Hid (Below wC.heap.size wC wr))
        case atStart => exact ⟨0, [], by omega, rfl, ⟨rfl, rfl⟩, VRow.nil _ _, Below.refl _ _⟩
        case round =>
          obtain ⟨j, D, hjm, rfl, HD, HV, HB⟩ := hrel
          have HJ := Hid.in_ hjm
          clear hjm
          by_cases hlj : j < K
          · obtain ⟨g7, hA7, hg7, hx7⟩ := HBX.out (by omega)
            first | subst hA7 | (obtain rfl : g7 = g6 := by injection hA7 with e; injection e with e; exact e.symm)
            obtain ⟨a, ha⟩ := get_lt KS j (by rw [HKL.out]; exact hlj)
            obtain ⟨x0, x1, x2, x3⟩ := boxAt4 ((Box.elem AdrR.len hx7 ha).step HB.out)
            have HA := Hid.in_ ha
            obtain ⟨ac, ah, an, as_⟩ := a
            simp only at x0 x1 x2 x3
            have HAL := Hid.in_ (balloc (Below.refl wr.heap.size wr) (.cells #[.int .i64 ac, .int .i64 ah, .int .i64 an, .int .i64 as_] 136))
            have HBW := Hid.in_ (HBC.out.trans ((HB.out.trans (HAL.out.mono HB.out.size)).mono HBC.out.size))
            have hma := HMA.out ⟨ac, ah, an, as_⟩ _ HBW.out
            obtain ⟨r, hr⟩ : ∃ r, mergeV ls ⟨ac, ah, an, as_⟩ = r := ⟨_, rfl⟩
            rw [hr] at hma
            have HR := Hid.in_ hr
            obtain ⟨rc, rh, rn, rs, rd, rt, rx, rl, rvo⟩ := r
            have HCA := Hid.in_ (show Calls Try.prog 105 #[.slice A i c, .agg #[.int .i64 ac, .int .i64 ah, .int .i64 an, .int .i64 as_]] (wr.alloc (.cells #[.int .i64 ac, .int .i64 ah, .int .i64 an, .int .i64 as_] 136)) fun e w' => ∃ wv, e = .returned (.agg #[.int .i64 rc, .int .i64 rh, .int .i64 rn, .int .i64 rs, .string rd, .int .i64 rt, .bool rx, wv, .int .i64 rvo]) ∧ w'.ownsRow (wr.alloc (.cells #[.int .i64 ac, .int .i64 ah, .int .i64 an, .int .i64 as_] 136)).heap.size 2 1 wv rl.length (I64 rl) ∧ Below (wr.alloc (.cells #[.int .i64 ac, .int .i64 ah, .int .i64 an, .int .i64 as_] 136)).heap.size (wr.alloc (.cells #[.int .i64 ac, .int .i64 ah, .int .i64 an, .int .i64 as_] 136)) w' from hma)
            have hgr : g7 < wr.heap.size := Nat.lt_of_lt_of_le hg7 HB.out.size
            clear hma hr ha hx7
            go_wp2_with fail
            refine HCA.out.mono ?_
            rintro e w2 ⟨wv, rfl, how, hb2⟩
            have hB2 := HAL.out.trans (hb2.mono HAL.out.size)
            have HB2 := Hid.in_ (HB.out.trans (hB2.mono HB.out.size))
            have HV2 := Hid.in_ (HV.out.step hB2)
            have HOW := Hid.in_ how
            have HPA := Hid.in_ (pair_snoc (o := ⟨⟨rc, rh, rn, rs, rd, rt, rx, rl, rvo⟩, wv⟩) HV.out.apart HV.out.weak how HAL.out.size)
            obtain ⟨A9, c9, rfl, _, _, _⟩ := own_shape how
            have hKb2 : D.length ≤ 320 := by rw [HD.out.1]; omega
            clear hb2 hB2 how x0 x1 x2 x3
            go_wp2_with (at_builtin; refine wpList_append_own _ rfl _ _ 35 rfl wC.heap.size 77 i1 (.agg #[.int .i64 0, .int .i64 0, .int .i64 0, .int .i64 0, .string ⟨#[]⟩, .int .i64 0, .bool false, .slice none 0 0, .int .i64 0]) 9 96 Try.underlying35 hti1 hy0 hy1 hy2 rfl (by decide) _ _ _ rfl (HV2.out.row.alloc _) ⟨w2.heap.size, 0, none⟩ 1 1 [.int .i64 rc, .int .i64 rh, .int .i64 rn, .int .i64 rs, .string rd, .int .i64 rt, .bool rx, .slice A9 rl.length c9, .int .i64 rvo] rfl rfl (cells9g rfl) (fun x hx => by simp at hx; rcases hx with rfl | rfl | rfl | rfl | rfl | rfl | rfl | rfl | rfl <;> rfl) (by unfold maxLen; omega) (by omega) (balloc HB2.out _).size ?_; intro v4 w4 ho4 hg4 _)
            have HB4 := Hid.in_ (bgrown (balloc HB2.out _) (HV2.out.row.alloc _) (Nat.le_refl _) hg4)
            have HV4 := Hid.in_ (show VRow w4 wC.heap.size v4 (D ++ [(⟨⟨rc, rh, rn, rs, rd, rt, rx, rl, rvo⟩, .slice A9 rl.length c9⟩ : VotO)]) from ⟨by
              rw [List.length_append, List.flatMap_append]
              exact ho4, fun p hp => by
              rcases List.mem_append.1 hp with hp | hp
              · exact kept_apart (by decide) ((HV2.out.weak p hp).alloc _) (HV2.out.row.alloc _) hg4
              · rw [List.mem_singleton] at hp
                subst hp
                exact kept_apart (by decide) ((own_base HOW.out (Nat.le_trans HB.out.size HAL.out.size)).alloc _) (HV2.out.row.alloc _) hg4, HPA.out⟩)
            clear ho4 hg4
            have hj := HJ.out
            go_roundg (gk - 1)
            case measure => omega
            case rel =>
              refine ⟨j + 1, D ++ [(⟨⟨rc, rh, rn, rs, rd, rt, rx, rl, rvo⟩, .slice A9 rl.length c9⟩ : VotO)], by omega, by go_num, ⟨by rw [List.length_append, HD.out.1]; rfl, ?_⟩, HV4, HB4⟩
              rw [List.map_append, HD.out.2, List.take_add_one, HA.out, List.map_append]
              show _ ++ [(_ : VotR)] = _ ++ [mergeV ls _]
              rw [HR.out]
          · have hj := HJ.out
            obtain rfl : j = K := by omega
            have HF := Hid.in_ (show D.map VotO.r = mgV ls by
              rw [HD.out.2, HMG.out, List.take_of_length_le (by rw [HKL.out]; exact Nat.le_refl _)])
            have HBF := Hid.in_ (HBC.out.trans (HB.out.mono HBC.out.size))
            go_wp2
            go_ret
            exact ⟨_, D, rfl, HF.out, HV.out.base HBC.out.size, HBF.out⟩
      · obtain ⟨A6, c6, rfl, _, _, hA6⟩ := own_shape HI.out
        obtain ⟨g6, rfl, _⟩ := hA6 (by omega)
        clear hA6
        go_wp2_with fail
        refine (sort_adrs _ HI.out (by omega)).mono ?_
        rintro e w2 ⟨rfl, d', hperm, hsort, ho2, hb2⟩
        have hB2 := HB.out.trans hb2
        go_wp2_with fail
        refine (slices_CompactA _ ho2).mono ?_
        rintro e wC ⟨m, hm, rfl, ho3, hg3⟩
        have hdl : d'.length = n0 := by rw [hperm.length_eq, HN0.out]
        have hks := keys_same hperm hsort
        rw [hdl] at hks
        rw [hks] at ho3 hm
        obtain ⟨KS, hKS⟩ : ∃ KS, keysOf ls.flatten = KS := ⟨_, rfl⟩
        rw [hKS] at ho3 hm
        obtain ⟨K, rfl⟩ : ∃ K : Nat, K = m := ⟨_, rfl⟩
        have HKL := Hid.in_ hm.symm
        have HMG := Hid.in_ (show mgV ls = KS.map (mergeV ls) by unfold mgV; rw [hKS])
        have HBX : Hid (0 < K → ∃ g, (some ⟨g6, 0, none⟩ : Option Addr) = some ⟨g, 0, none⟩ ∧ g < wC.heap.size ∧ Box wC g (KS.flatMap AdrR.cells)) := Hid.in_ (fun _ => ⟨g6, rfl, (ho3.lt g6 rfl).2, (own_box ho3).1⟩)
        have HBC := Hid.in_ (hB2.grown hg3 hB2.size (fun k hk => by injection hk with hk; rw [← hk]; exact (ho2.lt g6 rfl).1))
        have hKb : K ≤ 320 := by rw [hm, ← hKS]; exact Nat.le_trans (keysOf_len _) hfb
        clear hm hKS hks ho3 hg3 hB2 hb2 ho2 hsort hperm hdl HB HI
        go_wp2_with fail
        go_loopg [8, 38] K (fun m v8 v38 wr => ∃ (j : Nat) (D : List VotO), j + m = K ∧ v38 = .int .i64 j ∧ Hid (D.length = j ∧ D.map VotO.r = (KS.take j).map (mergeV ls)) ∧ Hid (VRow wr wC.heap.size v8 D) ∧ Hid (Below wC.heap.size wC wr))
        case atStart => exact ⟨0, [], by omega, rfl, ⟨rfl, rfl⟩, VRow.nil _ _, Below.refl _ _⟩
        case round =>
          obtain ⟨j, D, hjm, rfl, HD, HV, HB⟩ := hrel
          have HJ := Hid.in_ hjm
          clear hjm
          by_cases hlj : j < K
          · obtain ⟨g7, hA7, hg7, hx7⟩ := HBX.out (by omega)
            first | subst hA7 | (obtain rfl : g7 = g6 := by injection hA7 with e; injection e with e; exact e.symm)
            obtain ⟨a, ha⟩ := get_lt KS j (by rw [HKL.out]; exact hlj)
            obtain ⟨x0, x1, x2, x3⟩ := boxAt4 ((Box.elem AdrR.len hx7 ha).step HB.out)
            have HA := Hid.in_ ha
            obtain ⟨ac, ah, an, as_⟩ := a
            simp only at x0 x1 x2 x3
            have HAL := Hid.in_ (balloc (Below.refl wr.heap.size wr) (.cells #[.int .i64 ac, .int .i64 ah, .int .i64 an, .int .i64 as_] 136))
            have HBW := Hid.in_ (HBC.out.trans ((HB.out.trans (HAL.out.mono HB.out.size)).mono HBC.out.size))
            have hma := HMA.out ⟨ac, ah, an, as_⟩ _ HBW.out
            obtain ⟨r, hr⟩ : ∃ r, mergeV ls ⟨ac, ah, an, as_⟩ = r := ⟨_, rfl⟩
            rw [hr] at hma
            have HR := Hid.in_ hr
            obtain ⟨rc, rh, rn, rs, rd, rt, rx, rl, rvo⟩ := r
            have HCA := Hid.in_ (show Calls Try.prog 105 #[.slice A i c, .agg #[.int .i64 ac, .int .i64 ah, .int .i64 an, .int .i64 as_]] (wr.alloc (.cells #[.int .i64 ac, .int .i64 ah, .int .i64 an, .int .i64 as_] 136)) fun e w' => ∃ wv, e = .returned (.agg #[.int .i64 rc, .int .i64 rh, .int .i64 rn, .int .i64 rs, .string rd, .int .i64 rt, .bool rx, wv, .int .i64 rvo]) ∧ w'.ownsRow (wr.alloc (.cells #[.int .i64 ac, .int .i64 ah, .int .i64 an, .int .i64 as_] 136)).heap.size 2 1 wv rl.length (I64 rl) ∧ Below (wr.alloc (.cells #[.int .i64 ac, .int .i64 ah, .int .i64 an, .int .i64 as_] 136)).heap.size (wr.alloc (.cells #[.int .i64 ac, .int .i64 ah, .int .i64 an, .int .i64 as_] 136)) w' from hma)
            have hgr : g7 < wr.heap.size := Nat.lt_of_lt_of_le hg7 HB.out.size
            clear hma hr ha hx7
            go_wp2_with fail
            refine HCA.out.mono ?_
            rintro e w2 ⟨wv, rfl, how, hb2⟩
            have hB2 := HAL.out.trans (hb2.mono HAL.out.size)
            have HB2 := Hid.in_ (HB.out.trans (hB2.mono HB.out.size))
            have HV2 := Hid.in_ (HV.out.step hB2)
            have HOW := Hid.in_ how
            have HPA := Hid.in_ (pair_snoc (o := ⟨⟨rc, rh, rn, rs, rd, rt, rx, rl, rvo⟩, wv⟩) HV.out.apart HV.out.weak how HAL.out.size)
            obtain ⟨A9, c9, rfl, _, _, _⟩ := own_shape how
            have hKb2 : D.length ≤ 320 := by rw [HD.out.1]; omega
            clear hb2 hB2 how x0 x1 x2 x3
            go_wp2_with (at_builtin; refine wpList_append_own _ rfl _ _ 35 rfl wC.heap.size 77 i1 (.agg #[.int .i64 0, .int .i64 0, .int .i64 0, .int .i64 0, .string ⟨#[]⟩, .int .i64 0, .bool false, .slice none 0 0, .int .i64 0]) 9 96 Try.underlying35 hti1 hy0 hy1 hy2 rfl (by decide) _ _ _ rfl (HV2.out.row.alloc _) ⟨w2.heap.size, 0, none⟩ 1 1 [.int .i64 rc, .int .i64 rh, .int .i64 rn, .int .i64 rs, .string rd, .int .i64 rt, .bool rx, .slice A9 rl.length c9, .int .i64 rvo] rfl rfl (cells9g rfl) (fun x hx => by simp at hx; rcases hx with rfl | rfl | rfl | rfl | rfl | rfl | rfl | rfl | rfl <;> rfl) (by unfold maxLen; omega) (by omega) (balloc HB2.out _).size ?_; intro v4 w4 ho4 hg4 _)
            have HB4 := Hid.in_ (bgrown (balloc HB2.out _) (HV2.out.row.alloc _) (Nat.le_refl _) hg4)
            have HV4 := Hid.in_ (show VRow w4 wC.heap.size v4 (D ++ [(⟨⟨rc, rh, rn, rs, rd, rt, rx, rl, rvo⟩, .slice A9 rl.length c9⟩ : VotO)]) from ⟨by
              rw [List.length_append, List.flatMap_append]
              exact ho4, fun p hp => by
              rcases List.mem_append.1 hp with hp | hp
              · exact kept_apart (by decide) ((HV2.out.weak p hp).alloc _) (HV2.out.row.alloc _) hg4
              · rw [List.mem_singleton] at hp
                subst hp
                exact kept_apart (by decide) ((own_base HOW.out (Nat.le_trans HB.out.size HAL.out.size)).alloc _) (HV2.out.row.alloc _) hg4, HPA.out⟩)
            clear ho4 hg4
            have hj := HJ.out
            go_roundg (gk - 1)
            case measure => omega
            case rel =>
              refine ⟨j + 1, D ++ [(⟨⟨rc, rh, rn, rs, rd, rt, rx, rl, rvo⟩, .slice A9 rl.length c9⟩ : VotO)], by omega, by go_num, ⟨by rw [List.length_append, HD.out.1]; rfl, ?_⟩, HV4, HB4⟩
              rw [List.map_append, HD.out.2, List.take_add_one, HA.out, List.map_append]
              show _ ++ [(_ : VotR)] = _ ++ [mergeV ls _]
              rw [HR.out]
          · have hj := HJ.out
            obtain rfl : j = K := by omega
            have HF := Hid.in_ (show D.map VotO.r = mgV ls by
              rw [HD.out.2, HMG.out, List.take_of_length_le (by rw [HKL.out]; exact Nat.le_refl _)])
            have HBF := Hid.in_ (HBC.out.trans (HB.out.mono HBC.out.size))
            go_wp2
            go_ret
            exact ⟨_, D, rfl, HF.out, HV.out.base HBC.out.size, HBF.out⟩
end Go.Proofs.Ytlelgpknkgjaeaa
