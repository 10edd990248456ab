/- 'l10Keys' of the reference: the addresses of all sectors, in order, each once. -/
import Derived.Test.YtlelgpknkgjaeaaMgS
namespace Go.Proofs.Ytlelgpknkgjaeaa
open Go.ChangeShapes Go.WideShapes Go.ChangeAt Go.RowKit
set_option linter.unusedSimpArgs false
set_option linter.unusedVariables false
set_option maxRecDepth 4000

def keyO (a : AdrR) : VotO := ⟨⟨a.c, a.h, a.n, a.s, ⟨#[]⟩, 0, false, [], 0⟩, .slice none 0 0⟩
theorem keyO_box {w : World} {g k : Nat} {l : List AdrR} {a : AdrR} (h : Box w g ((l.map keyO).flatMap VotO.cells)) (hk : l[k]? = some a) : BoxAt w g (k * 9) a.cells := fun j u hu => by
  have hj : j < 4 := (List.getElem?_eq_some_iff.1 hu).1
  have := Box.elem VotO.len h (show (l.map keyO)[k]? = some (keyO a) by rw [List.getElem?_map, hk]; rfl) j
  refine this u ?_
  have h4 : j = 0 ∨ j = 1 ∨ j = 2 ∨ j = 3 := by omega
  rcases h4 with rfl | rfl | rfl | rfl <;> exact hu
theorem cells9g {w : World} {g : Nat} {a0 a1 a2 a3 a4 a5 a6 a7 a8 : Value} {t : TypeId} (hg : g = w.heap.size) : ∀ j u, ([a0, a1, a2, a3, a4, a5, a6, a7, a8] : List Value)[j]? = some u → (w.alloc (.cells #[a0, a1, a2, a3, a4, a5, a6, a7, a8] t)).cell? ((⟨g, 0, none⟩ : Addr).add j) = some u := fun j u hu => by
  subst hg
  have h := World.ownsRow_lit (e := t) w #[a0, a1, a2, a3, a4, a5, a6, a7, a8] 1 (base := w.heap.size) (size := 9) (Nat.le_refl _) (by decide) rfl
  exact h.cells (g := w.heap.size) rfl j u hu
theorem key_one {l : List AdrR} : ∀ u ∈ (l.map keyO).flatMap VotO.cells, u.oneCell' = true := by
  intro u hu
  obtain ⟨m, hm, h⟩ := List.mem_flatMap.1 hu
  obtain ⟨a, _, rfl⟩ := List.mem_map.1 hm
  simp only [keyO, VotO.cells, VotR.cells, List.mem_cons, List.not_mem_nil, or_false] at h
  rcases h with rfl | rfl | rfl | rfl | rfl | rfl | rfl | rfl | rfl <;> rfl
theorem kbox_take {w : World} {g k : Nat} {l : List AdrR} (h : Box w g ((l.map keyO).flatMap VotO.cells)) : ∀ j u, (((l.take k).map keyO).flatMap VotO.cells)[j]? = some u → w.cell? ((⟨g, 0, none⟩ : Addr).add j) = some u := fun j u hu => by
  rw [addr_add, Nat.zero_add]
  refine h j u ?_
  have hj := (List.getElem?_eq_some_iff.1 hu).1
  have e : (l.map keyO).flatMap VotO.cells = ((l.take k).map keyO).flatMap VotO.cells ++ ((l.drop k).map keyO).flatMap VotO.cells := by rw [← List.flatMap_append, ← List.map_append, List.take_append_drop]
  rw [e, List.getElem?_append_left hj]
  exact hu
theorem kbox_drop {w : World} {g k : Nat} {l : List AdrR} (hk : k ≤ l.length) (h : Box w g ((l.map keyO).flatMap VotO.cells)) : ∀ j u, (((l.drop k).map keyO).flatMap VotO.cells)[j]? = some u → w.cell? ((⟨g, k * 9, none⟩ : Addr).add j) = some u := fun j u hu => by
  rw [addr_add]
  refine h _ u ?_
  have e : (l.map keyO).flatMap VotO.cells = ((l.take k).map keyO).flatMap VotO.cells ++ ((l.drop k).map keyO).flatMap VotO.cells := by rw [← List.flatMap_append, ← List.map_append, List.take_append_drop]
  have hl : (((l.take k).map keyO).flatMap VotO.cells).length = k * 9 := by rw [flat_len VotO.len, List.length_map, List.length_take, Nat.min_eq_left hk]
  rw [e, List.getElem?_append_right (by omega), hl, show k * 9 + j - k * 9 = j by omega]
  exact hu
theorem putAt_cells (l : List AdrR) (a : AdrR) (k : Nat) : ((putAt l a k).map keyO).flatMap VotO.cells = ((l.take k).map keyO).flatMap VotO.cells ++ (keyO a).cells ++ ((l.drop k).map keyO).flatMap VotO.cells := by
  unfold putAt
  rw [List.map_append, List.map_append, List.flatMap_append, List.flatMap_append]
  simp
theorem putAt_cells' (l : List AdrR) (a : AdrR) (k : Nat) : ((putAt l a k).map keyO).flatMap VotO.cells = ((l.take k).map keyO).flatMap VotO.cells ++ [.int .i64 a.c, .int .i64 a.h, .int .i64 a.n, .int .i64 a.s, .string ⟨#[]⟩, .int .i64 0, .bool false, .slice none 0 0, .int .i64 0] ++ ((l.drop k).map keyO).flatMap VotO.cells := putAt_cells l a k
theorem box9z {w : World} {b : Nat} {a0 a1 a2 a3 a4 a5 a6 a7 a8 : Value} (h : Box w b [a0, a1, a2, a3, a4, a5, a6, a7, a8]) : w.cell? ⟨b, 0, none⟩ = some a0 ∧ w.cell? ⟨b, 1, none⟩ = some a1 ∧ w.cell? ⟨b, 2, none⟩ = some a2 ∧ w.cell? ⟨b, 3, none⟩ = some a3 ∧ w.cell? ⟨b, 4, none⟩ = some a4 ∧ w.cell? ⟨b, 5, none⟩ = some a5 ∧ w.cell? ⟨b, 6, none⟩ = some a6 ∧ w.cell? ⟨b, 7, none⟩ = some a7 ∧ w.cell? ⟨b, 8, none⟩ = some a8 :=
  ⟨h 0 _ rfl, h 1 _ rfl, h 2 _ rfl, h 3 _ rfl, h 4 _ rfl, h 5 _ rfl, h 6 _ rfl, h 7 _ rfl, h 8 _ rfl⟩
theorem putAt_len {l : List AdrR} {a : AdrR} {k : Nat} (h : k ≤ l.length) : (putAt l a k).length = k + 1 + (l.length - k) := by
  unfold putAt
  rw [List.length_append, List.length_append, List.length_take, List.length_drop, Nat.min_eq_left h]
  rfl
set_option maxHeartbeats 8000000 in
theorem spec_l10Keys {v : Value} {b n : Nat} {os : List FsO} {ls : List (List FndR)} (w : World) (h : FsRow w b v os) (hl : os.map FsO.r = ls) (hn : ls.length = n) (h64 : ∀ fs ∈ ls, fs.length ≤ 64) (hn5 : n ≤ 5) :
    Calls Try.prog 95 #[v] w fun e w' => ∃ g c, e = .returned (.slice (some ⟨g, 0, none⟩) (keysOf ls.flatten).length c) ∧ w'.ownsRow w.heap.size 77 9 (.slice (some ⟨g, 0, none⟩) (keysOf ls.flatten).length c) (keysOf ls.flatten).length (((keysOf ls.flatten).map keyO).flatMap VotO.cells) ∧ Below w.heap.size w w' := by
  obtain ⟨i0, hti, hz0, hz1, hz2⟩ := info_parts Try.info_Voted
  have hno : os.length = n := by rw [← hn, ← hl, List.length_map]
  have HE := Hid.in_ h.each
  obtain ⟨A, c, rfl, _, hcn, hA⟩ := own_shape h.row
  rw [hno] at hcn hA ⊢
  have H1 := Hid.in_ hA
  have HNO := Hid.in_ hno
  have HLS := Hid.in_ hl
  have HNN := Hid.in_ hn
  have H64 := Hid.in_ h64
  clear h hl hn h64 hno hA
  go_enter Try.func95, Try.ntmps95
  go_wp2_with fail
  go_loopg [3, 4] n (fun m v3 v4 wr => ∃ i K gq cq : Nat, i + m = n ∧ v4 = .int .i64 i ∧ v3 = .slice (some ⟨gq, 0, none⟩) K cq ∧ Hid (K = (keysOf (preF ls i 0)).length) ∧ Hid (wr.ownsRow w.heap.size 77 9 (.slice (some ⟨gq, 0, none⟩) K cq) K (((keysOf (preF ls i 0)).map keyO).flatMap VotO.cells)) ∧ Hid (Below w.heap.size w wr))
  case atStart => exact ⟨0, 0, w.heap.size, 0, by omega, rfl, rfl, by rw [preF_zero]; rfl, by rw [preF_zero]; exact World.ownsRow_lit w #[] 0 (Nat.le_refl _) (by decide) (by decide), balloc (Below.refl _ _) _⟩
  case round =>
    obtain ⟨i, K, gq, cq, him, rfl, rfl, HKL, HI, HB⟩ := hrel
    have HK := Hid.in_ him
    clear him
    by_cases hlt : i < n
    · obtain ⟨g, rfl, _, hg, hx, _⟩ := H1.out (by omega)
      obtain ⟨⟨fs, fv⟩, ho⟩ := get_lt os i (by rw [HNO.out]; exact hlt)
      have hbx := Box.elem FsO.len hx ho
      rw [Nat.mul_one] at hbx
      have HC0 : Hid (w.cell? ⟨g, i, none⟩ = some fv) := by have := hbx 0 _ rfl; exact this
      have hfr : w.ownsRow b 128 8 fv fs.length (fs.flatMap FndR.cells) := HE.out _ (List.mem_of_getElem? ho)
      have hli : ls[i]? = some fs := fso_get HLS.out ho
      have hfl : fs.length ≤ 64 := H64.out fs (List.mem_of_getElem? hli)
      have HLI := Hid.in_ hli
      obtain ⟨N, hN⟩ : ∃ N, fs.length = N := ⟨_, rfl⟩
      rw [hN] at hfr hfl
      obtain ⟨A2, c2, rfl, _, hc2, hA2⟩ := own_shape hfr
      have H2 := Hid.in_ hA2
      have HFN := Hid.in_ hN
      have hgw : g < wr.heap.size := Nat.lt_of_lt_of_le hg HB.out.size
      clear hbx hx ho hfr hli hA2 hN
      go_wp2_with fail
      obtain ⟨gO, rfl⟩ : ∃ g, g = gk := ⟨_, rfl⟩
      go_loopg [3, 5] N (fun m v3 v5 wr => ∃ k K gq cq : Nat, k + m = N ∧ v5 = .int .i64 k ∧ v3 = .slice (some ⟨gq, 0, none⟩) K cq ∧ Hid (K = (keysOf (preF ls i k)).length) ∧ Hid (wr.ownsRow w.heap.size 77 9 (.slice (some ⟨gq, 0, none⟩) K cq) K (((keysOf (preF ls i k)).map keyO).flatMap VotO.cells)) ∧ Hid (Below w.heap.size w wr))
      case atStart => exact ⟨0, K, gq, cq, by omega, rfl, rfl, HKL, HI, HB⟩
      case round =>
        clear HI HB HKL
        obtain ⟨k, K, gq, cq, hkm, rfl, rfl, HKL, HI, HB⟩ := hrel
        obtain ⟨wo, rfl⟩ : ∃ x, x = wr := ⟨_, rfl⟩
        have HQ := Hid.in_ hkm
        clear hkm
        have c0 : wo.cell? ⟨g, i, none⟩ = some (.slice A2 N c2) := cstep HB.out HC0.out
        by_cases hlk : k < N
        · obtain ⟨g2, rfl, _, hg2, hx2, _⟩ := H2.out (by omega)
          obtain ⟨f, hf⟩ := get_lt fs k (by rw [HFN.out]; exact hlk)
          obtain ⟨x0, x1, x2, x3, x4, x5, x6, x7⟩ := boxAt8 ((Box.elem FndR.len hx2 hf).step HB.out)
          have HPN := Hid.in_ (preF_next HLI.out hf)
          have hKb : K ≤ 320 := by
            rw [HKL.out]
            exact Nat.le_trans (keysOf_len _) (preF_small (by rw [HNN.out]; exact hn5) H64.out (by rw [HNN.out]; exact hlt) (by omega))
          have hg2w : g2 < wo.heap.size := Nat.lt_of_lt_of_le hg2 HB.out.size
          obtain ⟨_, _, hcq1, hcq2⟩ := own_box HI.out
          have hgqw : gq < wo.heap.size := (HI.out.lt gq rfl).2
          clear hx2 hf
          obtain ⟨fc, fh, fn, fs_, fd, ft, fl, fp⟩ := f
          simp only at x0 x1 x2 x3 x4 x5 x6 x7
          cases hst : (ft == 2)
          · have HN := Hid.in_ (show keysOf (preF ls i (k + 1)) = putA (keysOf (preF ls i k)) ⟨fc, fh, fn, fs_⟩ by
              rw [HPN.out, keysOf_yes (by simp only [beq_eq_false_iff_ne, ne_eq] at hst; exact hst)]; rfl)
            obtain ⟨KS, hKS⟩ : ∃ KS, keysOf (preF ls i k) = KS := ⟨_, rfl⟩
            rw [hKS] at HKL HI HN
            have HAW := Hid.in_ (show Below wo.heap.size wo ((wo.alloc (.cells #[.int .i64 fc, .int .i64 fh, .int .i64 fn, .int .i64 fs_, .string fd, .int .i64 ft, .bool fl, .int .i64 fp] 128)).alloc (.cells #[.int .i64 fc, .int .i64 fh, .int .i64 fn, .int .i64 fs_, .string ⟨#[]⟩, .int .i64 0, .bool false, .slice none 0 0, .int .i64 0] 77)) from balloc (balloc (Below.refl _ _) _) _)
            have HVB := Hid.in_ (show Box ((wo.alloc (.cells #[.int .i64 fc, .int .i64 fh, .int .i64 fn, .int .i64 fs_, .string fd, .int .i64 ft, .bool fl, .int .i64 fp] 128)).alloc (.cells #[.int .i64 fc, .int .i64 fh, .int .i64 fn, .int .i64 fs_, .string ⟨#[]⟩, .int .i64 0, .bool false, .slice none 0 0, .int .i64 0] 77)) (wo.heap.size + 1) [.int .i64 fc, .int .i64 fh, .int .i64 fn, .int .i64 fs_, .string ⟨#[]⟩, .int .i64 0, .bool false, .slice none 0 0, .int .i64 0] from (wr_twoT wo 128 77 [.int .i64 fc, .int .i64 fh, .int .i64 fn, .int .i64 fs_, .string fd, .int .i64 ft, .bool fl, .int .i64 fp] [.int .i64 fc, .int .i64 fh, .int .i64 fn, .int .i64 fs_, .string ⟨#[]⟩, .int .i64 0, .bool false, .slice none 0 0, .int .i64 0]).2.1.box)
            clear hKS HPN
            go_wp2_with fail
            obtain ⟨gM, rfl⟩ : ∃ g, g = gk := ⟨_, rfl⟩
            obtain ⟨wa, hwa⟩ : ∃ wa, wa = (wo.alloc (.cells #[.int .i64 fc, .int .i64 fh, .int .i64 fn, .int .i64 fs_, .string fd, .int .i64 ft, .bool fl, .int .i64 fp] 128)).alloc (.cells #[.int .i64 fc, .int .i64 fh, .int .i64 fn, .int .i64 fs_, .string ⟨#[]⟩, .int .i64 0, .bool false, .slice none 0 0, .int .i64 0] 77) := ⟨_, rfl⟩
            rw [← hwa] at HAW HVB
            have hwasz : wo.heap.size + 1 < wa.heap.size := by rw [hwa]; show _ < ((wo.heap.push _).push _).size; rw [Array.size_push, Array.size_push]; omega
            have HWA := Hid.in_ hwa
            clear hwa x0 x1 x2 x3 x4 x5 x6 x7
            try rw [← HWA.out]
            go_loopg [8] K (fun m v8 wr => ∃ p : Nat, p + m = K ∧ v8 = .int .i64 p ∧ Hid (∀ j x, j < p → KS[j]? = some x → ltA x ⟨fc, fh, fn, fs_⟩) ∧ Hid (Below wa.heap.size wa wr))
            case atStart => exact ⟨0, by omega, rfl, fun j x hj => absurd hj (by omega), by first | exact Below.refl _ _ | (rw [HWA.out]; exact Below.refl _ _)⟩
            case round =>
              obtain ⟨p, hpm, rfl, HP, HBP⟩ := hrel
              have HPP := Hid.in_ hpm
              have hpK : p ≤ K := by omega
              clear hpm
              have HBW := Hid.in_ (HAW.out.trans (HBP.out.mono HAW.out.size))
              have hIp := own_below HI.out HBW.out (Nat.le_refl _)
              have HIP := Hid.in_ hIp
              have HXP := Hid.in_ (own_box hIp).1
              have HVP := Hid.in_ (HVB.out.step HBP.out)
              have HBB := Hid.in_ (HB.out.trans (HBW.out.mono HB.out.size))
              have hgqr : gq < wr.heap.size := (hIp.lt gq rfl).2
              have hvr : wo.heap.size + 1 < wr.heap.size := Nat.lt_of_lt_of_le hwasz HBP.out.size
              have hVA : BoxAt wr (wo.heap.size + 1) 0 (AdrR.cells ⟨fc, fh, fn, fs_⟩) := fun j u hu => by
                have hj : j < 4 := (List.getElem?_eq_some_iff.1 hu).1
                rw [Nat.zero_add]
                refine HVP.out j u ?_
                have h4 : j = 0 ∨ j = 1 ∨ j = 2 ∨ j = 3 := by omega
                rcases h4 with rfl | rfl | rfl | rfl <;> exact hu
              have HVA := Hid.in_ hVA
              clear hIp hVA
              by_cases hlp : p < K
              · obtain ⟨y, hy⟩ := get_lt KS p (by rw [← HKL.out]; exact hlp)
                have HY := Hid.in_ hy
                have HYA := Hid.in_ (keyO_box HXP.out hy)
                have H01 := Hid.in_ (spec_l10Before wr HYA.out HVA.out)
                clear hy
                by_cases hyv : ltA y ⟨fc, fh, fn, fs_⟩
                · rw [decide_eq_true hyv] at H01
                  go_wp2_with fail
                  refine H01.out.mono ?_
                  rintro e w2 ⟨rfl, q, rfl⟩
                  go_wp2
                  have hp := HPP.out
                  go_roundg (gk - 1)
                  case measure => omega
                  case rel =>
                    refine ⟨p + 1, by omega, by go_num, Hid.in_ (fun j x hj hx => ?_), below_drewN HBP.out _⟩
                    rcases Nat.lt_or_ge j p with hjp | hjp
                    · exact HP.out j x hjp hx
                    · obtain rfl : j = p := by omega
                      rw [HY.out] at hx
                      injection hx with hx
                      rw [← hx]; exact hyv
                · rw [decide_eq_false hyv] at H01
                  by_cases hvy : ltA ⟨fc, fh, fn, fs_⟩ y
                  · have HS := Hid.in_ (putA_new HP.out HY.out hyv hvy)
                    go_wp2_with fail
                    refine H01.out.mono ?_
                    rintro e w2 ⟨rfl, q, rfl⟩
                    obtain ⟨w2, hw2⟩ : ∃ w2, w2 = wr.drewN q := ⟨_, rfl⟩
                    rw [← hw2]
                    have hb2 : Below wr.heap.size wr w2 := by rw [hw2]; exact below_drewN (Below.refl _ _) _
                    have H02 := Hid.in_ (spec_l10Before w2 (HVA.out.step hb2) (HYA.out.step hb2))
                    rw [decide_eq_true hvy] at H02
                    have HB2 := Hid.in_ hb2
                    clear hw2 hb2
                    go_wp2_with fail
                    refine H02.out.mono ?_
                    rintro e w3 ⟨rfl, q3, rfl⟩
                    obtain ⟨wq, hwq⟩ : ∃ wq, wq = w2.drewN q3 := ⟨_, rfl⟩
                    rw [← hwq]
                    have HBR := Hid.in_ (show Below wr.heap.size wr wq by rw [hwq]; exact below_drewN HB2.out _)
                    have HIQ := Hid.in_ (ostep HBR.out HIP.out)
                    have HVQ := Hid.in_ (HVP.out.step HBR.out)
                    have HBQ := Hid.in_ (HBB.out.trans (HBR.out.mono HBB.out.size))
                    clear hwq
                    have X1 : ∀ j u, (((KS.take p).map keyO).flatMap VotO.cells)[j]? = some u → (wq.alloc (.cells #[] 77)).cell? ((⟨gq, 0, none⟩ : Addr).add j) = some u := kbox_take ((own_box (HIQ.out.alloc _)).1)
                    have X9 := Hid.in_ (show p ≤ KS.length by rw [← HKL.out]; exact hpK)
                    have X2 : (((KS.take p).map keyO).flatMap VotO.cells).length = p * 9 := by rw [flat_len VotO.len, List.length_map, List.length_take, Nat.min_eq_left X9.out]
                    have X8 : (((KS.drop p).map keyO).flatMap VotO.cells).length = (K - p) * 9 := by rw [flat_len VotO.len, List.length_map, List.length_drop, HKL.out]
                    have X3 := World.ownsRow_lit (e := 77) (base := wq.heap.size) (size := 9) wq #[] 0 (Nat.le_refl _) (by decide) (by decide)
                    have X4 : (p : Int) ≤ K := by omega
                    have X5 : (K : Int) ≤ cq := by omega
                    have X6 : (0 : Int) ≤ p := by omega
                    have X7 : (p : Int) ≤ cq := by omega
                    have hKp : p + 1 + (K - p) = K + 1 := by omega
                    go_wp2_with (at_builtin; first
                      | (refine wpList_append_own _ rfl _ _ 35 rfl wq.heap.size 77 i0 (.agg #[.int .i64 0, .int .i64 0, .int .i64 0, .int .i64 0, .string ⟨#[]⟩, .int .i64 0, .bool false, .slice none 0 0, .int .i64 0]) 9 96 Try.underlying35 hti hz0 hz1 hz2 rfl (by decide) _ _ _ rfl X3 ⟨gq, 0, none⟩ p cq (((KS.take p).map keyO).flatMap VotO.cells) rfl X2 X1 key_one (by unfold maxLen; omega) (by omega) (balloc (Below.refl _ _) _).size ?_; intro v4 w4 ho4 hg4 _
                         have HO4 := Hid.in_ (show w4.ownsRow wq.heap.size 77 9 v4 p (((KS.take p).map keyO).flatMap VotO.cells) by simpa using ho4)
                         have HB4 := Hid.in_ (bgrown (balloc (Below.refl wq.heap.size wq) _) X3 (Nat.le_refl _) hg4)
                         clear ho4 hg4
                         obtain ⟨d0, d1, d2, d3, d4, d5, d6, d7, d8⟩ := box9z (HVQ.out.step HB4.out))
                      | (refine wpList_append_own _ rfl _ _ 35 rfl wq.heap.size 77 i0 (.agg #[.int .i64 0, .int .i64 0, .int .i64 0, .int .i64 0, .string ⟨#[]⟩, .int .i64 0, .bool false, .slice none 0 0, .int .i64 0]) 9 96 Try.underlying35 hti hz0 hz1 hz2 rfl (by decide) _ _ _ rfl (HO4.out.alloc _) ⟨w4.heap.size, 0, none⟩ 1 1 [.int .i64 fc, .int .i64 fh, .int .i64 fn, .int .i64 fs_, .string ⟨#[]⟩, .int .i64 0, .bool false, .slice none 0 0, .int .i64 0] rfl rfl (cells9g rfl) (fun x hx => by simp at hx; rcases hx with rfl | rfl | rfl | rfl | rfl | rfl | rfl | rfl | rfl <;> rfl) (by unfold maxLen; omega) (by omega) (balloc HB4.out _).size ?_; intro v5 w5 ho5 hg5 _
                         have HO5 := Hid.in_ ho5
                         have HB5 := Hid.in_ (bgrown (balloc HB4.out _) (HO4.out.alloc _) (Nat.le_refl _) hg5)
                         clear ho5 hg5)
                      | (refine wpList_append_own _ rfl _ _ 35 rfl wq.heap.size 77 i0 (.agg #[.int .i64 0, .int .i64 0, .int .i64 0, .int .i64 0, .string ⟨#[]⟩, .int .i64 0, .bool false, .slice none 0 0, .int .i64 0]) 9 96 Try.underlying35 hti hz0 hz1 hz2 rfl (by decide) _ _ _ rfl HO5.out ⟨gq, p * 9, none⟩ (K - p) (cq - p) (((KS.drop p).map keyO).flatMap VotO.cells) rfl X8 (kbox_drop X9.out ((own_box (ostep HB5.out HIQ.out)).1)) key_one (by unfold maxLen; omega) (by omega) HB5.out.size ?_; intro v6 w6 ho6 hg6 _
                         have HO6 := Hid.in_ ho6
                         have HB6 := Hid.in_ (bgrown HB5.out HO5.out (Nat.le_refl _) hg6)
                         clear ho6 hg6))
                    have ho := HO6.out
                    rw [← putAt_cells' KS ⟨fc, fh, fn, fs_⟩ p, hKp] at ho
                    have HOF := Hid.in_ (own_base ho (show w.heap.size ≤ wq.heap.size from HBQ.out.size))
                    obtain ⟨A6, c6, rfl, _, _, hA6⟩ := own_shape ho
                    obtain ⟨g6, rfl, _⟩ := hA6 (by omega)
                    have HLF := Hid.in_ (show K + 1 = (putAt KS ⟨fc, fh, fn, fs_⟩ p).length by rw [putAt_len X9.out, ← HKL.out, hKp])
                    have HBF := Hid.in_ (HBQ.out.trans (HB6.out.mono HBQ.out.size))
                    clear ho hA6 HO4 HO5 HO6 HB4 HB5 HB6 X1 X2 X3 X8
                    have hq := HQ.out
                    go_roundg (gM - 1)
                    case measure => omega
                    case rel => exact ⟨k + 1, K + 1, g6, c6, by omega, by go_num, by go_num, by rw [HN.out, HS.out]; exact HLF.out, by rw [HN.out, HS.out]; exact HOF.out, HBF.out⟩
                  · have HS := Hid.in_ (putA_old HP.out HY.out hyv hvy)
                    go_wp2_with fail
                    refine H01.out.mono ?_
                    rintro e w2 ⟨rfl, q, rfl⟩
                    obtain ⟨w2, hw2⟩ : ∃ w2, w2 = wr.drewN q := ⟨_, rfl⟩
                    rw [← hw2]
                    have hb2 : Below wr.heap.size wr w2 := by rw [hw2]; exact below_drewN (Below.refl _ _) _
                    have H02 := Hid.in_ (spec_l10Before w2 (HVA.out.step hb2) (HYA.out.step hb2))
                    rw [decide_eq_false hvy] at H02
                    have HB2 := Hid.in_ hb2
                    clear hw2 hb2
                    go_wp2_with fail
                    refine H02.out.mono ?_
                    rintro e w3 ⟨rfl, q3, rfl⟩
                    go_wp2
                    have hq := HQ.out
                    go_roundg (gM - 1)
                    case measure => omega
                    case rel => exact ⟨k + 1, K, gq, cq, by omega, by go_num, rfl, by rw [HN.out, HS.out]; exact HKL.out, by rw [HN.out, HS.out]; exact own_drewN (ostep HB2.out HIP.out) _, below_drewN (HBB.out.trans (HB2.out.mono HBB.out.size)) _⟩
              · have hpe : KS.length = p := by rw [← HKL.out]; omega
                have hS := putA_end (l := KS) (v := ⟨fc, fh, fn, fs_⟩) (fun j x hj hx => HP.out j x (by rw [← hpe]; exact hj) hx)
                rw [hpe] at hS
                have HS := Hid.in_ hS
                clear hS hpe
                by_cases hck : p < cq
                · have hck2 := hck
                  obtain ⟨wq, rfl⟩ : ∃ wq, wq = wr := ⟨_, rfl⟩
                  have HIQ := HIP
                  have HVQ := HVP
                  have HBQ := HBB
                  have X1 : ∀ j u, (((KS.take p).map keyO).flatMap VotO.cells)[j]? = some u → (wq.alloc (.cells #[] 77)).cell? ((⟨gq, 0, none⟩ : Addr).add j) = some u := kbox_take ((own_box (HIQ.out.alloc _)).1)
                  have X9 := Hid.in_ (show p ≤ KS.length by rw [← HKL.out]; exact hpK)
                  have X2 : (((KS.take p).map keyO).flatMap VotO.cells).length = p * 9 := by rw [flat_len VotO.len, List.length_map, List.length_take, Nat.min_eq_left X9.out]
                  have X8 : (((KS.drop p).map keyO).flatMap VotO.cells).length = (K - p) * 9 := by rw [flat_len VotO.len, List.length_map, List.length_drop, HKL.out]
                  have X3 := World.ownsRow_lit (e := 77) (base := wq.heap.size) (size := 9) wq #[] 0 (Nat.le_refl _) (by decide) (by decide)
                  have X4 : (p : Int) ≤ K := by omega
                  have X5 : (K : Int) ≤ cq := by omega
                  have X6 : (0 : Int) ≤ p := by omega
                  have X7 : (p : Int) ≤ cq := by omega
                  have hKp : p + 1 + (K - p) = K + 1 := by omega
                  go_wp2_with (at_builtin; first
                    | (refine wpList_append_own _ rfl _ _ 35 rfl wq.heap.size 77 i0 (.agg #[.int .i64 0, .int .i64 0, .int .i64 0, .int .i64 0, .string ⟨#[]⟩, .int .i64 0, .bool false, .slice none 0 0, .int .i64 0]) 9 96 Try.underlying35 hti hz0 hz1 hz2 rfl (by decide) _ _ _ rfl X3 ⟨gq, 0, none⟩ p cq (((KS.take p).map keyO).flatMap VotO.cells) rfl X2 X1 key_one (by unfold maxLen; omega) (by omega) (balloc (Below.refl _ _) _).size ?_; intro v4 w4 ho4 hg4 _
                       have HO4 := Hid.in_ (show w4.ownsRow wq.heap.size 77 9 v4 p (((KS.take p).map keyO).flatMap VotO.cells) by simpa using ho4)
                       have HB4 := Hid.in_ (bgrown (balloc (Below.refl wq.heap.size wq) _) X3 (Nat.le_refl _) hg4)
                       clear ho4 hg4
                       obtain ⟨d0, d1, d2, d3, d4, d5, d6, d7, d8⟩ := box9z (HVQ.out.step HB4.out))
                    | (refine wpList_append_own _ rfl _ _ 35 rfl wq.heap.size 77 i0 (.agg #[.int .i64 0, .int .i64 0, .int .i64 0, .int .i64 0, .string ⟨#[]⟩, .int .i64 0, .bool false, .slice none 0 0, .int .i64 0]) 9 96 Try.underlying35 hti hz0 hz1 hz2 rfl (by decide) _ _ _ rfl (HO4.out.alloc _) ⟨w4.heap.size, 0, none⟩ 1 1 [.int .i64 fc, .int .i64 fh, .int .i64 fn, .int .i64 fs_, .string ⟨#[]⟩, .int .i64 0, .bool false, .slice none 0 0, .int .i64 0] rfl rfl (cells9g rfl) (fun x hx => by simp at hx; rcases hx with rfl | rfl | rfl | rfl | rfl | rfl | rfl | rfl | rfl <;> rfl) (by unfold maxLen; omega) (by omega) (balloc HB4.out _).size ?_; intro v5 w5 ho5 hg5 _
                       have HO5 := Hid.in_ ho5
                       have HB5 := Hid.in_ (bgrown (balloc HB4.out _) (HO4.out.alloc _) (Nat.le_refl _) hg5)
                       clear ho5 hg5)
                    | (refine wpList_append_own _ rfl _ _ 35 rfl wq.heap.size 77 i0 (.agg #[.int .i64 0, .int .i64 0, .int .i64 0, .int .i64 0, .string ⟨#[]⟩, .int .i64 0, .bool false, .slice none 0 0, .int .i64 0]) 9 96 Try.underlying35 hti hz0 hz1 hz2 rfl (by decide) _ _ _ rfl HO5.out ⟨gq, p * 9, none⟩ (K - p) (cq - p) (((KS.drop p).map keyO).flatMap VotO.cells) rfl X8 (kbox_drop X9.out ((own_box (ostep HB5.out HIQ.out)).1)) key_one (by unfold maxLen; omega) (by omega) HB5.out.size ?_; intro v6 w6 ho6 hg6 _
                       have HO6 := Hid.in_ ho6
                       have HB6 := Hid.in_ (bgrown HB5.out HO5.out (Nat.le_refl _) hg6)
                       clear ho6 hg6))
                  have ho := HO6.out
                  rw [← putAt_cells' KS ⟨fc, fh, fn, fs_⟩ p, hKp] at ho
                  have HOF := Hid.in_ (own_base ho (show w.heap.size ≤ wq.heap.size from HBQ.out.size))
                  obtain ⟨A6, c6, rfl, _, _, hA6⟩ := own_shape ho
                  obtain ⟨g6, rfl, _⟩ := hA6 (by omega)
                  have HLF := Hid.in_ (show K + 1 = (putAt KS ⟨fc, fh, fn, fs_⟩ p).length by rw [putAt_len X9.out, ← HKL.out, hKp])
                  have HBF := Hid.in_ (HBQ.out.trans (HB6.out.mono HBQ.out.size))
                  clear ho hA6 HO4 HO5 HO6 HB4 HB5 HB6 X1 X2 X3 X8
                  have hq := HQ.out
                  go_roundg (gM - 1)
                  case measure => omega
                  case rel => exact ⟨k + 1, K + 1, g6, c6, by omega, by go_num, by go_num, by rw [HN.out, HS.out]; exact HLF.out, by rw [HN.out, HS.out]; exact HOF.out, HBF.out⟩
                · obtain rfl : p = cq := by omega
                  obtain ⟨wq, rfl⟩ : ∃ wq, wq = wr := ⟨_, rfl⟩
                  have HIQ := HIP
                  have HVQ := HVP
                  have HBQ := HBB
                  have X1 : ∀ j u, (((KS.take p).map keyO).flatMap VotO.cells)[j]? = some u → (wq.alloc (.cells #[] 77)).cell? ((⟨gq, 0, none⟩ : Addr).add j) = some u := kbox_take ((own_box (HIQ.out.alloc _)).1)
                  have X9 := Hid.in_ (show p ≤ KS.length by rw [← HKL.out]; exact hpK)
                  have X2 : (((KS.take p).map keyO).flatMap VotO.cells).length = p * 9 := by rw [flat_len VotO.len, List.length_map, List.length_take, Nat.min_eq_left X9.out]
                  have X8 : (((KS.drop p).map keyO).flatMap VotO.cells).length = (K - p) * 9 := by rw [flat_len VotO.len, List.length_map, List.length_drop, HKL.out]
                  have X3 := World.ownsRow_lit (e := 77) (base := wq.heap.size) (size := 9) wq #[] 0 (Nat.le_refl _) (by decide) (by decide)
                  have X4 : (p : Int) ≤ K := by omega
                  have X5 : (K : Int) ≤ p := by omega
                  have X6 : (0 : Int) ≤ p := by omega
                  have X7 : (p : Int) ≤ p := by omega
                  have hKp : p + 1 + (K - p) = K + 1 := by omega
                  go_wp2_with (at_builtin; first
                    | (refine wpList_append_own _ rfl _ _ 35 rfl wq.heap.size 77 i0 (.agg #[.int .i64 0, .int .i64 0, .int .i64 0, .int .i64 0, .string ⟨#[]⟩, .int .i64 0, .bool false, .slice none 0 0, .int .i64 0]) 9 96 Try.underlying35 hti hz0 hz1 hz2 rfl (by decide) _ _ _ rfl X3 ⟨gq, 0, none⟩ p p (((KS.take p).map keyO).flatMap VotO.cells) rfl X2 X1 key_one (by unfold maxLen; omega) (by omega) (balloc (Below.refl _ _) _).size ?_; intro v4 w4 ho4 hg4 _
                       have HO4 := Hid.in_ (show w4.ownsRow wq.heap.size 77 9 v4 p (((KS.take p).map keyO).flatMap VotO.cells) by simpa using ho4)
                       have HB4 := Hid.in_ (bgrown (balloc (Below.refl wq.heap.size wq) _) X3 (Nat.le_refl _) hg4)
                       clear ho4 hg4
                       obtain ⟨d0, d1, d2, d3, d4, d5, d6, d7, d8⟩ := box9z (HVQ.out.step HB4.out))
                    | (refine wpList_append_own _ rfl _ _ 35 rfl wq.heap.size 77 i0 (.agg #[.int .i64 0, .int .i64 0, .int .i64 0, .int .i64 0, .string ⟨#[]⟩, .int .i64 0, .bool false, .slice none 0 0, .int .i64 0]) 9 96 Try.underlying35 hti hz0 hz1 hz2 rfl (by decide) _ _ _ rfl (HO4.out.alloc _) ⟨w4.heap.size, 0, none⟩ 1 1 [.int .i64 fc, .int .i64 fh, .int .i64 fn, .int .i64 fs_, .string ⟨#[]⟩, .int .i64 0, .bool false, .slice none 0 0, .int .i64 0] rfl rfl (cells9g rfl) (fun x hx => by simp at hx; rcases hx with rfl | rfl | rfl | rfl | rfl | rfl | rfl | rfl | rfl <;> rfl) (by unfold maxLen; omega) (by omega) (balloc HB4.out _).size ?_; intro v5 w5 ho5 hg5 _
                       have HO5 := Hid.in_ ho5
                       have HB5 := Hid.in_ (bgrown (balloc HB4.out _) (HO4.out.alloc _) (Nat.le_refl _) hg5)
                       clear ho5 hg5)
                    | (refine wpList_append_own _ rfl _ _ 35 rfl wq.heap.size 77 i0 (.agg #[.int .i64 0, .int .i64 0, .int .i64 0, .int .i64 0, .string ⟨#[]⟩, .int .i64 0, .bool false, .slice none 0 0, .int .i64 0]) 9 96 Try.underlying35 hti hz0 hz1 hz2 rfl (by decide) _ _ _ rfl HO5.out ⟨gq, 0, none⟩ 0 0 [] rfl rfl (fun j u hu => by cases hu) (fun x hx => by cases hx) (by unfold maxLen; omega) (by omega) HB5.out.size ?_; intro v6 w6 ho6 hg6 _
                       have HO6 := Hid.in_ (show w6.ownsRow wq.heap.size 77 9 v6 (p + 1 + (K - p)) (((KS.take p).map keyO).flatMap VotO.cells ++ [.int .i64 fc, .int .i64 fh, .int .i64 fn, .int .i64 fs_, .string ⟨#[]⟩, .int .i64 0, .bool false, .slice none 0 0, .int .i64 0] ++ ((KS.drop p).map keyO).flatMap VotO.cells) by rw [show K - p = 0 by omega, List.drop_of_length_le (by rw [← HKL.out]; omega)]; simpa using ho6)
                       have HB6 := Hid.in_ (bgrown HB5.out HO5.out (Nat.le_refl _) hg6)
                       clear ho6 hg6))
                  have ho := HO6.out
                  rw [← putAt_cells' KS ⟨fc, fh, fn, fs_⟩ p, hKp] at ho
                  have HOF := Hid.in_ (own_base ho (show w.heap.size ≤ wq.heap.size from HBQ.out.size))
                  obtain ⟨A6, c6, rfl, _, _, hA6⟩ := own_shape ho
                  obtain ⟨g6, rfl, _⟩ := hA6 (by omega)
                  have HLF := Hid.in_ (show K + 1 = (putAt KS ⟨fc, fh, fn, fs_⟩ p).length by rw [putAt_len X9.out, ← HKL.out, hKp])
                  have HBF := Hid.in_ (HBQ.out.trans (HB6.out.mono HBQ.out.size))
                  clear ho hA6 HO4 HO5 HO6 HB4 HB5 HB6 X1 X2 X3 X8
                  have hq := HQ.out
                  go_roundg (gM - 1)
                  case measure => omega
                  case rel => exact ⟨k + 1, K + 1, g6, c6, by omega, by go_num, by go_num, by rw [HN.out, HS.out]; exact HLF.out, by rw [HN.out, HS.out]; exact HOF.out, HBF.out⟩
          · have HN := Hid.in_ (show keysOf (preF ls i (k + 1)) = keysOf (preF ls i k) by
              rw [HPN.out, keysOf_no (by simp only [beq_iff_eq] at hst; exact hst)])
            go_wp2
            have hq := HQ.out
            go_roundg (gk - 1)
            case measure => omega
            case rel => exact ⟨k + 1, K, gq, cq, by omega, by go_num, rfl, by rw [HN.out]; exact HKL.out, by rw [HN.out]; exact HI.out.alloc _, balloc HB.out _⟩
        · have hq := HQ.out
          obtain rfl : k = N := by omega
          have HT := Hid.in_ (show preF ls i k = preF ls (i + 1) 0 by rw [← HFN.out]; exact preF_turn HLI.out)
          rw [HT.out] at HI HKL
          go_wp2
          have hk := HK.out
          go_roundg (gO - 1)
          case measure => omega
          case rel => exact ⟨i + 1, K, gq, cq, by omega, by go_num, rfl, HKL, HI, HB⟩
    · have hk := HK.out
      obtain rfl : i = n := by omega
      have HP := Hid.in_ (show preF ls i 0 = ls.flatten by rw [← HNN.out]; exact preF_all ls)
      rw [HP.out] at HI HKL
      rw [HKL.out] at HI
      have HKE := Hid.in_ HKL.out
      go_wp2
      go_ret
      exact ⟨gq, cq, show Ending.returned (.slice (some ⟨gq, 0, none⟩) K cq) = _ by rw [HKE.out], HI.out, HB.out⟩
end Go.Proofs.Ytlelgpknkgjaeaa
