/- 'l10All', 'l10Fill' of the reference. -/
import Derived.Test.YtlelgpknkgjaeaaMgD
import Derived.Test.YtlelgpknkgjaeaaFss
import Derived.Test.YtlelgpknkgjaeaaVoteB
namespace Go.Proofs.Ytlelgpknkgjaeaa
open Go.ChangeShapes Go.WideShapes Go.ChangeAt Go.RowKit
set_option linter.unusedSimpArgs false
set_option linter.unusedVariables false
set_option maxRecDepth 4000

theorem cells8g {w : World} {g : Nat} {a0 a1 a2 a3 a4 a5 a6 a7 : Value} {t : TypeId} (hg : g = w.heap.size) : ∀ j u, ([a0, a1, a2, a3, a4, a5, a6, a7] : List Value)[j]? = some u → (w.alloc (.cells #[a0, a1, a2, a3, a4, a5, a6, a7] t)).cell? ((⟨g, 0, none⟩ : Addr).add j) = some u := fun j u hu => by
  subst hg
  have h := World.ownsRow_lit (e := t) w #[a0, a1, a2, a3, a4, a5, a6, a7] 1 (base := w.heap.size) (size := 8) (Nat.le_refl _) (by decide) rfl
  exact h.cells (g := w.heap.size) rfl j u hu
theorem preF_small {ls : List (List FndR)} {i k : Nat} (h5 : ls.length ≤ 5) (h64 : ∀ fs ∈ ls, fs.length ≤ 64) (hi : i < ls.length) (hk : k ≤ 64) : (preF ls i k).length ≤ 320 := by
  have h1 := preF_le (k := k) h64 hi hk
  have h2 : 64 * (i + 1) ≤ 64 * 5 := Nat.mul_le_mul_left 64 (by omega)
  omega
set_option maxHeartbeats 4000000 in
theorem spec_l10All {v : Value} {b n bv ov : Nat} {os : List FsO} {ls : List (List FndR)} {a : AdrR} (st : Int) (w : World) (h : FsRow w b v os) (hl : os.map FsO.r = ls) (hn : ls.length = n) (h64 : ∀ fs ∈ ls, fs.length ≤ 64) (hn5 : n ≤ 5) (hv : BoxAt w bv ov a.cells) :
    Calls Try.prog 97 #[v, .pointer (some ⟨bv, ov, none⟩), .int .i64 st] w fun e w' => ∃ v', e = .returned v' ∧ w'.ownsRow w.heap.size 128 8 v' (pickF ls.flatten a st).length ((pickF ls.flatten a st).flatMap FndR.cells) ∧ Below w.heap.size w w' := by
  obtain ⟨i0, hti, hz0, hz1, hz2⟩ := info_parts Try.info_Found
  have hno : os.length = n := by rw [← hn, ← hl, List.length_map]
  have HE := Hid.in_ h.each
  obtain ⟨A, c, rfl, _, hcn, hA⟩ := own_shape h.row
  rw [hno] at hcn hA ⊢
  have H1 := Hid.in_ hA
  have HNO := Hid.in_ hno
  have HLS := Hid.in_ hl
  have HNN := Hid.in_ hn
  have H64 := Hid.in_ h64
  have HVB := Hid.in_ hv
  clear h hl hn h64 hv hno hA
  go_enter Try.func97, Try.ntmps97
  go_wp2_with fail
  go_loopg [7, 8] n (fun m v7 v8 wr => ∃ i : Nat, i + m = n ∧ v8 = .int .i64 i ∧ Hid (wr.ownsRow w.heap.size 128 8 v7 (pickF (preF ls i 0) a st).length ((pickF (preF ls i 0) a st).flatMap FndR.cells)) ∧ Hid (Below w.heap.size w wr))
  case atStart => exact ⟨0, by omega, rfl, by rw [preF_zero]; exact World.ownsRow_lit w #[] 0 (Nat.le_refl _) (by decide) (by decide), balloc (Below.refl _ _) _⟩
  case round =>
    obtain ⟨i, him, rfl, HI, HB⟩ := hrel
    have HK := Hid.in_ him
    clear him
    by_cases hlt : i < n
    · obtain ⟨g, rfl, _, hg, hx, _⟩ := H1.out (by omega)
      obtain ⟨⟨fs, fv⟩, ho⟩ := get_lt os i (by rw [HNO.out]; exact hlt)
      have hbx := Box.elem FsO.len hx ho
      rw [Nat.mul_one] at hbx
      have HC0 : Hid (w.cell? ⟨g, i, none⟩ = some fv) := by have := hbx 0 _ rfl; exact this
      have hfr : w.ownsRow b 128 8 fv fs.length (fs.flatMap FndR.cells) := HE.out _ (List.mem_of_getElem? ho)
      have hli : ls[i]? = some fs := fso_get HLS.out ho
      have hfl : fs.length ≤ 64 := H64.out fs (List.mem_of_getElem? hli)
      have HLI := Hid.in_ hli
      obtain ⟨N, hN⟩ : ∃ N, fs.length = N := ⟨_, rfl⟩
      rw [hN] at hfr hfl
      obtain ⟨A2, c2, rfl, _, hc2, hA2⟩ := own_shape hfr
      have H2 := Hid.in_ hA2
      have HFN := Hid.in_ hN
      have hgw : g < wr.heap.size := Nat.lt_of_lt_of_le hg HB.out.size
      clear hbx hx ho hfr hli hA2 hN
      go_wp2_with fail
      obtain ⟨gO, rfl⟩ : ∃ g, g = gk := ⟨_, rfl⟩
      go_loopg [7, 9] N (fun m v7 v9 wr => ∃ k : Nat, k + m = N ∧ v9 = .int .i64 k ∧ Hid (wr.ownsRow w.heap.size 128 8 v7 (pickF (preF ls i k) a st).length ((pickF (preF ls i k) a st).flatMap FndR.cells)) ∧ Hid (Below w.heap.size w wr))
      case atStart => exact ⟨0, by omega, rfl, HI, HB⟩
      case round =>
        clear HI HB
        obtain ⟨k, hkm, rfl, HI, HB⟩ := hrel
        have HQ := Hid.in_ hkm
        clear hkm
        have c0 : wr.cell? ⟨g, i, none⟩ = some (.slice A2 N c2) := cstep HB.out HC0.out
        by_cases hlk : k < N
        · obtain ⟨g2, rfl, _, hg2, hx2, _⟩ := H2.out (by omega)
          obtain ⟨f, hf⟩ := get_lt fs k (by rw [HFN.out]; exact hlk)
          have hfb := (Box.elem FndR.len hx2 hf).step HB.out
          have HFB := Hid.in_ hfb
          have HPN := Hid.in_ (preF_next HLI.out hf)
          have HPL := Hid.in_ (show (pickF (preF ls i k) a st).length ≤ 320 from Nat.le_trans (pick_len _ _ _) (preF_small (by rw [HNN.out]; exact hn5) H64.out (by rw [HNN.out]; exact hlt) (by omega)))
          have HKEY := Hid.in_ (spec_l10Key wr hfb (HVB.out.step HB.out))
          have hg2w : g2 < wr.heap.size := Nat.lt_of_lt_of_le hg2 HB.out.size
          clear hx2 hf hfb
          cases hk : keyF f a
          · rw [hk] at HKEY
            have HN := Hid.in_ (show pickF (preF ls i (k + 1)) a st = pickF (preF ls i k) a st by rw [HPN.out, pick_no (by rw [hk]; rfl)])
            clear hk
            go_wp2_with fail
            refine HKEY.out.mono ?_
            rintro e w2 ⟨rfl, q, rfl⟩
            go_wp2
            have hq := HQ.out
            go_roundg (gk - 1)
            case measure => omega
            case rel => exact ⟨k + 1, by omega, by go_num, by rw [HN.out]; exact own_drewN HI.out _, below_drewN HB.out _⟩
          · rw [hk] at HKEY
            obtain ⟨fc, fh, fn, fs_, fd, ft, fl, fp⟩ := f
            cases hst : (ft == st)
            · have HN := Hid.in_ (show pickF (preF ls i (k + 1)) a st = pickF (preF ls i k) a st by rw [HPN.out, pick_no (by rw [hk]; simp only [beq_eq_false_iff_ne, ne_eq] at hst; simp [hst])])
              clear hk
              go_wp2_with fail
              refine HKEY.out.mono ?_
              rintro e w2 ⟨rfl, q, rfl⟩
              have hB2 := Below.refl wr.heap.size wr
              obtain ⟨d0, d1, d2, d3, d4, d5, d6, d7⟩ := boxAt8 HFB.out
              go_wp2
              have hq := HQ.out
              go_roundg (gk - 1)
              case measure => omega
              case rel => exact ⟨k + 1, by omega, by go_num, by rw [HN.out]; exact own_drewN HI.out _, below_drewN HB.out _⟩
            · have HN := Hid.in_ (show pickF (preF ls i (k + 1)) a st = pickF (preF ls i k) a st ++ [⟨fc, fh, fn, fs_, fd, ft, fl, fp⟩] by rw [HPN.out, pick_yes (by rw [hk]; simp only [beq_iff_eq] at hst; simp [hst])])
              clear hk
              go_wp2_with fail
              refine HKEY.out.mono ?_
              rintro e w2 ⟨rfl, q, rfl⟩
              obtain ⟨wq, hwq⟩ : ∃ wq, wq = wr.drewN q := ⟨_, rfl⟩
              rw [← hwq]
              have HB2 := Hid.in_ (show Below w.heap.size w wq by rw [hwq]; exact below_drewN HB.out _)
              have hi2 := own_drewN HI.out q
              rw [← hwq] at hi2
              have HI2 := Hid.in_ hi2
              clear hi2
              have hB3 : Below wr.heap.size wr wq := by rw [hwq]; exact below_drewN (Below.refl _ _) _
              obtain ⟨d0, d1, d2, d3, d4, d5, d6, d7⟩ := boxAt8 (HFB.out.step hB3)
              have c0 := cstep hB3 c0
              clear hwq HB HI hB3
              go_wp2_with (at_builtin; refine wpList_append_own _ rfl _ _ 101 rfl w.heap.size 128 i0 (.agg #[.int .i64 0, .int .i64 0, .int .i64 0, .int .i64 0, .string ByteArray.empty, .int .i64 0, .bool false, .int .i64 0]) 8 72 Try.underlying101 hti hz0 hz1 hz2 rfl (by decide) _ _ _ rfl (HI2.out.alloc _) ⟨wq.heap.size, 0, none⟩ 1 1 [.int .i64 fc, .int .i64 fh, .int .i64 fn, .int .i64 fs_, .string fd, .int .i64 ft, .bool fl, .int .i64 fp] rfl rfl (cells8g rfl) (fun x hx => by simp at hx; rcases hx with rfl | rfl | rfl | rfl | rfl | rfl | rfl | rfl <;> rfl) (by have := HPL.out; unfold maxLen; omega) (by have := HPL.out; omega) (balloc HB2.out _).size ?_; intro v4 w4 ho4 hg4 _)
              have HB4 := Hid.in_ (bgrown (balloc HB2.out _) (HI2.out.alloc _) (Nat.le_refl _) hg4)
              have HO4 := Hid.in_ (show w4.ownsRow w.heap.size 128 8 v4 (pickF (preF ls i (k + 1)) a st).length ((pickF (preF ls i (k + 1)) a st).flatMap FndR.cells) by
                rw [HN.out, List.length_append, List.flatMap_append]
                exact ho4)
              clear ho4 hg4
              have hq := HQ.out
              go_roundg (gk - 1)
              case measure => omega
              case rel => exact ⟨k + 1, by omega, by go_num, HO4, HB4⟩
        · have hq := HQ.out
          obtain rfl : k = N := by omega
          have HT := Hid.in_ (show preF ls i k = preF ls (i + 1) 0 by rw [← HFN.out]; exact preF_turn HLI.out)
          rw [HT.out] at HI
          go_wp2
          have hk := HK.out
          go_roundg (gO - 1)
          case measure => omega
          case rel => exact ⟨i + 1, by omega, by go_num, HI, HB⟩
    · have hk := HK.out
      obtain rfl : i = n := by omega
      have HP := Hid.in_ (show preF ls i 0 = ls.flatten by rw [← HNN.out]; exact preF_all ls)
      rw [HP.out] at HI
      go_wp2
      go_ret
      exact ⟨_, rfl, HI.out, HB.out⟩
/-- one cell of a record that lies in a row. -/
theorem flat_put {α : Type} {f : α → List Value} {size : Nat} (hf : ∀ x, (f x).length = size) : ∀ (l : List α) (k j : Nat) (o o' : α) (x : Value), l[k]? = some o → j < size → f o' = (f o).set j x → (l.flatMap f).set (k * size + j) x = (l.set k o').flatMap f
  | [], k, j, o, o', x, h, _, _ => by simp at h
  | y :: l, 0, j, o, o', x, h, hj, he => by
    have hy : y = o := by simpa using h
    subst hy
    rw [Nat.zero_mul, Nat.zero_add, List.set_cons_zero, List.flatMap_cons, List.flatMap_cons, List.set_append_left _ _ (by rw [hf]; exact hj), he]
  | y :: l, k + 1, j, o, o', x, h, hj, he => by
    have h' : l[k]? = some o := by simpa using h
    rw [List.set_cons_succ, List.flatMap_cons, List.flatMap_cons, List.set_append_right _ _ (by rw [hf, Nat.add_mul]; omega), hf, show (k + 1) * size + j - size = k * size + j by rw [Nat.add_mul]; omega, flat_put hf l k j o o' x h' hj he]
theorem own_put {α : Type} {f : α → List Value} {size : Nat} (hf : ∀ x, (f x).length = size) {w : World} {base g n cap : Nat} {e : TypeId} {l : List α} (h : w.ownsRow base e size (.slice (some ⟨g, 0, none⟩) n cap) n (l.flatMap f)) {k j : Nat} {o : α} (o' : α) (x : Value) (hk : l[k]? = some o) (hj : j < size) (he : f o' = (f o).set j x) :
    (w.setCell ⟨g, k * size + j, none⟩ x).ownsRow base e size (.slice (some ⟨g, 0, none⟩) n cap) n ((l.set k o').flatMap f) ∧ w.grownBy (w.setCell ⟨g, k * size + j, none⟩ x) (some g) := by
  have := own_setCells [x] (k * size + j) h
  rw [show setL (l.flatMap f) (k * size + j) [x] = (l.flatMap f).set (k * size + j) x from rfl, flat_put hf l k j o o' x hk hj he] at this
  exact this
def VotO.fill (o : VotO) (D : ByteArray) (x : Bool) (W : List Int) (wv : Value) : VotO := ⟨⟨o.r.c, o.r.h, o.r.n, o.r.s, D, o.r.t, x, W, o.r.vo⟩, wv⟩
theorem fill_put {w : World} {bo g n cap k : Nat} {l : List VotO} {o : VotO} (h : w.ownsRow bo 77 9 (.slice (some ⟨g, 0, none⟩) n cap) n (l.flatMap VotO.cells)) (hk : l[k]? = some o) (D : ByteArray) (x : Bool) (W : List Int) (wv : Value) :
    (((w.setCell ⟨g, k * 9 + 4, none⟩ (.string D)).setCell ⟨g, k * 9 + 7, none⟩ wv).setCell ⟨g, k * 9 + 6, none⟩ (.bool x)).ownsRow bo 77 9 (.slice (some ⟨g, 0, none⟩) n cap) n ((l.set k (o.fill D x W wv)).flatMap VotO.cells) ∧
    w.grownBy (((w.setCell ⟨g, k * 9 + 4, none⟩ (.string D)).setCell ⟨g, k * 9 + 7, none⟩ wv).setCell ⟨g, k * 9 + 6, none⟩ (.bool x)) (some g) := by
  have hlt : k < l.length := (List.getElem?_eq_some_iff.1 hk).1
  have h1 := own_put VotO.len h (o' := ⟨⟨o.r.c, o.r.h, o.r.n, o.r.s, D, o.r.t, o.r.x, o.r.l, o.r.vo⟩, o.v⟩) (.string D) hk (j := 4) (by decide) rfl
  have h2 := own_put VotO.len h1.1 (o' := ⟨⟨o.r.c, o.r.h, o.r.n, o.r.s, D, o.r.t, o.r.x, W, o.r.vo⟩, wv⟩) wv (List.getElem?_set_self hlt) (j := 7) (by decide) rfl
  have h3 := own_put VotO.len h2.1 (o' := o.fill D x W wv) (.bool x) (List.getElem?_set_self (by rw [List.length_set]; exact hlt)) (j := 6) (by decide) rfl
  rw [List.set_set, List.set_set] at h3
  exact ⟨h3.1, (h1.2.trans h2.2).trans h3.2⟩
theorem grown_of_below {w w' : World} (r : Option Nat) (h : Below w.heap.size w w') : w.grownBy w' r := ⟨h.os, h.tape, h.output, h.size, fun k hk _ => h.block k hk⟩
theorem filter_next {fs : List FndR} {i : Nat} {f : FndR} (h : fs[i]? = some f) : ((fs.take (i + 1)).filter FndR.l).length = ((fs.take i).filter FndR.l).length + (if f.l = true then 1 else 0) := by
  rw [List.take_add_one, h, List.filter_append, List.length_append]
  show _ + (List.filter FndR.l [f]).length = _
  cases e : f.l
  · rw [List.filter_cons_of_neg (by rw [e]; decide)]; rfl
  · rw [List.filter_cons_of_pos (by exact e)]; rfl
set_option maxHeartbeats 4000000 in
theorem spec_l10Fill {lv : Value} {bl m bo g n cap k N : Nat} {fs : List FndR} {l : List VotO} {o : VotO} (w : World) (hf : w.ownsRow bl 128 8 lv m (fs.flatMap FndR.cells)) (hr : w.ownsRow bo 77 9 (.slice (some ⟨g, 0, none⟩) n cap) n (l.flatMap VotO.cells))
    (hk : l[k]? = some o) (hm : 0 < m) (h320 : m ≤ 320) (hN : ∀ s ∈ fs.map FndR.d, s.size = N) (hN2 : N ≤ 1024) :
    Calls Try.prog 98 #[.pointer (some ⟨g, k * 9, none⟩), lv] w fun e w' => e = .returned (.tuple #[]) ∧ ∃ wv, w'.ownsRow w.heap.size 2 1 wv (placesTo (diffAt (fs.map FndR.d)) N).length (I64 (placesTo (diffAt (fs.map FndR.d)) N)) ∧
      w'.ownsRow bo 77 9 (.slice (some ⟨g, 0, none⟩) n cap) n ((l.set k (o.fill ⟨(voteTo (fs.map FndR.d) N).toArray⟩ (decide (m < 2 * (fs.filter FndR.l).length)) (placesTo (diffAt (fs.map FndR.d)) N) wv)).flatMap VotO.cells) ∧ w.grownBy w' (some g) := by
  obtain ⟨i0, hti, hz0, hz1, hz2⟩ := info_parts Try.info_Str
  have hlx : fs.length = m := by have := hf.1; rw [flat_len FndR.len] at this; omega
  obtain ⟨A, c, rfl, _, hcm, hA⟩ := own_shape hf
  have H1 := Hid.in_ hA
  have HL := Hid.in_ hlx
  have HR := Hid.in_ hr
  have HKO := Hid.in_ hk
  obtain ⟨DS, hDS⟩ : ∃ DS, fs.map FndR.d = DS := ⟨_, rfl⟩
  obtain ⟨del, hdel⟩ : ∃ del, (fs.filter FndR.l).length = del := ⟨_, rfl⟩
  rw [hDS] at hN ⊢
  obtain ⟨W, hW⟩ : ∃ W, placesTo (diffAt DS) N = W := ⟨_, rfl⟩
  obtain ⟨D, hD⟩ : ∃ D : ByteArray, (⟨(voteTo DS N).toArray⟩ : ByteArray) = D := ⟨_, rfl⟩
  have hxe : decide (m < 2 * del) = decide ((m : Int) < 2 * (del : Int)) := decide_eq_decide.2 (by omega)
  rw [hW, hD, hdel, hxe]
  have HWE := Hid.in_ hW
  have HDE := Hid.in_ hD
  have HDL := Hid.in_ hdel
  have HDS := Hid.in_ hDS
  have HZ := Hid.in_ hN
  clear hf hr hA hk hlx hN hDS hdel hW hD hxe
  go_enter Try.func98, Try.ntmps98
  go_wp2_with fail
  go_loopg [4, 5, 6] m (fun r v4 v5 v6 wr => ∃ i d : Nat, i + r = m ∧ v6 = .int .i64 i ∧ v5 = .int .i64 d ∧ Hid (d = ((fs.take i).filter FndR.l).length) ∧ Hid (wr.ownsRow w.heap.size 9 1 v4 i (Strs ((fs.take i).map FndR.d))) ∧ Hid (Below w.heap.size w wr))
  case atStart => exact ⟨0, 0, by omega, rfl, rfl, rfl, World.ownsRow_lit w #[] 0 (Nat.le_refl _) (by decide) (by decide), balloc (Below.refl _ _) _⟩
  case round =>
    obtain ⟨i, d, him, rfl, rfl, HD, HI, HB⟩ := hrel
    have HK := Hid.in_ him
    clear him
    by_cases hlt : i < m
    · obtain ⟨g1, rfl, _, hg, hx, _⟩ := H1.out (by omega)
      obtain ⟨f, hfi⟩ := get_lt fs i (by rw [HL.out]; exact hlt)
      obtain ⟨x0, x1, x2, x3, x4, x5, x6, x7⟩ := boxAt8 ((Box.elem FndR.len hx hfi).step HB.out)
      have HFW := Hid.in_ (Box.elem FndR.len hx hfi)
      have HFN := Hid.in_ (filter_next hfi)
      have HTN := Hid.in_ (show (fs.take (i + 1)).map FndR.d = (fs.take i).map FndR.d ++ [f.d] by rw [List.take_add_one, hfi, List.map_append]; rfl)
      have hdb : d ≤ i := by rw [HD.out]; exact Nat.le_trans (List.length_filter_le _ _) (by rw [List.length_take]; omega)
      have hgw : g1 < wr.heap.size := Nat.lt_of_lt_of_le hg HB.out.size
      clear hx hfi
      obtain ⟨fc, fh, fn, fs_, fd, ft, fl, fp⟩ := f
      simp only at x0 x1 x2 x3 x4 x5 x6 x7 HFN HTN
      cases efl : fl
      · rw [efl] at HFN
        go_wp2_with (at_builtin; refine wpList_append_own _ rfl _ _ 22 rfl w.heap.size 9 i0 (.string ⟨#[]⟩) 1 16 Try.underlying22 hti hz0 hz1 hz2 rfl (by decide) _ _ _ rfl (HI.out.alloc _) ⟨wr.heap.size, 0, none⟩ 1 1 [.string fd] rfl rfl (cell_one_new _ _ _) (fun x hx => by simp at hx; subst hx; rfl) (by unfold maxLen; omega) (by omega) (balloc HB.out _).size ?_; intro v4 w4 ho4 hg4 _; have HB4 := Hid.in_ (bgrown (balloc HB.out _) (HI.out.alloc _) (Nat.le_refl _) hg4); have HO4 := Hid.in_ (show w4.ownsRow w.heap.size 9 1 v4 (i + 1) (Strs ((fs.take (i + 1)).map FndR.d)) by rw [HTN.out]; unfold Strs at ho4 ⊢; rw [List.map_append]; exact ho4); clear ho4; obtain ⟨x0, x1, x2, x3, x4, x5, x6, x7⟩ := boxAt8 (HFW.out.step HB4.out))
        have hk := HK.out
        go_roundg (gk - 1)
        case measure => omega
        case rel => exact ⟨i + 1, d, by omega, by go_num, by go_num, by rw [HFN.out, ← HD.out]; rfl, HO4, HB4⟩
      · rw [efl] at HFN
        go_wp2_with (at_builtin; refine wpList_append_own _ rfl _ _ 22 rfl w.heap.size 9 i0 (.string ⟨#[]⟩) 1 16 Try.underlying22 hti hz0 hz1 hz2 rfl (by decide) _ _ _ rfl (HI.out.alloc _) ⟨wr.heap.size, 0, none⟩ 1 1 [.string fd] rfl rfl (cell_one_new _ _ _) (fun x hx => by simp at hx; subst hx; rfl) (by unfold maxLen; omega) (by omega) (balloc HB.out _).size ?_; intro v4 w4 ho4 hg4 _; have HB4 := Hid.in_ (bgrown (balloc HB.out _) (HI.out.alloc _) (Nat.le_refl _) hg4); have HO4 := Hid.in_ (show w4.ownsRow w.heap.size 9 1 v4 (i + 1) (Strs ((fs.take (i + 1)).map FndR.d)) by rw [HTN.out]; unfold Strs at ho4 ⊢; rw [List.map_append]; exact ho4); clear ho4; obtain ⟨x0, x1, x2, x3, x4, x5, x6, x7⟩ := boxAt8 (HFW.out.step HB4.out))
        have hk := HK.out
        go_roundg (gk - 1)
        case measure => omega
        case rel => exact ⟨i + 1, d + 1, by omega, by go_num, by go_num, by rw [HFN.out, ← HD.out]; rfl, HO4, HB4⟩
    · have hk := HK.out
      obtain rfl : i = m := by omega
      have HTK := Hid.in_ (show fs.take i = fs by rw [List.take_of_length_le (by rw [HL.out]; exact Nat.le_refl _)])
      rw [HTK.out, HDL.out] at HD
      rw [HTK.out, HDS.out] at HI
      have hdb : d ≤ i := by rw [HD.out, ← HDL.out, ← HL.out]; exact List.length_filter_le _ _
      have hv := spec_l10Vote wr HI.out hm HZ.out hN2 (by omega)
      rw [HWE.out, HDE.out] at hv
      have HV := Hid.in_ hv
      have hgw : g < w.heap.size := (HR.out.lt g rfl).2
      obtain rfl : d = del := HD.out
      clear hv HD HTK
      go_wp2_with fail
      refine HV.out.mono ?_
      rintro e w2 ⟨wv, rfl, ho2, hb2⟩
      have HB2 := Hid.in_ (HB.out.trans (hb2.mono HB.out.size))
      have HWV := Hid.in_ (own_base ho2 HB.out.size)
      have HR2 := Hid.in_ (own_below HR.out HB2.out (Nat.le_refl _))
      clear hb2 ho2
      obtain ⟨A9, c9, rfl, _, _, _⟩ := own_shape HWV.out
      obtain ⟨HX, HF, _, _⟩ := own_box HR2.out
      obtain ⟨c0, c1, c2, c3, c4, c5, c6, c7, c8⟩ := boxAt9 (Box.elem VotO.len HX HKO.out)
      have f4 := HF (k * 9 + 4)
      have f7 := HF (k * 9 + 7)
      have f6 := HF (k * 9 + 6)
      have hP := fill_put HR2.out HKO.out D (decide ((i : Int) < 2 * (d : Int))) W (.slice A9 W.length c9)
      have HP := Hid.in_ (And.intro hP.1 ((grown_of_below _ HB2.out).trans hP.2))
      have HWF := Hid.in_ (kept_apart (by decide) HWV.out HR2.out hP.2)
      clear HX HF hP
      go_wp2
      refine bodyPost_end (v := .tuple #[]) ?_ rfl ⟨rfl, _, HWF.out, HP.out.1, HP.out.2⟩
      simp [results, Try.results98, Sem.run_pure]
end Go.Proofs.Ytlelgpknkgjaeaa
