/- 'mergeAddress' of the program: the walk. -/
import Derived.Test.YtlelgpknkgjaeaaMgM
import Derived.Test.YtlelgpknkgjaeaaMgT
namespace Go.Proofs.Ytlelgpknkgjaeaa
open Go.ChangeShapes Go.WideShapes Go.ChangeAt Go.RowKit
set_option linter.unusedSimpArgs false
set_option linter.unusedVariables false
set_option maxRecDepth 8000

def zero9 : List Value := [.int .i64 0, .int .i64 0, .int .i64 0, .int .i64 0, .string ⟨#[]⟩, .int .i64 0, .bool false, .slice none 0 0, .int .i64 0]
def start9 (a : AdrR) : List Value := [.int .i64 a.c, .int .i64 a.h, .int .i64 a.n, .int .i64 a.s, .string ⟨#[]⟩, .int .i64 4, .bool false, .slice none 0 0, .int .i64 0]
theorem size_al (w : World) (o : Obj) : (w.alloc o).heap.size = w.heap.size + 1 := by unfold World.alloc; rw [Array.size_push]
theorem MA.init (w : World) (a : AdrR) : MA w (((((w.alloc (.cells a.cells.toArray 136)).alloc (.cells zero9.toArray 77)).alloc (.cells (start9 a).toArray 77)).alloc (.map #[] 0)).alloc (.map #[] 0)) w.heap.size a [] 0 (fun _ => .slice none 0 0) := by
  obtain ⟨w1, h1⟩ : ∃ w1, w.alloc (.cells a.cells.toArray 136) = w1 := ⟨_, rfl⟩
  obtain ⟨w2, h2⟩ : ∃ w2, w1.alloc (.cells zero9.toArray 77) = w2 := ⟨_, rfl⟩
  obtain ⟨w3, h3⟩ : ∃ w3, w2.alloc (.cells (start9 a).toArray 77) = w3 := ⟨_, rfl⟩
  obtain ⟨w4, h4⟩ : ∃ w4, w3.alloc (.map #[] 0) = w4 := ⟨_, rfl⟩
  obtain ⟨w5, h5⟩ : ∃ w5, w4.alloc (.map #[] 0) = w5 := ⟨_, rfl⟩
  rw [h1, h2, h3, h4, h5]
  have s1 : w1.heap.size = w.heap.size + 1 := by rw [← h1]; exact size_al _ _
  have s2 : w2.heap.size = w.heap.size + 2 := by rw [← h2, size_al, s1]
  have s3 : w3.heap.size = w.heap.size + 3 := by rw [← h3, size_al, s2]
  have s4 : w4.heap.size = w.heap.size + 4 := by rw [← h4, size_al, s3]
  have s5 : w5.heap.size = w.heap.size + 5 := by rw [← h5, size_al, s4]
  have b12 : Below w1.heap.size w1 w2 := by rw [← h2]; exact balloc (Below.refl _ _) _
  have b23 : Below w2.heap.size w2 w3 := by rw [← h3]; exact balloc (Below.refl _ _) _
  have b34 : Below w3.heap.size w3 w4 := by rw [← h4]; exact balloc (Below.refl _ _) _
  have b45 : Below w4.heap.size w4 w5 := by rw [← h5]; exact balloc (Below.refl _ _) _
  have b01 : Below w.heap.size w w1 := by rw [← h1]; exact balloc (Below.refl _ _) _
  have c1 : Wr w1 w.heap.size a.cells := by rw [← h1]; exact Wr.new w a.cells 136
  have c2 : Wr w2 (w.heap.size + 1) zero9 := by rw [← h2, ← s1]; exact Wr.new w1 zero9 77
  have c3 : Wr w3 (w.heap.size + 2) (start9 a) := by rw [← h3, ← s2]; exact Wr.new w2 (start9 a) 77
  have c4 : MapV w4 (w.heap.size + 3) 0 (fun _ => .slice none 0 0) (.slice none 0 0) := by rw [← h4, ← s3]; exact MapV.made w3 _
  have c5 : MapV w5 (w.heap.size + 4) 0 (fun _ => .int .i64 0) (.int .i64 0) := by rw [← h5, ← s4]; exact MapV.made w4 _
  exact ⟨(((c1.step b12).step b23).step b34).step b45, ((c2.step b23).step b34).step b45, (c3.step b34).step b45, c4.step b45, fun st => World.ownsRow_nil _ _ _ _, fun s t _ => .inl rfl, c5, by omega, rfl, bstep (bstep (bstep (bstep b01 b12) b23) b34) b45⟩
set_option maxHeartbeats 16000000 in
theorem impl_mergeAddress {v : Value} {b n : Nat} {os : List FsO} {ls : List (List FndR)} (a : AdrR) (w : World) (h : FsRow w b v os) (hl : os.map FsO.r = ls) (hn : ls.length = n) (h64 : ∀ fs ∈ ls, fs.length ≤ 64) (hn5 : n ≤ 5)
    (hg : ∀ f ∈ ls.flatten, goodF f) (ht : ∀ f ∈ ls.flatten, 1 ≤ f.t ∧ f.t ≤ 4) :
    Calls Try.prog 105 #[v, .agg #[.int .i64 a.c, .int .i64 a.h, .int .i64 a.n, .int .i64 a.s]] w fun e w' => ∃ wv, e = .returned (.agg ((mergeV ls a).cells wv).toArray) ∧ w'.ownsRow w.heap.size 2 1 wv (mergeV ls a).l.length (I64 (mergeV ls a).l) ∧ Below w.heap.size w w' := by
  obtain ⟨i0, hti, hz0, hz1, hz2⟩ := info_parts Try.info_Str
  have hmm := @run_makeMap Try.prog
  have hno : os.length = n := by rw [← hn, ← hl, List.length_map]
  have HE := Hid.in_ h.each
  obtain ⟨A, c, rfl, _, hcn, hA⟩ := own_shape h.row
  rw [hno] at hcn hA ⊢
  have H1 := Hid.in_ hA
  have HNO := Hid.in_ hno
  have HLS := Hid.in_ hl
  have HNN := Hid.in_ hn
  have H64 := Hid.in_ h64
  have HG := Hid.in_ hg
  have HT := Hid.in_ ht
  have HINIT := Hid.in_ (MA.init w a)
  obtain ⟨ac, ah, an, as_⟩ := a
  simp only
  clear h hl hn h64 hno hA hg ht
  go_enter Try.func105, Try.ntmps105
  go_wp2_with fail
  clear hmm
  obtain ⟨B4, hB4⟩ : ∃ x, x = w.heap.size + 1 + 1 + 1 + 1 := ⟨_, rfl⟩
  rw [← hB4]
  obtain ⟨B3, hB3⟩ : ∃ x, x = w.heap.size + 1 + 1 + 1 := ⟨_, rfl⟩
  rw [← hB3]
  obtain ⟨B2, hB2⟩ : ∃ x, x = w.heap.size + 1 + 1 := ⟨_, rfl⟩
  rw [← hB2]
  have HB4 := Hid.in_ (show B4 = w.heap.size + 4 from hB4)
  have HB3 := Hid.in_ (show B3 = w.heap.size + 3 from hB3)
  have HB2 := Hid.in_ (show B2 = w.heap.size + 2 from hB2)
  clear hB4 hB3 hB2
  go_loopg [29] n (fun m v29 wr => ∃ (i vo : Nat) (F : Int → Value), i + m = n ∧ v29 = .int .i64 i ∧ Hid (vo = votesTo ls ⟨ac, ah, an, as_⟩ i) ∧ Hid (MA w wr w.heap.size ⟨ac, ah, an, as_⟩ (preF ls i 0) vo F))
  case atStart => exact ⟨0, 0, fun _ => .slice none 0 0, by omega, rfl, rfl, by rw [preF_zero]; exact HINIT⟩
  case round =>
    clear HINIT
    obtain ⟨i, vo, F, him, rfl, HVO, HM⟩ := hrel
    have HK := Hid.in_ him
    clear him
    by_cases hlt : i < n
    · obtain ⟨g, rfl, _, hg, hx, _⟩ := H1.out (by omega)
      obtain ⟨⟨fs, fv⟩, ho⟩ := get_lt os i (by rw [HNO.out]; exact hlt)
      have hbx := Box.elem FsO.len hx ho
      rw [Nat.mul_one] at hbx
      have hc0 : w.cell? ⟨g, i, none⟩ = some fv := by have := hbx 0 _ rfl; exact this
      have hfr : w.ownsRow b 128 8 fv fs.length (fs.flatMap FndR.cells) := HE.out _ (List.mem_of_getElem? ho)
      have hli : ls[i]? = some fs := fso_get HLS.out ho
      have hfl : fs.length ≤ 64 := H64.out fs (List.mem_of_getElem? hli)
      have HLI := Hid.in_ hli
      have HMF := Hid.in_ (show ∀ f ∈ fs, 1 ≤ f.t ∧ f.t ≤ 4 from fun f hf => HT.out f (List.mem_flatten.2 ⟨fs, List.mem_of_getElem? hli, hf⟩))
      obtain ⟨N, hN⟩ : ∃ N, fs.length = N := ⟨_, rfl⟩
      rw [hN] at hfr hfl
      obtain ⟨A2, c2, rfl, _, hc2, hA2⟩ := own_shape hfr
      have H2 := Hid.in_ hA2
      have HFN := Hid.in_ hN
      have c0 : wr.cell? ⟨g, i, none⟩ = some (.slice A2 N c2) := cstep HM.out.low hc0
      clear hbx hx ho hfr hli hA2 hN hc0
      go_wp2_with fail
      clear c0
      obtain ⟨gO, rfl⟩ : ∃ g, g = gk := ⟨_, rfl⟩
      go_loopg [10, 35] N (fun m v10 v35 wr => ∃ (k : Nat) (has : Bool) (F : Int → Value), k + m = N ∧ v10 = .bool has ∧ v35 = .int .i64 k ∧ Hid (has = hasF (fs.take k) ⟨ac, ah, an, as_⟩) ∧ Hid (MA w wr w.heap.size ⟨ac, ah, an, as_⟩ (preF ls i k) vo F))
      case atStart => exact ⟨0, false, F, by omega, rfl, rfl, rfl, HM⟩
      case round =>
        clear HM
        obtain ⟨k, has, F, hkm, rfl, rfl, HHS, HM⟩ := hrel
        have HQ := Hid.in_ hkm
        clear hkm
        by_cases hlk : k < N
        · obtain ⟨g2, rfl, _, hg2, hx2, _⟩ := H2.out (by omega)
          obtain ⟨f, hf⟩ := get_lt fs k (by rw [HFN.out]; exact hlk)
          obtain ⟨x0, x1, x2, x3, x4, x5, x6, x7⟩ := boxAt8 ((Box.elem FndR.len hx2 hf).step HM.out.low)
          have HPN := Hid.in_ (preF_next HLI.out hf)
          have HFT := Hid.in_ (HMF.out f (List.mem_of_getElem? hf))
          have HHN := Hid.in_ (show hasF (fs.take (k + 1)) ⟨ac, ah, an, as_⟩ = (has || keyF f ⟨ac, ah, an, as_⟩) by rw [List.take_add_one, hf, HHS.out]; exact hasF_snoc _ _ _)
          have HPL := Hid.in_ (show (preF ls i k).length ≤ 320 from preF_small (by rw [HNN.out]; exact hn5) H64.out (by rw [HNN.out]; exact hlt) (by omega))
          obtain ⟨fc, fh, fn, fs_, fd, ft, fl, fp⟩ := f
          simp only at x0 x1 x2 x3 x4 x5 x6 x7 HFT
          have HBA := Hid.in_ (balloc (Below.refl wr.heap.size wr) (.cells #[.int .i64 fc, .int .i64 fh, .int .i64 fn, .int .i64 fs_, .string fd, .int .i64 ft, .bool fl, .int .i64 fp] 128))
          have HZA := Hid.in_ (Box.new wr [.int .i64 fc, .int .i64 fh, .int .i64 fn, .int .i64 fs_, .string fd, .int .i64 ft, .bool fl, .int .i64 fp] 128)
          clear hx2 hf
          go_wp2_with fail
          obtain ⟨wa, hwa⟩ : ∃ x, x = wr.alloc (.cells #[.int .i64 fc, .int .i64 fh, .int .i64 fn, .int .i64 fs_, .string fd, .int .i64 ft, .bool fl, .int .i64 fp] 128) := ⟨_, rfl⟩
          rw [← hwa]
          have hba := HBA.out
          have hza := HZA.out
          change Box (wr.alloc (.cells #[.int .i64 fc, .int .i64 fh, .int .i64 fn, .int .i64 fs_, .string fd, .int .i64 ft, .bool fl, .int .i64 fp] 128)) _ _ at hza
          rw [← hwa] at hba hza
          have HBA := Hid.in_ hba
          have HZA := Hid.in_ hza
          have HMA := Hid.in_ (HM.out.step hba)
          obtain ⟨⟨y0, y1, y2, y3⟩, _⟩ := wr4a HMA.out.bx
          have z0 : wa.cell? ⟨wr.heap.size, 0, none⟩ = some (.int .i64 fc) := hza 0 _ rfl
          have z1 : wa.cell? ⟨wr.heap.size, 1, none⟩ = some (.int .i64 fh) := hza 1 _ rfl
          have z2 : wa.cell? ⟨wr.heap.size, 2, none⟩ = some (.int .i64 fn) := hza 2 _ rfl
          have z3 : wa.cell? ⟨wr.heap.size, 3, none⟩ = some (.int .i64 fs_) := hza 3 _ rfl
          have z4 : wa.cell? ⟨wr.heap.size, 4, none⟩ = some (.string fd) := hza 4 _ rfl
          have z5 : wa.cell? ⟨wr.heap.size, 5, none⟩ = some (.int .i64 ft) := hza 5 _ rfl
          have z6 : wa.cell? ⟨wr.heap.size, 6, none⟩ = some (.bool fl) := hza 6 _ rfl
          have z7 : wa.cell? ⟨wr.heap.size, 7, none⟩ = some (.int .i64 fp) := hza 7 _ rfl
          have HAS := Hid.in_ (show wr.heap.size < wa.heap.size by rw [hwa]; rw [size_al]; exact Nat.lt_succ_self _)
          clear hwa hba hza x0 x1 x2 x3 x4 x5 x6 x7
          cases e2 : (ft == 2)
          case true =>
            have HKF := Hid.in_ (show keyF ⟨fc, fh, fn, fs_, fd, ft, fl, fp⟩ ⟨ac, ah, an, as_⟩ = false by
              have : ft = 2 := by simpa using e2
              unfold keyF; simp [this])
            go_wp2_with fail
            go_quiet (fail)
            go_wp2
            have hq := HQ.out
            go_roundg (gk - 1)
            case measure => omega
            case rel => exact ⟨k + 1, has, F, by omega, rfl, by go_num, Hid.in_ (by rw [HHN.out, HKF.out, Bool.or_false]), by rw [HPN.out]; exact (HMA.out.step (below_drewN (Below.refl _ _) _)).skip HKF.out⟩
          case false =>
            have hft : ft ≠ 2 := by simpa using e2
            cases eb : eqA (⟨fc, fh, fn, fs_⟩ : AdrR) ⟨ac, ah, an, as_⟩
            case false =>
              have HKF := Hid.in_ (show keyF ⟨fc, fh, fn, fs_, fd, ft, fl, fp⟩ ⟨ac, ah, an, as_⟩ = false by
                show (decide (ft ≠ 2) && eqA (⟨fc, fh, fn, fs_⟩ : AdrR) ⟨ac, ah, an, as_⟩) = false
                rw [eb, Bool.and_false])
              have heq : ∀ w, (binOp .neq 136 (.agg #[.int .i64 fc, .int .i64 fh, .int .i64 fn, .int .i64 fs_]) (.agg #[.int .i64 ac, .int .i64 ah, .int .i64 an, .int .i64 as_])).run Try.prog w = .ok (.bool true) w := fun w => by
                have := Try.neq_AdrR ⟨fc, fh, fn, fs_⟩ ⟨ac, ah, an, as_⟩ w
                rw [eqA_beq, eb] at this
                exact this
              have hgd := fun op x y w => Try.guard_AdrR ⟨fc, fh, fn, fs_⟩ ⟨ac, ah, an, as_⟩ op x y w
              simp only at hgd
              clear eb hft
              go_wp2_with fail
              go_region_with (go_at_call 101; refine (impl_addressOf _ _ _ _ _ _ _ _ _).mono ?_; rintro e we ⟨rfl, hbe⟩; have hbe' := ((Below.refl wa.heap.size wa).drew).trans hbe; obtain ⟨⟨y0, y1, y2, y3⟩, _⟩ := wr4a (HMA.out.bx.step hbe'))
              all_goals
                go_wp2
                have hq := HQ.out
                go_roundg (gk - 1)
                case measure => omega
                case rel => exact ⟨k + 1, has, F, by omega, rfl, by go_num, Hid.in_ (by rw [HHN.out, HKF.out, Bool.or_false]), by rw [HPN.out]; exact (HMA.out.step hbe').skip HKF.out⟩
            case true =>
              have HKF := Hid.in_ (show keyF ⟨fc, fh, fn, fs_, fd, ft, fl, fp⟩ ⟨ac, ah, an, as_⟩ = true by
                show (decide (ft ≠ 2) && eqA (⟨fc, fh, fn, fs_⟩ : AdrR) ⟨ac, ah, an, as_⟩) = true
                rw [eb, Bool.and_true, decide_eq_true hft])
              have heq : ∀ w, (binOp .neq 136 (.agg #[.int .i64 fc, .int .i64 fh, .int .i64 fn, .int .i64 fs_]) (.agg #[.int .i64 ac, .int .i64 ah, .int .i64 an, .int .i64 as_])).run Try.prog w = .ok (.bool false) w := fun w => by
                have := Try.neq_AdrR ⟨fc, fh, fn, fs_⟩ ⟨ac, ah, an, as_⟩ w
                rw [eqA_beq, eb] at this
                exact this
              have hgd := fun op x y w => Try.guard_AdrR ⟨fc, fh, fn, fs_⟩ ⟨ac, ah, an, as_⟩ op x y w
              simp only at hgd
              have hwf : (Lit.int .i64 ft).wf = true := WalkArith.wf_i64 (by have := HFT.out; omega)
              clear eb hft
              go_wp2_with fail
              go_region_with (go_at_call 101; refine (impl_addressOf _ _ _ _ _ _ _ _ _).mono ?_; rintro e we ⟨rfl, hbe⟩; have hbe' := ((Below.refl wa.heap.size wa).drew).trans hbe; obtain ⟨⟨y0, y1, y2, y3⟩, _⟩ := wr4a (HMA.out.bx.step hbe'))
              all_goals
                have HME := Hid.in_ (HMA.out.step hbe')
                have w4 := cstep hbe' z4
                have w5 := cstep hbe' z5
                have w6 := cstep hbe' z6
                clear heq hgd y0 y1 y2 y3
                go_wp2_with fail
                refine wp_region_noPanic ?_
                refine wp_region_held_drew (S := fun w9 => w9.cell? ⟨wr.heap.size, 5, none⟩ = some (.int .i64 ft) ∧ w9.cell? ⟨wr.heap.size, 4, none⟩ = some (.string fd)) (by kernel_rfl) ⟨w5, w4⟩ (fun hHeld => ?_)
                refine wpAnyH_take (i := 0) (v := .map (some B3)) rfl (by kernel_rfl) (by kernel_rfl) (by kernel_rfl) (fun _ _ _ h => h) (Or.inl ⟨by rfl, ?_⟩) hHeld ?_
                · intro w9 hS9; obtain ⟨h95, h94⟩ := hS9; go_simp
                simp only [Act.put, List.setIfInBounds_toArray, List.set_cons_zero, List.set_cons_succ]
                refine wpAnyH_take (i := 1) (v := .pointer (some ⟨wr.heap.size, 5, none⟩)) rfl (by kernel_rfl) (by kernel_rfl) (by kernel_rfl) (fun _ _ _ h => h) (Or.inl ⟨by rfl, ?_⟩) hHeld ?_
                · intro w9 hS9; obtain ⟨h95, h94⟩ := hS9; go_simp
                simp only [Act.put, List.setIfInBounds_toArray, List.set_cons_zero, List.set_cons_succ]
                refine wpAnyH_take (i := 2) (v := .int .i64 ft) rfl (by kernel_rfl) (by kernel_rfl) (by kernel_rfl) (fun _ _ _ h => h) (Or.inl ⟨by rfl, ?_⟩) hHeld ?_
                · intro w9 hS9; obtain ⟨h95, h94⟩ := hS9; go_simp
                simp only [Act.put, List.setIfInBounds_toArray, List.set_cons_zero, List.set_cons_succ]
                refine wpAnyH_take (i := 3) (v := .map (some B3)) rfl (by kernel_rfl) (by kernel_rfl) (by kernel_rfl) (fun _ _ _ h => h) (Or.inl ⟨by rfl, ?_⟩) hHeld ?_
                · intro w9 hS9; obtain ⟨h95, h94⟩ := hS9; go_simp
                simp only [Act.put, List.setIfInBounds_toArray, List.set_cons_zero, List.set_cons_succ]
                refine wpAnyH_take (i := 4) (v := .pointer (some ⟨wr.heap.size, 5, none⟩)) rfl (by kernel_rfl) (by kernel_rfl) (by kernel_rfl) (fun _ _ _ h => h) (Or.inl ⟨by rfl, ?_⟩) hHeld ?_
                · intro w9 hS9; obtain ⟨h95, h94⟩ := hS9; go_simp
                simp only [Act.put, List.setIfInBounds_toArray, List.set_cons_zero, List.set_cons_succ]
                refine wpAnyH_take (i := 5) (v := .int .i64 ft) rfl (by kernel_rfl) (by kernel_rfl) (by kernel_rfl) (fun _ _ _ h => h) (Or.inl ⟨by rfl, ?_⟩) hHeld ?_
                · intro w9 hS9; obtain ⟨h95, h94⟩ := hS9; go_simp
                simp only [Act.put, List.setIfInBounds_toArray, List.set_cons_zero, List.set_cons_succ]
                refine wpAnyH_take (i := 7) (v := .pointer (some ⟨wr.heap.size, 4, none⟩)) rfl (by kernel_rfl) (by kernel_rfl) (by kernel_rfl) (fun _ _ _ h => h) (Or.inl ⟨by rfl, ?_⟩) hHeld ?_
                · intro w9 hS9; obtain ⟨h95, h94⟩ := hS9; go_simp
                simp only [Act.put, List.setIfInBounds_toArray, List.set_cons_zero, List.set_cons_succ]
                refine wpAnyH_take (i := 8) (v := .string fd) rfl (by kernel_rfl) (by kernel_rfl) (by kernel_rfl) (fun _ _ _ h => h) (Or.inl ⟨by rfl, ?_⟩) hHeld ?_
                · intro w9 hS9; obtain ⟨h95, h94⟩ := hS9; go_simp
                simp only [Act.put, List.setIfInBounds_toArray, List.set_cons_zero, List.set_cons_succ]
                obtain ⟨wd, hwd⟩ : ∃ x, x = we.drew := ⟨_, rfl⟩
                rw [← hwd] at hHeld ⊢
                have hmd := HME.out.step (Below.refl we.heap.size we).drew
                rw [← hwd] at hmd
                have HMD := Hid.in_ hmd
                have hbd := balloc (Below.refl wd.heap.size wd) (.cells #[.string fd] 9)
                have HBD := Hid.in_ hbd
                have HWD := Hid.in_ (show wr.heap.size < wd.heap.size by rw [hwd]; show _ < we.heap.size; have h1 := hbe'.size; have h2 := HAS.out; omega)
                have HW6 := Hid.in_ (show wd.cell? ⟨wr.heap.size, 6, none⟩ = some (.bool fl) by rw [hwd]; exact w6)
                have HDB := Hid.in_ (show (dataOf (preF ls i k) ⟨ac, ah, an, as_⟩ ft).length ≤ 320 by rw [data_len]; exact Nat.le_trans (pick_len _ _ _) HPL.out)
                have HKF0 : Hid (keyF ⟨fc, fh, fn, fs_, fd, ft, false, fp⟩ ⟨ac, ah, an, as_⟩ = true) := HKF
                have hlk0 := (hmd.data).look (t := 152) (e := 22) Try.underlying152 (by kernel_rfl) hwf
                have hlk1 := (hmd.step hbd).data.look (t := 152) (e := 22) Try.underlying152 (by kernel_rfl) hwf
                rw [← HB3.out] at hlk0 hlk1
                obtain ⟨FV, hFV⟩ : ∃ x, F ft = x := ⟨_, rfl⟩
                rw [hFV] at hlk0 hlk1
                have HFV := Hid.in_ hFV
                clear hmd hbd hwd hFV
                refine wpAnyH_ready (rs := [6, 9]) (by kernel_rfl) (by simp) (AllReadyH.cons rfl (fun K hK => ?_) (AllReadyH.cons rfl (fun K hK => ?_) AllReadyH.nil))
                · go_simp
                  refine hK.out _ _ hHeld (fun hHeld => ?_)
                  clear hK K
                  try simp only [Act.put, List.setIfInBounds_toArray, List.set_cons_zero, List.set_cons_succ]
                  refine wpAnyH_ready (rs := [9]) (by kernel_rfl) (by simp) (AllReadyH.cons rfl (fun K hK => ?_) AllReadyH.nil)
                  go_simp
                  refine hK.out _ _ ⟨cstep HBD.out hHeld.1, cstep HBD.out hHeld.2⟩ (fun hHeld => ?_)
                  clear hK K
                  try simp only [Act.put, List.setIfInBounds_toArray, List.set_cons_zero, List.set_cons_succ]
                  refine wpAnyH_ready (rs := [10]) (by kernel_rfl) (by simp) (AllReadyH.cons rfl (fun K hK => ?_) AllReadyH.nil)
                  rw [if_pos (by rfl)]
                  refine wp_append_lies _ (.tmp 54) (.tmp 57) 22 rfl (w.heap.size + 5) 9 i0 (.string ⟨#[]⟩) 1 16 Try.underlying22 hti hz0 hz1 hz2 rfl (by decide) FV (dataOf (preF ls i k) ⟨ac, ah, an, as_⟩ ft).length (Strs (dataOf (preF ls i k) ⟨ac, ah, an, as_⟩ ft)) rfl (by rw [← HFV.out]; exact (HMD.out.row ft).alloc _) ⟨wd.heap.size, 0, none⟩ 1 1 [.string fd] rfl rfl (cell_one_new _ _ _) (fun x hx => by simp at hx; subst hx; rfl) (by decide) (by have := HDB.out; unfold maxLen; omega) (by have := HDB.out; omega) (by have := HMD.out.size; have := HBD.out.size; omega) _ rfl ?_
                  intro g4 c4 w7 ho4 hg4 hat4 hlt4
                  have hfar : ∀ (o : Nat) (u : Value), (wd.alloc (.cells #[.string fd] 9)).cell? ⟨wr.heap.size, o, none⟩ = some u → w7.cell? ⟨wr.heap.size, o, none⟩ = some u := fun o u hu => (hg4.cell_far ⟨wr.heap.size, o, none⟩ (by have := HWD.out; have := HBD.out.size; show wr.heap.size < _; omega) (fun e => by rw [← HFV.out] at e; have := ((HM.out.row ft).lt _ e.symm).2; exact absurd this (Nat.lt_irrefl _))).trans hu
                  refine hK.out _ _ ⟨hfar 5 _ hHeld.1, hfar 4 _ hHeld.2⟩ (fun hHeld => ?_)
                  clear hK K
                  try simp only [Act.put, List.setIfInBounds_toArray, List.set_cons_zero, List.set_cons_succ]
                  have hmap := ((HMD.out.step HBD.out).data).kept hg4 (fun e => by rw [← HFV.out] at e; have := ((HM.out.row ft).lt _ e.symm).1; omega)
                  obtain ⟨w8, hrun, hm8, hg8⟩ := hmap.put (t := 152) (e := 22) Try.underlying152 hwf (by have := HPL.out; unfold maxLen; omega) (.slice (some ⟨g4, 0, none⟩) ((dataOf (preF ls i k) ⟨ac, ah, an, as_⟩ ft).length + 1) c4)
                  rw [← HB3.out] at hrun
                  have hfar8 : ∀ (o : Nat) (u : Value), w7.cell? ⟨wr.heap.size, o, none⟩ = some u → w8.cell? ⟨wr.heap.size, o, none⟩ = some u := fun o u hu => (hg8.cell_far ⟨wr.heap.size, o, none⟩ (by have := hg4.size; have := HWD.out; have := HBD.out.size; show wr.heap.size < _; omega) (fun e => by injection e with e; have e : wr.heap.size = w.heap.size + 3 := e; have := HM.out.size; omega)).trans hu
                  refine wpAnyH_ready (rs := [11]) (by kernel_rfl) (by simp) (AllReadyH.cons rfl (fun K hK => ?_) AllReadyH.nil)
                  go_simp
                  refine hK.out _ _ ⟨hfar8 5 _ hHeld.1, hfar8 4 _ hHeld.2⟩ (fun hHeld2 => ?_)
                  clear hK K
                  try simp only [Act.put, List.setIfInBounds_toArray, List.set_cons_zero, List.set_cons_succ]
                  refine wpAnyH_done (by kernel_rfl) ?_ _
                  refine NoPanic.normal ?_
                  have hdel8 := (((HMD.out.step HBD.out).del).kept hg4 (fun e => by rw [← HFV.out] at e; have := ((HM.out.row ft).lt _ e.symm).1; omega)).kept hg8 (fun e => by injection e with e; omega)
                  rw [← HB4.out] at hdel8
                  have HD8 := Hid.in_ hdel8
                  have hma := MA.put (f := ⟨fc, fh, fn, fs_, fd, ft, false, fp⟩) (v' := .slice (some ⟨g4, 0, none⟩) ((dataOf (preF ls i k) ⟨ac, ah, an, as_⟩ ft).length + 1) c4) (HMD.out.step HBD.out) HKF0.out rfl (w1 := w7) (by
                    rw [data_at HKF0.out, if_pos rfl, List.length_append, Strs_append]
                    exact ho4) (by rw [← HFV.out] at hg4; exact hg4) (by
                    rw [HFV.out]
                    rcases hat4 with e | e
                    · exact .inl e.symm
                    · exact .inr ⟨g4, rfl, by rw [e]; exact Nat.le_refl _⟩) hm8 hg8
                  have HMX := Hid.in_ hma
                  have x6 := hfar8 6 _ (hfar 6 _ (cstep HBD.out (HW6.out)))
                  have x5 := hHeld2.1
                  clear hfar hfar8 hmap hrun hdel8 hm8 hg8 ho4 hg4 hat4 hlt4 hma hHeld hHeld2 hlk0 hlk1
                  cases hfl : fl
                  · subst hfl
                    go_wp2
                    have hq := HQ.out
                    go_roundg (gk - 1)
                    case measure => omega
                    case rel => exact ⟨k + 1, true, _, by omega, rfl, by go_num, Hid.in_ (by rw [HHN.out, HKF.out, Bool.or_true]), by rw [HPN.out]; exact HMX.out⟩
                  · subst hfl
                    obtain ⟨DF, hDF⟩ : ∃ DF : Int → Value, (fun st => Value.int .i64 (delOf (preF ls i k) ⟨ac, ah, an, as_⟩ st : Nat)) = DF := ⟨_, rfl⟩
                    obtain ⟨d, hd⟩ : ∃ d, delOf (preF ls i k) ⟨ac, ah, an, as_⟩ ft = d := ⟨_, rfl⟩
                    have hDFt : DF ft = .int .i64 d := by rw [← hDF, ← hd]
                    have hdb : d ≤ 320 := by rw [← hd]; exact Nat.le_trans (del_le _ _ _) (Nat.le_trans (pick_len _ _ _) HPL.out)
                    have HDL := Hid.in_ (show MapV w8 B4 (preF ls i k).length DF (.int .i64 0) by rw [← hDF]; exact HD8.out)
                    have HDD := Hid.in_ hd
                    have HDE := Hid.in_ hDF
                    clear hd hDF
                    go_wp2_with (first
                      | (at_lookup; refine wpList_lookup_V _ rfl _ _ 153 rfl 3 Try.underlying153 (.int .i64 0) (by kernel_rfl) B4 _ DF rfl HDL.out ft rfl hwf ?_; rw [hDFt])
                      | (at_mapUpdate; refine wpList_mapUpdate_V _ rfl _ _ _ 153 rfl 3 Try.underlying153 (.int .i64 0) B4 _ DF rfl HDL.out (by have := HPL.out; unfold maxLen; omega) ft (.int .i64 ((d : Int) + 1)) rfl rfl hwf ?_; intro w9 hm9 hg9; have HM9 := Hid.in_ (And.intro hm9 hg9); clear hm9 hg9))
                    have hq := HQ.out
                    go_roundg (gk - 1)
                    case measure => omega
                    case rel =>
                      refine ⟨k + 1, true, putF F ft (.slice (some ⟨g4, 0, none⟩) ((dataOf (preF ls i k) ⟨ac, ah, an, as_⟩ ft).length + 1) c4), by omega, rfl, by go_num, Hid.in_ (by rw [HHN.out, HKF.out, Bool.or_true]), ?_⟩
                      rw [HPN.out]
                      refine Hid.in_ (MA.count (f := ⟨fc, fh, fn, fs_, fd, ft, true, fp⟩) (n := (preF ls i k).length + 1) HKF.out rfl HMX.out ?_ ?_ ?_)
                      · have := HM9.out.1
                        rw [HB4.out, ← HDE.out, ← HDD.out] at this
                        exact this
                      · exact Nat.le_of_eq (by rw [List.length_append]; rfl)
                      · rw [← HB4.out]; exact HM9.out.2
                · go_simp
                  refine hK.out _ _ ⟨cstep HBD.out hHeld.1, cstep HBD.out hHeld.2⟩ (fun hHeld => ?_)
                  clear hK K
                  try simp only [Act.put, List.setIfInBounds_toArray, List.set_cons_zero, List.set_cons_succ]
                  refine wpAnyH_ready (rs := [6]) (by kernel_rfl) (by simp) (AllReadyH.cons rfl (fun K hK => ?_) AllReadyH.nil)
                  go_simp
                  refine hK.out _ _ hHeld (fun hHeld => ?_)
                  clear hK K
                  try simp only [Act.put, List.setIfInBounds_toArray, List.set_cons_zero, List.set_cons_succ]
                  refine wpAnyH_ready (rs := [10]) (by kernel_rfl) (by simp) (AllReadyH.cons rfl (fun K hK => ?_) AllReadyH.nil)
                  rw [if_pos (by rfl)]
                  refine wp_append_lies _ (.tmp 54) (.tmp 57) 22 rfl (w.heap.size + 5) 9 i0 (.string ⟨#[]⟩) 1 16 Try.underlying22 hti hz0 hz1 hz2 rfl (by decide) FV (dataOf (preF ls i k) ⟨ac, ah, an, as_⟩ ft).length (Strs (dataOf (preF ls i k) ⟨ac, ah, an, as_⟩ ft)) rfl (by rw [← HFV.out]; exact (HMD.out.row ft).alloc _) ⟨wd.heap.size, 0, none⟩ 1 1 [.string fd] rfl rfl (cell_one_new _ _ _) (fun x hx => by simp at hx; subst hx; rfl) (by decide) (by have := HDB.out; unfold maxLen; omega) (by have := HDB.out; omega) (by have := HMD.out.size; have := HBD.out.size; omega) _ rfl ?_
                  intro g4 c4 w7 ho4 hg4 hat4 hlt4
                  have hfar : ∀ (o : Nat) (u : Value), (wd.alloc (.cells #[.string fd] 9)).cell? ⟨wr.heap.size, o, none⟩ = some u → w7.cell? ⟨wr.heap.size, o, none⟩ = some u := fun o u hu => (hg4.cell_far ⟨wr.heap.size, o, none⟩ (by have := HWD.out; have := HBD.out.size; show wr.heap.size < _; omega) (fun e => by rw [← HFV.out] at e; have := ((HM.out.row ft).lt _ e.symm).2; exact absurd this (Nat.lt_irrefl _))).trans hu
                  refine hK.out _ _ ⟨hfar 5 _ hHeld.1, hfar 4 _ hHeld.2⟩ (fun hHeld => ?_)
                  clear hK K
                  try simp only [Act.put, List.setIfInBounds_toArray, List.set_cons_zero, List.set_cons_succ]
                  have hmap := ((HMD.out.step HBD.out).data).kept hg4 (fun e => by rw [← HFV.out] at e; have := ((HM.out.row ft).lt _ e.symm).1; omega)
                  obtain ⟨w8, hrun, hm8, hg8⟩ := hmap.put (t := 152) (e := 22) Try.underlying152 hwf (by have := HPL.out; unfold maxLen; omega) (.slice (some ⟨g4, 0, none⟩) ((dataOf (preF ls i k) ⟨ac, ah, an, as_⟩ ft).length + 1) c4)
                  rw [← HB3.out] at hrun
                  have hfar8 : ∀ (o : Nat) (u : Value), w7.cell? ⟨wr.heap.size, o, none⟩ = some u → w8.cell? ⟨wr.heap.size, o, none⟩ = some u := fun o u hu => (hg8.cell_far ⟨wr.heap.size, o, none⟩ (by have := hg4.size; have := HWD.out; have := HBD.out.size; show wr.heap.size < _; omega) (fun e => by injection e with e; have e : wr.heap.size = w.heap.size + 3 := e; have := HM.out.size; omega)).trans hu
                  refine wpAnyH_ready (rs := [11]) (by kernel_rfl) (by simp) (AllReadyH.cons rfl (fun K hK => ?_) AllReadyH.nil)
                  go_simp
                  refine hK.out _ _ ⟨hfar8 5 _ hHeld.1, hfar8 4 _ hHeld.2⟩ (fun hHeld2 => ?_)
                  clear hK K
                  try simp only [Act.put, List.setIfInBounds_toArray, List.set_cons_zero, List.set_cons_succ]
                  refine wpAnyH_done (by kernel_rfl) ?_ _
                  refine NoPanic.normal ?_
                  have hdel8 := (((HMD.out.step HBD.out).del).kept hg4 (fun e => by rw [← HFV.out] at e; have := ((HM.out.row ft).lt _ e.symm).1; omega)).kept hg8 (fun e => by injection e with e; omega)
                  rw [← HB4.out] at hdel8
                  have HD8 := Hid.in_ hdel8
                  have hma := MA.put (f := ⟨fc, fh, fn, fs_, fd, ft, false, fp⟩) (v' := .slice (some ⟨g4, 0, none⟩) ((dataOf (preF ls i k) ⟨ac, ah, an, as_⟩ ft).length + 1) c4) (HMD.out.step HBD.out) HKF0.out rfl (w1 := w7) (by
                    rw [data_at HKF0.out, if_pos rfl, List.length_append, Strs_append]
                    exact ho4) (by rw [← HFV.out] at hg4; exact hg4) (by
                    rw [HFV.out]
                    rcases hat4 with e | e
                    · exact .inl e.symm
                    · exact .inr ⟨g4, rfl, by rw [e]; exact Nat.le_refl _⟩) hm8 hg8
                  have HMX := Hid.in_ hma
                  have x6 := hfar8 6 _ (hfar 6 _ (cstep HBD.out (HW6.out)))
                  have x5 := hHeld2.1
                  clear hfar hfar8 hmap hrun hdel8 hm8 hg8 ho4 hg4 hat4 hlt4 hma hHeld hHeld2 hlk0 hlk1
                  cases hfl : fl
                  · subst hfl
                    go_wp2
                    have hq := HQ.out
                    go_roundg (gk - 1)
                    case measure => omega
                    case rel => exact ⟨k + 1, true, _, by omega, rfl, by go_num, Hid.in_ (by rw [HHN.out, HKF.out, Bool.or_true]), by rw [HPN.out]; exact HMX.out⟩
                  · subst hfl
                    obtain ⟨DF, hDF⟩ : ∃ DF : Int → Value, (fun st => Value.int .i64 (delOf (preF ls i k) ⟨ac, ah, an, as_⟩ st : Nat)) = DF := ⟨_, rfl⟩
                    obtain ⟨d, hd⟩ : ∃ d, delOf (preF ls i k) ⟨ac, ah, an, as_⟩ ft = d := ⟨_, rfl⟩
                    have hDFt : DF ft = .int .i64 d := by rw [← hDF, ← hd]
                    have hdb : d ≤ 320 := by rw [← hd]; exact Nat.le_trans (del_le _ _ _) (Nat.le_trans (pick_len _ _ _) HPL.out)
                    have HDL := Hid.in_ (show MapV w8 B4 (preF ls i k).length DF (.int .i64 0) by rw [← hDF]; exact HD8.out)
                    have HDD := Hid.in_ hd
                    have HDE := Hid.in_ hDF
                    clear hd hDF
                    go_wp2_with (first
                      | (at_lookup; refine wpList_lookup_V _ rfl _ _ 153 rfl 3 Try.underlying153 (.int .i64 0) (by kernel_rfl) B4 _ DF rfl HDL.out ft rfl hwf ?_; rw [hDFt])
                      | (at_mapUpdate; refine wpList_mapUpdate_V _ rfl _ _ _ 153 rfl 3 Try.underlying153 (.int .i64 0) B4 _ DF rfl HDL.out (by have := HPL.out; unfold maxLen; omega) ft (.int .i64 ((d : Int) + 1)) rfl rfl hwf ?_; intro w9 hm9 hg9; have HM9 := Hid.in_ (And.intro hm9 hg9); clear hm9 hg9))
                    have hq := HQ.out
                    go_roundg (gk - 1)
                    case measure => omega
                    case rel =>
                      refine ⟨k + 1, true, putF F ft (.slice (some ⟨g4, 0, none⟩) ((dataOf (preF ls i k) ⟨ac, ah, an, as_⟩ ft).length + 1) c4), by omega, rfl, by go_num, Hid.in_ (by rw [HHN.out, HKF.out, Bool.or_true]), ?_⟩
                      rw [HPN.out]
                      refine Hid.in_ (MA.count (f := ⟨fc, fh, fn, fs_, fd, ft, true, fp⟩) (n := (preF ls i k).length + 1) HKF.out rfl HMX.out ?_ ?_ ?_)
                      · have := HM9.out.1
                        rw [HB4.out, ← HDE.out, ← HDD.out] at this
                        exact this
                      · exact Nat.le_of_eq (by rw [List.length_append]; rfl)
                      · rw [← HB4.out]; exact HM9.out.2
        · have hq := HQ.out
          obtain rfl : k = N := by omega
          have HTT := Hid.in_ (show preF ls i k = preF ls (i + 1) 0 by rw [← HFN.out]; exact preF_turn HLI.out)
          have HTF := Hid.in_ (show fs.take k = fs by rw [List.take_of_length_le (by rw [HFN.out]; exact Nat.le_refl _)])
          have HVN := Hid.in_ (votesTo_next (a := ⟨ac, ah, an, as_⟩) HLI.out)
          have hvo5 : vo ≤ 5 := by rw [HVO.out]; exact Nat.le_trans (votesTo_le _ _ _) (by omega)
          rw [HTF.out] at HHS
          rw [HTT.out] at HM
          cases has
          · have HVE := Hid.in_ (show vo = votesTo ls ⟨ac, ah, an, as_⟩ (i + 1) by rw [HVN.out, ← HHS.out, ← HVO.out]; rfl)
            go_wp2
            have hk := HK.out
            go_roundg (gO - 1)
            case measure => omega
            case rel => exact ⟨i + 1, vo, F, by omega, by go_num, HVE, HM⟩
          · have HVE := Hid.in_ (show vo + 1 = votesTo ls ⟨ac, ah, an, as_⟩ (i + 1) by rw [HVN.out, ← HHS.out, ← HVO.out]; rfl)
            have hv := HM.out.v
            rw [← HB2.out] at hv
            obtain ⟨⟨v0, v1, v2, v3, v4, v5, v6, v7, v8⟩, ⟨q0, q1, q2, q3, q4, q5, q6, q7, q8⟩⟩ := wr9v hv
            have hp := HM.out.vote
            rw [← HB2.out] at hp
            have HP := Hid.in_ hp
            clear hv hp
            go_wp2
            have hk := HK.out
            go_roundg (gO - 1)
            case measure => omega
            case rel => exact ⟨i + 1, vo + 1, F, by omega, by go_num, HVE, HP⟩
    · have hk := HK.out
      obtain rfl : i = n := by omega
      have HPF := Hid.in_ (show preF ls i 0 = ls.flatten by rw [← HNN.out]; exact preF_all ls)
      rw [HPF.out] at HM
      rw [← HNN.out] at HVO
      obtain ⟨fl, hfl⟩ : ∃ fl, ls.flatten = fl := ⟨_, rfl⟩
      have HFL := Hid.in_ hfl
      have HGF := Hid.in_ (show ∀ f ∈ fl, goodF f by rw [← hfl]; exact HG.out)
      have hfb : fl.length ≤ 320 := by rw [← hfl]; exact flat_small (by rw [HNN.out]; exact hn5) H64.out
      have HMV1 := Hid.in_ (fun h => merge_one (ls := ls) (a := ⟨ac, ah, an, as_⟩) h)
      have HMV2 := Hid.in_ (fun h h3 => merge_two (ls := ls) (a := ⟨ac, ah, an, as_⟩) h h3)
      have HMV3 := Hid.in_ (fun h h3 => merge_none (ls := ls) (a := ⟨ac, ah, an, as_⟩) h h3)
      rw [hfl] at HM HMV1 HMV2 HMV3
      rw [← HVO.out] at HMV1 HMV2 HMV3
      clear hfl
      obtain ⟨wo, rfl⟩ : ∃ x, x = wr := ⟨_, rfl⟩
      have HBE := Hid.in_ (Box.new wo [.int .i64 1, .int .i64 3] 2)
      have HMW := Hid.in_ (HM.out.step (balloc (Below.refl wo.heap.size wo) (.cells #[.int .i64 1, .int .i64 3] 2)))
      clear HM
      go_wp2_with fail
      go_loopg [75] 2 (fun m v75 wx => ∃ q : Nat, q + m = 2 ∧ v75 = .int .i64 q ∧ Hid (wx = wo.alloc (.cells #[.int .i64 1, .int .i64 3] 2)) ∧ Hid ((0 < q → (dataOf fl ⟨ac, ah, an, as_⟩ 1).length = 0) ∧ (1 < q → (dataOf fl ⟨ac, ah, an, as_⟩ 3).length = 0)))
      case atStart => exact ⟨0, by omega, rfl, rfl, fun h => absurd h (by omega), fun h => absurd h (by omega)⟩
      case round =>
        obtain ⟨q, hqm, rfl, HWX, HZ⟩ := hrel
        have HQ := Hid.in_ hqm
        clear hqm
        have hmx := HMW.out
        have hbe := HBE.out
        change Box (wo.alloc (.cells #[.int .i64 1, .int .i64 3] 2)) _ _ at hbe
        rw [← HWX.out] at hmx hbe
        have HMX := Hid.in_ hmx
        have hv := hmx.v
        rw [← HB2.out] at hv
        have HV := Hid.in_ hv
        have HRS := Hid.in_ hmx.res
        by_cases hlq : q < 2
        · obtain ⟨st, hst⟩ : ∃ st : Int, (q = 0 ∧ st = 1) ∨ (q = 1 ∧ st = 3) := by
            rcases Nat.lt_or_ge 0 q with h | h
            · exact ⟨3, .inr ⟨by omega, rfl⟩⟩
            · exact ⟨1, .inl ⟨by omega, rfl⟩⟩
          have c0 : wr.cell? ⟨wo.heap.size, q, none⟩ = some (.int .i64 st) := by
            rcases hst with ⟨rfl, rfl⟩ | ⟨rfl, rfl⟩
            · exact hbe 0 _ rfl
            · exact hbe 1 _ rfl
          have hst13 : st = 1 ∨ st = 3 := by omega
          have hwf : (Lit.int .i64 st).wf = true := WalkArith.wf_i64 (by omega)
          obtain ⟨nd, hnd⟩ : ∃ nd, (dataOf fl ⟨ac, ah, an, as_⟩ st).length = nd := ⟨_, rfl⟩
          have hrow := hmx.row st
          rw [hnd] at hrow
          have hndb : nd ≤ 320 := by rw [← hnd, data_len]; exact Nat.le_trans (pick_len _ _ _) hfb
          obtain ⟨A3, c3, hFs, _, _, _⟩ := own_shape hrow
          have hdt := hmx.data
          rw [← HB3.out] at hdt
          have HDT := Hid.in_ hdt
          have HND := Hid.in_ hnd
          have HST := Hid.in_ hst
          rw [hFs] at hrow
          have HROW := Hid.in_ hrow
          clear hmx hbe hv hnd hst hdt hrow
          by_cases h0 : nd = 0
          · subst h0
            go_wp2_with (at_lookup; refine wpList_lookup_V _ rfl _ _ 152 rfl 22 Try.underlying152 (.slice none 0 0) (by kernel_rfl) B3 _ F rfl HDT.out st rfl hwf ?_; rw [hFs])
            have hq := HQ.out
            go_roundg (gk - 1)
            case measure => omega
            case rel =>
              refine ⟨q + 1, by omega, by go_num, HWX, ?_⟩
              rcases HST.out with ⟨h1, h2⟩ | ⟨h1, h2⟩
              · exact ⟨fun _ => by rw [← h2]; exact HND.out, fun h => absurd h (by omega)⟩
              · exact ⟨fun _ => HZ.out.1 (by omega), fun _ => by rw [← h2]; exact HND.out⟩
          · have hnp : (0 : Int) < (nd : Int) := by omega
            have hsz := data_size (fs := fl) (a := ⟨ac, ah, an, as_⟩) (st := st) HGF.out hst13
            obtain ⟨NR, hNR⟩ : ∃ NR, revLen (dataOf fl ⟨ac, ah, an, as_⟩ st) = NR := ⟨_, rfl⟩
            obtain ⟨DS, hDS⟩ : ∃ DS, dataOf fl ⟨ac, ah, an, as_⟩ st = DS := ⟨_, rfl⟩
            have hN1 : ∀ s ∈ DS, s.size = NR := fun s hs => by rw [← hNR]; exact (hsz s (by rw [hDS]; exact hs)).1
            have hN2 : NR ≤ 1024 := by
              obtain ⟨s, hs⟩ : ∃ s, s ∈ DS := by
                cases hp : DS with
                | nil => exfalso; have := HND.out; rw [hDS, hp] at this; exact h0 this.symm
                | cons x r => exact ⟨x, by simp⟩
              rw [← hN1 s hs]
              exact (hsz s (by rw [hDS]; exact hs)).2
            rw [hDS] at HROW
            obtain ⟨W, hW⟩ : ∃ W, placesTo (diffAt DS) NR = W := ⟨_, rfl⟩
            obtain ⟨DD, hDD⟩ : ∃ DD : ByteArray, (⟨(voteTo DS NR).toArray⟩ : ByteArray) = DD := ⟨_, rfl⟩
            obtain ⟨d, hd⟩ : ∃ d, delOf fl ⟨ac, ah, an, as_⟩ st = d := ⟨_, rfl⟩
            have hdb : d ≤ 320 := by rw [← hd]; exact Nat.le_trans (del_le _ _ _) (Nat.le_trans (pick_len _ _ _) hfb)
            obtain ⟨bx, hbx⟩ : ∃ bx, decide ((nd : Int) < 2 * (d : Int)) = bx := ⟨_, rfl⟩
            have hbx2 : decide (nd < 2 * d) = bx := by rw [← hbx]; exact decide_eq_decide.2 (by omega)
            have HFIN := Hid.in_ (show mergeV ls ⟨ac, ah, an, as_⟩ = ⟨ac, ah, an, as_, DD, if st = 1 then (if W.length = 0 then 1 else 5) else 3, bx, W, (vo : Nat)⟩ by
              rcases HST.out with ⟨h1, h2⟩ | ⟨h1, h2⟩
              · subst h2
                rw [HMV1.out (by rw [HND.out]; exact h0), if_pos rfl]
                unfold fillV
                rw [HND.out, hNR, hDS, hW, hDD, hd, hbx2]
              · subst h2
                rw [HMV2.out (by have := HZ.out.1 (by omega); omega) (by rw [HND.out]; exact h0), if_neg (by decide)]
                unfold fillV
                rw [HND.out, hNR, hDS, hW, hDD, hd, hbx2])
            have HVB := Hid.in_ (fun w' (hr : w'.ownsRow (w.heap.size + 5) 9 1 (.slice A3 nd c3) nd (Strs DS)) => impl_voteBytes w' hr (by omega) hN1 hN2 (by omega))
            have HDF := Hid.in_ (fun w' (hr : w'.ownsRow (w.heap.size + 5) 9 1 (.slice A3 nd c3) nd (Strs DS)) => impl_differing_any w' hr (by omega) hN1 (by omega))
            rw [hDD] at HVB
            rw [hW] at HDF
            have hdel := HMX.out.del
            obtain ⟨DF, hDF⟩ : ∃ DF : Int → Value, (fun st => Value.int .i64 (delOf fl ⟨ac, ah, an, as_⟩ st : Nat)) = DF := ⟨_, rfl⟩
            have hDFt : DF st = .int .i64 d := by rw [← hDF, ← hd]
            rw [hDF, ← HB4.out] at hdel
            have HDL := Hid.in_ hdel
            clear hsz hNR hDS hN1 hN2 hW hDD hd hbx2 hDF hdel HMV1 HMV2 HMV3
            have hne2 : ∀ g, w.heap.size + 5 ≤ g → some g ≠ some B2 := fun g hg e => by injection e with e; have := HB2.out; omega
            have hne2' : ∀ k, k ≠ w.heap.size + 2 → some k ≠ some B2 := fun k hk e => by injection e with e; have := HB2.out; omega
            have hfr : ∀ (w' : World) (i : Nat) (x : Value), w'.ownsRow (w.heap.size + 5) 9 1 (.slice A3 nd c3) nd (Strs DS) → (w'.setCell ⟨B2, i, none⟩ x).ownsRow (w.heap.size + 5) 9 1 (.slice A3 nd c3) nd (Strs DS) := fun w' i x hr => hr.kept (grown_one _ _ _ _) (by
              cases hb : (Value.slice A3 nd c3).ownBlock with
              | none => exact .inl rfl
              | some z => exact .inr (hne2 z (hr.lt z hb).1))
            have HFR := Hid.in_ hfr
            have HN2' := Hid.in_ hne2'
            clear hne2 hne2' hfr
            have HB2g : Hid (w.heap.size ≤ B2) := Hid.in_ (by have := HB2.out; omega)
            have HNE1 : Hid (B2 ≠ w.heap.size + 1) := Hid.in_ (by have := HB2.out; omega)
            obtain ⟨⟨v0, v1, v2, v3, v4, v5, v6, v7, v8⟩, ⟨q0, q1, q2, q3, q4, q5, q6, q7, q8⟩⟩ := wr9v HV.out
            go_wp2_with (at_lookup; refine wpList_lookup_V _ rfl _ _ 152 rfl 22 Try.underlying152 (.slice none 0 0) (by kernel_rfl) B3 _ F rfl HDT.out st rfl hwf ?_; rw [hFs])
            have HV1 := Hid.in_ (HV.out.set (.int .i64 st) (i := 5) (by simp))
            have HRS1 := Hid.in_ (HRS.out.far HNE1.out 5 (.int .i64 st))
            have HL1 := Hid.in_ ((HMX.out.low).setCell (p := ⟨B2, 5, none⟩) HB2g.out (.int .i64 st))
            have HR1 := Hid.in_ (HFR.out _ 5 (.int .i64 st) HROW.out)
            have HD1 := Hid.in_ (HDL.out.kept (grown_one wr B2 5 (.int .i64 st)) (HN2'.out _ (by have := HB4.out; omega)))
            clear v0 v1 v2 v3 v4 v5 v6 v7 v8 q0 q1 q2 q3 q4 q5 q6 q7 q8
            refine (HVB.out _ HR1.out).mono ?_
            rintro e w2 ⟨rfl, hb2⟩
            have HV2 := Hid.in_ (HV1.out.step hb2)
            obtain ⟨⟨v0, v1, v2, v3, v4, v5, v6, v7, v8⟩, ⟨q0, q1, q2, q3, q4, q5, q6, q7, q8⟩⟩ := wr9v HV2.out
            have HV3 := Hid.in_ (HV2.out.set (.string DD) (i := 4) (by simp))
            have HRS3 := Hid.in_ ((HRS1.out.step hb2).far HNE1.out 4 (.string DD))
            have HL3 := Hid.in_ ((HL1.out.trans (hb2.mono HL1.out.size)).setCell (p := ⟨B2, 4, none⟩) HB2g.out (.string DD))
            have HR3 := Hid.in_ (HFR.out _ 4 (.string DD) (ostep hb2 HR1.out))
            have HD3 := Hid.in_ ((HD1.out.step hb2).kept (grown_one w2 B2 4 (.string DD)) (HN2'.out _ (by have := HB4.out; omega)))
            have HS2 := Hid.in_ (show B2 < w2.heap.size from HV2.out.lt)
            clear hb2
            go_wp2_with fail
            refine (HDF.out _ HR3.out).mono ?_
            rintro e w4 ⟨wv, rfl, how, hb4⟩
            obtain ⟨nW, hnW⟩ : ∃ nW, W.length = nW := ⟨_, rfl⟩
            rw [hnW] at how
            have HNW := Hid.in_ hnW
            clear hnW
            obtain ⟨A9, c9, rfl, _, _, _⟩ := own_shape how
            have HV4 := Hid.in_ (HV3.out.step hb4)
            clear v0 v1 v2 v3 v4 v5 v6 v7 v8 q0 q1 q2 q3 q4 q5 q6 q7 q8
            obtain ⟨⟨v0, v1, v2, v3, v4, v5, v6, v7, v8⟩, ⟨q0, q1, q2, q3, q4, q5, q6, q7, q8⟩⟩ := wr9v HV4.out
            have HV5 := Hid.in_ ((HV4.out.set (.slice A9 nW c9) (i := 7) (by simp)).set (.bool bx) (i := 6) (by simp))
            have HRS5 := Hid.in_ (((HRS3.out.step hb4).far HNE1.out 7 (.slice A9 nW c9)).far HNE1.out 6 (.bool bx))
            have HL5 := Hid.in_ (((HL3.out.trans (hb4.mono HL3.out.size)).setCell (p := ⟨B2, 7, none⟩) HB2g.out (.slice A9 nW c9)).setCell (p := ⟨B2, 6, none⟩) HB2g.out (.bool bx))
            have HD5 := Hid.in_ ((HD3.out.step hb4).kept (grown_one w4 B2 7 (.slice A9 nW c9)) (HN2'.out _ (by have := HB4.out; omega)))
            have hfw : ∀ (w' : World) (b i : Nat) (x : Value), b ≤ B2 → w'.ownsRow (w2.setCell ⟨B2, 4, none⟩ (.string DD)).heap.size 2 1 (.slice A9 nW c9) nW (I64 W) → (w'.setCell ⟨b, i, none⟩ x).ownsRow (w2.setCell ⟨B2, 4, none⟩ (.string DD)).heap.size 2 1 (.slice A9 nW c9) nW (I64 W) := fun w' b i x hb hr => hr.kept (grown_one _ _ _ _) (by
              cases hz : (Value.slice A9 nW c9).ownBlock with
              | none => exact .inl rfl
              | some z => exact .inr (fun e => by
                injection e with e
                have h1 := (hr.lt z hz).1
                have h2 := HS2.out
                have h3 : (w2.setCell ⟨B2, 4, none⟩ (.string DD)).heap.size = w2.heap.size := by simp [World.setCell]
                omega))
            have HFW := Hid.in_ hfw
            have HW5 := Hid.in_ (hfw _ B2 6 (.bool bx) (Nat.le_refl _) (hfw _ B2 7 (.slice A9 nW c9) (Nat.le_refl _) how))
            have HWB := Hid.in_ (show w.heap.size ≤ (w2.setCell ⟨B2, 4, none⟩ (.string DD)).heap.size from HL3.out.size)
            have h1B : w.heap.size + 1 ≤ B2 := by have := HB2.out; omega
            have H1B := Hid.in_ h1B
            clear hb4 how hfw h1B
            go_upto_region 30 with (at_lookup; refine wpList_lookup_V _ rfl _ _ 153 rfl 3 Try.underlying153 (.int .i64 0) (by kernel_rfl) B4 _ DF rfl HD5.out st rfl hwf ?_; rw [hDFt])
            clear v0 v1 v2 v3 v4 v5 v6 v7 v8 q0 q1 q2 q3 q4 q5 q6 q7 q8
            obtain ⟨⟨e0, e1, e2, e3, e4, e5, e6, e7, e8⟩, ⟨p0, p1, p2, p3, p4, p5, p6, p7, p8⟩⟩ := wr9v HV5.out
            cases es : (st == 1)
            · have hs3 : st ≠ 1 := by simpa using es
              have HF3 := Hid.in_ (show mergeV ls ⟨ac, ah, an, as_⟩ = ⟨ac, ah, an, as_, DD, st, bx, W, (vo : Nat)⟩ by rw [HFIN.out, if_neg hs3, hst13.resolve_left hs3])
              go_upto_region 32 with fail
              clear p0 p1 p2 p3 p4 p5 p6 p7 p8
              obtain ⟨⟨r0, r1, r2, r3, r4, r5, r6, r7, r8⟩, ⟨s0, s1, s2, s3, s4, s5, s6, s7, s8⟩⟩ := wr9v HRS5.out
              obtain ⟨⟨d0, d1, d2, d3, d4, d5, d6, d7, d8⟩, _⟩ := wr9v (HRS5.out.put9 (.int .i64 ac) (.int .i64 ah) (.int .i64 an) (.int .i64 as_) (.string DD) (.int .i64 st) (.bool bx) (.slice A9 nW c9) (.int .i64 (vo : Nat)))
              go_wp2
              rw [HF3.out]
              refine bodyPost_ret ?_ rfl ⟨.slice A9 nW c9, rfl, (show World.ownsRow _ _ _ 1 _ W.length (I64 W) from by rw [HNW.out]; exact own_base (own_put9 (fun w' i x hr => HFW.out w' (w.heap.size + 1) i x H1B.out hr) HW5.out (.int .i64 ac) (.int .i64 ah) (.int .i64 an) (.int .i64 as_) (.string DD) (.int .i64 st) (.bool bx) (.slice A9 nW c9) (.int .i64 (vo : Nat))) HWB.out), below_put9 HL5.out (Nat.le_succ _) (.int .i64 ac) (.int .i64 ah) (.int .i64 an) (.int .i64 as_) (.string DD) (.int .i64 st) (.bool bx) (.slice A9 nW c9) (.int .i64 (vo : Nat))⟩
              simp [results, Try.results105, go_sem, d0, d1, d2, d3, d4, d5, d6, d7, d8]
              try rfl
            · have hs1 : st = 1 := by simpa using es
              have HS1 := Hid.in_ hs1
              clear hs1
              by_cases hW0 : nW = 0
              · have HF3 := Hid.in_ (show mergeV ls ⟨ac, ah, an, as_⟩ = ⟨ac, ah, an, as_, DD, st, bx, W, (vo : Nat)⟩ by rw [HFIN.out, if_pos HS1.out, if_pos (by rw [HNW.out]; exact hW0), HS1.out])
                subst hW0
                go_upto_region 32 with fail
                clear p0 p1 p2 p3 p4 p5 p6 p7 p8
                obtain ⟨⟨r0, r1, r2, r3, r4, r5, r6, r7, r8⟩, ⟨s0, s1, s2, s3, s4, s5, s6, s7, s8⟩⟩ := wr9v HRS5.out
                obtain ⟨⟨d0, d1, d2, d3, d4, d5, d6, d7, d8⟩, _⟩ := wr9v (HRS5.out.put9 (.int .i64 ac) (.int .i64 ah) (.int .i64 an) (.int .i64 as_) (.string DD) (.int .i64 st) (.bool bx) (.slice A9 0 c9) (.int .i64 (vo : Nat)))
                go_wp2
                rw [HF3.out]
                refine bodyPost_ret ?_ rfl ⟨.slice A9 0 c9, rfl, (show World.ownsRow _ _ _ 1 _ W.length (I64 W) from by rw [HNW.out]; exact own_base (own_put9 (fun w' i x hr => HFW.out w' (w.heap.size + 1) i x H1B.out hr) HW5.out (.int .i64 ac) (.int .i64 ah) (.int .i64 an) (.int .i64 as_) (.string DD) (.int .i64 st) (.bool bx) (.slice A9 0 c9) (.int .i64 (vo : Nat))) HWB.out), below_put9 HL5.out (Nat.le_succ _) (.int .i64 ac) (.int .i64 ah) (.int .i64 an) (.int .i64 as_) (.string DD) (.int .i64 st) (.bool bx) (.slice A9 0 c9) (.int .i64 (vo : Nat))⟩
                simp [results, Try.results105, go_sem, d0, d1, d2, d3, d4, d5, d6, d7, d8]
                try rfl
              · have hWp : (0 : Int) < (nW : Int) := by omega
                have HF3 := Hid.in_ (show mergeV ls ⟨ac, ah, an, as_⟩ = ⟨ac, ah, an, as_, DD, 5, bx, W, (vo : Nat)⟩ by rw [HFIN.out, if_pos HS1.out, if_neg (by rw [HNW.out]; exact hW0)])
                have HV6 := Hid.in_ (HV5.out.set (.int .i64 5) (i := 5) (by simp))
                have HRS6 := Hid.in_ (HRS5.out.far HNE1.out 5 (.int .i64 5))
                have HW6 := Hid.in_ (HFW.out _ B2 5 (.int .i64 5) (Nat.le_refl _) HW5.out)
                have HL6 := Hid.in_ (HL5.out.setCell (p := ⟨B2, 5, none⟩) HB2g.out (.int .i64 5))
                go_upto_region 32 with fail
                clear e0 e1 e2 e3 e4 e5 e6 e7 e8 p0 p1 p2 p3 p4 p5 p6 p7 p8
                obtain ⟨⟨t0, t1, t2, t3, t4, t5, t6, t7, t8⟩, _⟩ := wr9v HV6.out
                obtain ⟨⟨y0, y1, y2, y3, y4, y5, y6, y7, y8⟩, ⟨z0, z1, z2, z3, z4, z5, z6, z7, z8⟩⟩ := wr9v HRS6.out
                obtain ⟨⟨d0, d1, d2, d3, d4, d5, d6, d7, d8⟩, _⟩ := wr9v (HRS6.out.put9 (.int .i64 ac) (.int .i64 ah) (.int .i64 an) (.int .i64 as_) (.string DD) (.int .i64 5) (.bool bx) (.slice A9 nW c9) (.int .i64 (vo : Nat)))
                go_wp2
                rw [HF3.out]
                refine bodyPost_ret ?_ rfl ⟨.slice A9 nW c9, rfl, (show World.ownsRow _ _ _ 1 _ W.length (I64 W) from by rw [HNW.out]; exact own_base (own_put9 (fun w' i x hr => HFW.out w' (w.heap.size + 1) i x H1B.out hr) HW6.out (.int .i64 ac) (.int .i64 ah) (.int .i64 an) (.int .i64 as_) (.string DD) (.int .i64 5) (.bool bx) (.slice A9 nW c9) (.int .i64 (vo : Nat))) HWB.out), below_put9 HL6.out (Nat.le_succ _) (.int .i64 ac) (.int .i64 ah) (.int .i64 an) (.int .i64 as_) (.string DD) (.int .i64 5) (.bool bx) (.slice A9 nW c9) (.int .i64 (vo : Nat))⟩
                simp [results, Try.results105, go_sem, d0, d1, d2, d3, d4, d5, d6, d7, d8]
                try rfl
        · have hq := HQ.out
          obtain rfl : q = 2 := by omega
          have HFN3 := Hid.in_ (HMV3.out (by have := HZ.out.1 (by omega); omega) (by have := HZ.out.2 (by omega); omega))
          obtain ⟨⟨v0, v1, v2, v3, v4, v5, v6, v7, v8⟩, ⟨q0, q1, q2, q3, q4, q5, q6, q7, q8⟩⟩ := wr9v HV.out
          obtain ⟨⟨r0, r1, r2, r3, r4, r5, r6, r7, r8⟩, ⟨s0, s1, s2, s3, s4, s5, s6, s7, s8⟩⟩ := wr9v HRS.out
          obtain ⟨⟨d0, d1, d2, d3, d4, d5, d6, d7, d8⟩, _⟩ := wr9v (HRS.out.put9 (.int .i64 ac) (.int .i64 ah) (.int .i64 an) (.int .i64 as_) (.string ⟨#[]⟩) (.int .i64 4) (.bool false) (.slice none 0 0) (.int .i64 (vo : Nat)))
          clear hmx hbe hv
          go_wp2
          rw [HFN3.out]
          refine bodyPost_ret ?_ rfl ⟨.slice none 0 0, rfl, World.ownsRow_nil _ _ _ _, below_put9 HMX.out.low (Nat.le_succ _) (.int .i64 ac) (.int .i64 ah) (.int .i64 an) (.int .i64 as_) (.string ⟨#[]⟩) (.int .i64 4) (.bool false) (.slice none 0 0) (.int .i64 (vo : Nat))⟩
          simp [results, Try.results105, go_sem, d0, d1, d2, d3, d4, d5, d6, d7, d8]
          try rfl
end Go.Proofs.Ytlelgpknkgjaeaa
