/- 'l07Marks', 'FindMarks' of the reference. -/
import Derived.Test.YtlelgpknkgjaeaaGreatDoorPutM
import Derived.StillTailTactics
namespace Go.Proofs.YtlelgpknkgjaeaaGreatDoor
open Go.ChangeShapes Go.WideShapes Go.ChangeAt Go.RowKit
set_option linter.unusedSimpArgs false
set_option linter.unusedVariables false
set_option maxRecDepth 4000

theorem insM_snoc (l : List MarkR) (m : MarkR) : insM (l ++ [m]) = putM (insM l) m := by
  unfold insM; rw [List.foldl_append]; rfl
def pieceK (s : ByteArray) (f : Int) (k : Nat) : List MarkR := if f = 3 then gcrK s k else kindL s (patM f k) k
def kTo (s : ByteArray) (f : Int) : Nat → List MarkR
  | 0 => []
  | k + 1 => kTo s f k ++ (if k = 0 then [] else pieceK s f k)
theorem kTo_one (s : ByteArray) (f : Int) : kTo s f 1 = [] := rfl
theorem kTo_succ {s : ByteArray} {f : Int} {k : Nat} (h : 1 ≤ k) : kTo s f (k + 1) = kTo s f k ++ pieceK s f k := by
  show kTo s f k ++ (if k = 0 then [] else pieceK s f k) = _
  rw [if_neg (by omega)]
theorem kTo_all (s : ByteArray) (f : Int) : insM (kTo s f 4) = marksV s f := by
  unfold marksV
  rw [kTo_succ (by decide), kTo_succ (by decide), kTo_succ (by decide), kTo_one]
  unfold pieceK
  by_cases h : f = 3
  · rw [if_pos h, if_pos h, if_pos h, if_pos h]; rfl
  · rw [if_neg h, if_neg h, if_neg h, if_neg h]; rfl
theorem gcrK_len (s : ByteArray) (k : Int) : (gcrK s k).length ≤ s.size := by
  have h : ∀ L : List RunR, (L.flatMap (fun r => gcrOne s r k)).length ≤ L.length := by
    intro L
    induction L with
    | nil => exact Nat.le_refl _
    | cons r L ih =>
      rw [List.flatMap_cons, List.length_append, List.length_cons]
      have : (gcrOne s r k).length ≤ 1 := by
        unfold gcrOne
        split <;> simp
      omega
  exact Nat.le_trans (h _) (syncTo_len s s.size)
theorem kindL_len (s p : ByteArray) (k : Int) : (kindL s p k).length ≤ s.size := by
  unfold kindL; split
  · rw [List.length_map]; exact placesTo_len _ _
  · exact Nat.zero_le _
theorem pieceK_len (s : ByteArray) (f : Int) (k : Nat) : (pieceK s f k).length ≤ s.size := by
  unfold pieceK; split
  · exact gcrK_len _ _
  · exact kindL_len _ _ _
theorem kTo_len {s : ByteArray} {f : Int} (h : s.size ≤ 8000) : ∀ k, (kTo s f k).length ≤ k * 8000
  | 0 => Nat.le_refl _
  | k + 1 => by
    show (kTo s f k ++ (if k = 0 then [] else pieceK s f k)).length ≤ _
    rw [List.length_append]
    have := kTo_len (f := f) h k
    have := pieceK_len s f k
    have hx : ((if k = 0 then [] else pieceK s f k) : List MarkR).length ≤ 8000 := by
      split
      · exact Nat.zero_le _
      · omega
    omega
theorem kindTo_len (s p : ByteArray) (k : Int) (j : Nat) : (kindTo s p k j).length ≤ j := by
  unfold kindTo; rw [List.length_map, List.length_take]; exact Nat.min_le_left _ _
theorem pat_size {f : Int} (h : inB f 1 3 = true) {k : Nat} (h1 : 1 ≤ k) (h2 : k ≤ 3) : (patM f k).size ≤ 64 := by
  obtain ⟨a, b, c, _⟩ := pat_facts h
  have key : ∀ z : Int, z = 1 ∨ z = 2 ∨ z = 3 → (patM f z).size ≤ 64 := by
    rintro z (rfl | rfl | rfl)
    · exact c
    · rw [← a]; exact c
    · rw [← b, ← a]; exact c
  exact key k (by omega)
theorem own_n {w : World} {b n : Nat} {e : TypeId} {v : Value} {l : List MarkR} (h : w.ownsRow b e 3 v n (l.flatMap MarkR.cells)) : n = l.length := by
  have := h.1; rw [flat_len MarkR.len] at this; omega
theorem spec_mark (f : Int) (k : Nat) (hf : inB f 1 3 = true) (h1 : 1 ≤ k) (h2 : k ≤ 3) (w : World) :
    Calls Tryz.prog 62 #[.int .i64 f, .int .i64 k] w fun e w' => e = .returned (.string (patM f k)) ∧ Below w.heap.size w w' := by
  obtain ⟨b, hb, hb2⟩ := markByte_in hf (inB_mk (x := (k : Int)) (lo := 1) (hi := 3) (by omega) (by omega))
  have := spec_l07Mark f k b w hf (inB_mk (by omega) (by omega)) hb hb2
  unfold patM
  rw [hb, Int.toNat_natCast]
  exact this
theorem code_pat {k : Nat} (h1 : 1 ≤ k) (h2 : k ≤ 3) : (patM 3 k).extract 10 (patM 3 k).size = codeG k := by
  have : k = 1 ∨ k = 2 ∨ k = 3 := by omega
  rcases this with rfl | rfl | rfl <;> decide +kernel

def gcrKTo (s : ByteArray) (k : Int) (j : Nat) : List MarkR := ((syncTo s s.size).take j).flatMap (fun r => gcrOne s r k)
theorem gcrKTo_succ {s : ByteArray} {k : Int} {j : Nat} {r : RunR} (h : (syncTo s s.size)[j]? = some r) : gcrKTo s k (j + 1) = gcrKTo s k j ++ gcrOne s r k := by
  unfold gcrKTo; rw [List.take_add_one, h, List.flatMap_append]; simp
theorem gcrKTo_all {s : ByteArray} {k : Int} {j : Nat} (h : (syncTo s s.size).length ≤ j) : gcrKTo s k j = gcrK s k := by
  unfold gcrKTo gcrK; rw [List.take_of_length_le h]
theorem gcrKTo_len (s : ByteArray) (k : Int) (j : Nat) : (gcrKTo s k j).length ≤ j := by
  have h : ∀ L : List RunR, (L.flatMap (fun r => gcrOne s r k)).length ≤ L.length := by
    intro L
    induction L with
    | nil => exact Nat.le_refl _
    | cons r L ih =>
      rw [List.flatMap_cons, List.length_append, List.length_cons]
      have : (gcrOne s r k).length ≤ 1 := by
        unfold gcrOne
        split <;> simp
      omega
  exact Nat.le_trans (h _) (by rw [List.length_take]; exact Nat.min_le_left _ _)
theorem gcrK_small {s : ByteArray} {k : Int} (h : s.size < 10) : gcrK s k = [] := by
  unfold gcrK
  rw [List.flatMap_eq_nil_iff]
  intro r hr
  obtain ⟨j, _, _, hs⟩ := syncTo_mem hr
  unfold syncAt at hs
  rw [Bool.and_eq_true, decide_eq_true_eq] at hs
  have := cnt_le s j
  omega
theorem pat3_size {k : Nat} (h1 : 1 ≤ k) (h2 : k ≤ 3) : (patM 3 k).size = 20 ∧ (codeG k).size = 10 := by
  have : k = 1 ∨ k = 2 ∨ k = 3 := by omega
  rcases this with rfl | rfl | rfl <;> decide +kernel

set_option maxHeartbeats 4000000 in
theorem spec_l07Marks (s : ByteArray) (f : Int) (w : World) (hv : validCells s = true) (hf : inB f 1 3 = true) :
    Calls Tryz.prog 35 #[.string s, .int .i64 f] w fun e w' => ∃ n g cap, e = .returned (.slice (some ⟨g, 0, none⟩) n cap) ∧ w'.ownsRow w.heap.size 51 3 (.slice (some ⟨g, 0, none⟩) n cap) n ((marksV s f).flatMap MarkR.cells) ∧ Below w.heap.size w w' := by
  obtain ⟨v1, v2, v3⟩ := valid_size hv
  have HSY := Hid.in_ (fun w => spec_l07Syncs s w v1 v2)
  have HMK := Hid.in_ (fun (k : Nat) (h1 : 1 ≤ k) (h2 : k ≤ 3) w => spec_mark f k hf h1 h2 w)
  have HPS := Hid.in_ (fun (k : Nat) (h1 : 1 ≤ k) (h2 : k ≤ 3) => pat_size (k := k) hf h1 h2)
  have HFN := Hid.in_ (fun p (hp : p.size ≤ 1048576) w => spec_l07Find s p w v1 (by omega) hp)
  have HFT := Hid.in_ (fun p a (hp : p.size ≤ 1048576) (ha : a ≤ 1048576) w => spec_l07Fits s p a w v1 (by omega) hp ha)
  have HKL := Hid.in_ (fun k => kTo_len (s := s) (f := f) v2 k)
  have HO0 := Hid.in_ (World.ownsRow_lit (e := 51) (base := w.heap.size) (size := 3) w #[] 0 (Nat.le_refl _) (by decide) (by decide))
  have HB0 := Hid.in_ (balloc (Below.refl w.heap.size w) (.cells #[] 51))
  clear hv v3
  go_enter Tryz.func35, Tryz.ntmps35
  go_wp2_with (go_at_call 61; refine (HSY.out _).mono ?_; rintro e w1 ⟨v7, rfl, ho7, hb7⟩; obtain ⟨A7, c7, rfl, hl7, hn7, hA7⟩ := own_shape ho7)
  have HO1 := Hid.in_ (own_below HO0.out hb7 (Nat.le_refl _))
  have HB1 := Hid.in_ (HB0.out.trans (hb7.mono HB0.out.size))
  have HA7 := Hid.in_ hA7
  have HN7 := Hid.in_ (syncTo_len s s.size)
  clear ho7 hb7 hA7 hl7 HO0 HB0
  go_loopg [6, 8] 3 (fun r v i wr => ∃ k n g cap : Nat, 1 ≤ k ∧ k + r = 4 ∧ i = .int .i64 k ∧ v = .slice (some ⟨g, 0, none⟩) n cap ∧ Hid (wr.ownsRow w.heap.size 51 3 (.slice (some ⟨g, 0, none⟩) n cap) n ((insM (kTo s f k)).flatMap MarkR.cells)) ∧ Hid (Below w1.heap.size w1 wr))
  case atStart => exact ⟨1, 0, _, _, by omega, by omega, by go_num, rfl, HO1, Below.refl _ _⟩
  case round =>
    obtain ⟨k, n, g, cap, hk1, hkm, rfl, rfl, HO, HB⟩ := hrel
    have HK := Hid.in_ hkm
    have hk4 : k ≤ 4 := by omega
    clear hkm
    by_cases hlt : k ≤ 3
    · by_cases hf3 : f = 3
      · subst hf3
        have hp20 := pat3_size hk1 hlt
        have hex := code_pat hk1 hlt
        have HM := Hid.in_ (HMK.out k hk1 hlt)
        have HKS := Hid.in_ (show kTo s 3 (k + 1) = kTo s 3 k ++ gcrK s k by rw [kTo_succ hk1]; unfold pieceK; rw [if_pos rfl])
        obtain ⟨p, hp⟩ : ∃ p, patM 3 k = p := ⟨_, rfl⟩
        obtain ⟨c, hc⟩ : ∃ c, codeG k = c := ⟨_, rfl⟩
        rw [hp, hc] at hp20 hex
        rw [hp] at HM
        obtain ⟨hps, hcs⟩ := hp20
        have HCG := Hid.in_ hc
        clear hp hc
        rw [hps] at hex
        by_cases hbig : s.size < 10
        · have HKN := Hid.in_ (show kTo s 3 (k + 1) = kTo s 3 k by rw [HKS.out, gcrK_small hbig, List.append_nil])
          go_wp2_with (go_at_call 62; refine (HM.out _).mono ?_; rintro e w2 ⟨rfl, hb2⟩; have HB2 := Hid.in_ (HB.out.trans (hb2.mono HB.out.size)); have HO2 := Hid.in_ (own_below HO.out hb2 (Nat.le_refl _)); clear hb2)
          have hk := HK.out
          go_roundg (gk - 1)
          case measure => omega
          case rel => exact ⟨k + 1, n, g, cap, by omega, by omega, by go_num, rfl, by rw [HKN.out]; exact HO2, HB2⟩
        · go_wp2_with (go_at_call 62; refine (HM.out _).mono ?_; rintro e w2 ⟨rfl, hb2⟩; have HB2 := Hid.in_ (HB.out.trans (hb2.mono HB.out.size)); have HO2 := Hid.in_ (own_below HO.out hb2 (Nat.le_refl _)); clear hb2)
          obtain ⟨gO, rfl⟩ : ∃ g, g = gk := ⟨_, rfl⟩
          obtain ⟨wo, rfl⟩ : ∃ wo : World, wo = wr := ⟨_, rfl⟩
          clear HB HO
          have HO4 := Hid.in_ (show w2.ownsRow w.heap.size 51 3 (.slice (some ⟨g, 0, none⟩) n cap) n ((insM (kTo s 3 k ++ gcrKTo s k 0)).flatMap MarkR.cells) by
            rw [show gcrKTo s k 0 = [] from rfl, List.append_nil]; exact HO2.out)
          go_loopg [6, 13] (syncTo s s.size).length (fun r v i wi => ∃ j n g cap : Nat, j + r = (syncTo s s.size).length ∧ i = .int .i64 j ∧ v = .slice (some ⟨g, 0, none⟩) n cap ∧ Hid (wi.ownsRow w.heap.size 51 3 (.slice (some ⟨g, 0, none⟩) n cap) n ((insM (kTo s 3 k ++ gcrKTo s k j)).flatMap MarkR.cells)) ∧ Hid (Below w1.heap.size w1 wi))
          case atStart => exact ⟨0, n, g, cap, by omega, rfl, rfl, HO4, HB2⟩
          case round =>
            clear HO4 HO2
            obtain ⟨j, n5, g5, cap5, hjm, rfl, rfl, HO5, HB5⟩ := hrel
            have HJ := Hid.in_ hjm
            have hn7' := HN7.out
            have hjC : j ≤ (syncTo s s.size).length := by omega
            clear hjm
            have hn5 : n5 ≤ 100000 := by
              rw [own_n HO5.out, insM_len, List.length_append]
              have := HKL.out k
              have := gcrKTo_len s k j
              omega
            by_cases hjl : j < (syncTo s s.size).length
            · obtain ⟨r, hr⟩ := get_lt (syncTo s s.size) j hjl
              have HKT := Hid.in_ (gcrKTo_succ (k := k) hr)
              obtain ⟨i, rfl, hi, hsy⟩ := syncTo_mem (List.mem_of_getElem? hr)
              obtain ⟨q, hq⟩ : ∃ q, cnt s i = q := ⟨_, rfl⟩
              have hqs : q ≤ s.size := by rw [← hq]; exact cnt_le s i
              rw [hq] at hr HKT
              obtain ⟨e, he⟩ : ∃ e, i + q = e := ⟨_, rfl⟩
              have heE : (i : Int) + (q : Int) = (e : Int) := by omega
              have hwe : IntKind.i64.wrap ((i : Int) + (q : Int)) = (e : Int) := by rw [heE]; simp [IntKind.wrap, IntKind.bits, IntKind.signed]; omega
              have hee : e ≤ 16000 := by omega
              have HEND := Hid.in_ (show endG ⟨(i : Int), ((q : Nat) : Int)⟩ = e by unfold endG; show ((i : Int) + (q : Int)).toNat = e; omega)
              obtain ⟨g7, rfl, _, hg7, hx7, _⟩ := HA7.out (by omega)
              have hbx := (Box.elem RunR.len hx7 hr).step HB5.out
              have cx : wr.cell? ⟨g7, j * 2, none⟩ = some (.int .i64 (i : Int)) := by have := hbx 0 _ rfl; simpa using this
              have cy : wr.cell? ⟨g7, j * 2 + 1, none⟩ = some (.int .i64 (q : Int)) := hbx 1 _ rfl
              have hg7i : g7 < wr.heap.size := Nat.lt_of_lt_of_le hg7 HB5.out.size
              have HBX := Hid.in_ (Box.elem RunR.len hx7 hr)
              clear hr hx7 hbx hsy hq he
              go_wp2_with fail
              go_quiet (fail)
              go_wp2_with fail
              refine (HFT.out c e (by omega) (by omega) _).mono ?_
              rintro e4 w4 ⟨rfl, hb4⟩
              have HB6 := Hid.in_ ((below_drewN HB5.out _).trans (hb4.mono HB5.out.size))
              have HO6 := Hid.in_ (own_below (show (wr.drewN nq).ownsRow _ _ _ _ _ _ from HO5.out) hb4 (Nat.le_refl _))
              clear hb4 cx cy HB5 HO5
              cases hf2 : fitsB s c e
              · have HS := Hid.in_ (show gcrKTo s k (j + 1) = gcrKTo s k j by rw [HKT.out, gcrOne_no (by unfold hitG; rw [HCG.out, HEND.out]; exact hf2), List.append_nil])
                have hj := HJ.out
                go_wp2
                go_roundg (gk - 1)
                case measure => omega
                case rel => exact ⟨j + 1, n5, g5, cap5, by omega, by go_num, rfl, by rw [HS.out]; exact HO6, HB6⟩
              · have hbx4 := HBX.out.step HB6.out
                have cx : w4.cell? ⟨g7, j * 2, none⟩ = some (.int .i64 (i : Int)) := by have := hbx4 0 _ rfl; simpa using this
                have hg7j : g7 < w4.heap.size := Nat.lt_of_lt_of_le hg7 HB6.out.size
                obtain ⟨bq, hbq⟩ : ∃ bq : Int, ((e : Int) + 10) % (s.size : Int) = bq := ⟨_, rfl⟩
                have HS := Hid.in_ (show gcrKTo s k (j + 1) = gcrKTo s k j ++ [⟨(k : Int), (i : Int), bq⟩] by
                  rw [HKT.out, gcrOne_yes (by unfold hitG; rw [HCG.out, HEND.out]; exact hf2), HEND.out, hbq])
                have hb1 : 0 ≤ bq := by rw [← hbq]; exact Int.emod_nonneg _ (by omega)
                have hb2 : bq < (s.size : Int) := by rw [← hbq]; exact Int.emod_lt_of_pos _ (by omega)
                have htm : ((e : Int) + 10).tmod (s.size : Int) = bq := by rw [Int.tmod_eq_emod_of_nonneg (by omega)]; exact hbq
                have hwr : IntKind.i64.wrap ((e : Int) + 10) = (e : Int) + 10 := by simp [IntKind.wrap, IntKind.bits, IntKind.signed]; omega
                have hnz : ¬ (s.size : Int) = 0 := by omega
                have hnz2 : ¬ s.size = 0 := by omega
                have hnp : (0 : Int) < s.size := by omega
                have hwb : IntKind.i64.wrap bq = bq := by simp [IntKind.wrap, IntKind.bits, IntKind.signed]; omega
                clear hbq hbx4 heE hwe
                go_wp2_with fail
                go_still_tail 13, (by kernel_rfl)
                go_wp2_with fail
                refine (spec_l07Put ⟨(k : Int), (i : Int), bq⟩ w4.drew HO6.out hn5).mono ?_
                rintro e5 w5 ⟨g6, cap6, rfl, ho6, hb6⟩
                have HO7 := Hid.in_ (show w5.ownsRow w.heap.size 51 3 (.slice (some ⟨g6, 0, none⟩) (n5 + 1 : Nat) cap6) (n5 + 1) ((insM (kTo s 3 k ++ gcrKTo s k (j + 1))).flatMap MarkR.cells) by
                  rw [HS.out, ← List.append_assoc, insM_snoc]
                  exact own_base ho6 (Nat.le_trans HB1.out.size HB6.out.size))
                have HB7 := Hid.in_ (show Below w1.heap.size w1 w5 from HB6.out.drew.trans (hb6.mono HB6.out.size))
                clear ho6 hb6
                have hj := HJ.out
                go_wp2
                go_roundg (gk - 1)
                case measure => omega
                case rel => exact ⟨j + 1, n5 + 1, g6, cap6, by omega, by go_num, rfl, HO7, HB7⟩
            · have hj := HJ.out
              have hk := HK.out
              have HO6 := Hid.in_ (show wr.ownsRow w.heap.size 51 3 (.slice (some ⟨g5, 0, none⟩) n5 cap5) n5 ((insM (kTo s 3 (k + 1))).flatMap MarkR.cells) by
                rw [HKS.out, ← gcrKTo_all (j := j) (by omega)]
                exact HO5.out)
              go_wp2
              go_roundg (gO - 1)
              case measure => omega
              case rel => exact ⟨k + 1, n5, g5, cap5, by omega, by omega, by go_num, rfl, HO6, HB5⟩
      · have hff : (f == 3) = false := by simpa using hf3
        have hff2 : (f != 3) = true := by simpa using hf3
        have hp64 := HPS.out k hk1 hlt
        have HM := Hid.in_ (HMK.out k hk1 hlt)
        have HKS := Hid.in_ (show kTo s f (k + 1) = kTo s f k ++ kindL s (patM f k) k by rw [kTo_succ hk1]; unfold pieceK; rw [if_neg hf3])
        obtain ⟨p, hp⟩ : ∃ p, patM f k = p := ⟨_, rfl⟩
        rw [hp] at HM HKS hp64
        clear hp hf3
        obtain ⟨C, hC⟩ : ∃ C, (placesTo (fitsB s p) s.size).length = C := ⟨_, rfl⟩
        have hCN : C ≤ s.size := by rw [← hC]; exact placesTo_len _ _
        have HF0 := HFN.out p (by omega)
        rw [hC] at HF0
        have HF := Hid.in_ HF0
        have HC := Hid.in_ hC
        clear HF0 hC
        by_cases hbig : p.size ≤ s.size
        · go_wp2_with (first
            | (go_at_call 62; refine (HM.out _).mono ?_; rintro e w2 ⟨rfl, hb2⟩; have HB2 := Hid.in_ (HB.out.trans (hb2.mono HB.out.size)); have HO2 := Hid.in_ (own_below HO.out hb2 (Nat.le_refl _)); clear hb2)
            | (go_at_call 63; refine (HF.out _).mono ?_; rintro e w3 ⟨v11, rfl, ho11, hb3⟩; obtain ⟨A11, c11, rfl, hl11, hn11, hA11⟩ := own_shape ho11; have HB3 := Hid.in_ (HB2.out.trans (hb3.mono HB2.out.size)); have HO3 := Hid.in_ (own_below HO2.out hb3 (Nat.le_refl _)); have HA11 := Hid.in_ hA11; clear ho11 hb3 hA11 hl11))
          obtain ⟨gO, rfl⟩ : ∃ g, g = gk := ⟨_, rfl⟩
          obtain ⟨wo, rfl⟩ : ∃ wo : World, wo = wr := ⟨_, rfl⟩
          clear HB HO HB2 HO2
          have HO4 := Hid.in_ (show w3.ownsRow w.heap.size 51 3 (.slice (some ⟨g, 0, none⟩) n cap) n ((insM (kTo s f k ++ kindTo s p k 0)).flatMap MarkR.cells) by
            rw [show kindTo s p k 0 = [] from rfl, List.append_nil]; exact HO3.out)
          go_loopg [6, 12] C (fun r v i wi => ∃ j n g cap : Nat, j + r = C ∧ i = .int .i64 j ∧ v = .slice (some ⟨g, 0, none⟩) n cap ∧ Hid (wi.ownsRow w.heap.size 51 3 (.slice (some ⟨g, 0, none⟩) n cap) n ((insM (kTo s f k ++ kindTo s p k j)).flatMap MarkR.cells)) ∧ Hid (Below w3.heap.size w3 wi))
          case atStart => exact ⟨0, n, g, cap, by omega, rfl, rfl, HO4, Below.refl _ _⟩
          case round =>
            clear HO4 HO3
            obtain ⟨j, n5, g5, cap5, hjm, rfl, rfl, HO5, HB5⟩ := hrel
            have HJ := Hid.in_ hjm
            have hjC : j ≤ C := by omega
            clear hjm
            have hn5 : n5 ≤ 100000 := by
              rw [own_n HO5.out, insM_len, List.length_append]
              have := HKL.out k
              have := kindTo_len s p k j
              omega
            have HB6 := Hid.in_ (HB3.out.trans (HB5.out.mono HB3.out.size))
            by_cases hjl : j < C
            · obtain ⟨x, hx⟩ := get_lt (placesTo (fitsB s p) s.size) j (by rw [HC.out]; exact hjl)
              obtain ⟨q, rfl, hqn, _⟩ := placesTo_mem (List.mem_of_getElem? hx)
              have HKT := Hid.in_ (kindTo_succ (s := s) (p := p) (k := k) hx)
              obtain ⟨g11, rfl, _, hg11, hx11, _⟩ := HA11.out (by omega)
              have cx : wr.cell? ⟨g11, j, none⟩ = some (.int .i64 (q : Int)) := (hx11.step HB5.out) j _ (by unfold I64; rw [List.getElem?_map, hx]; rfl)
              have hg11i : g11 < wr.heap.size := Nat.lt_of_lt_of_le hg11 HB5.out.size
              clear hx hx11
              obtain ⟨bq, hbq⟩ : ∃ bq : Int, ((q : Int) + (p.size : Int)) % (s.size : Int) = bq := ⟨_, rfl⟩
              have HMK2 := Hid.in_ (show mkAt s.size p k (q : Int) = ⟨(k : Int), (q : Int), bq⟩ by unfold mkAt; rw [hbq])
              have hb1 : 0 ≤ bq := by rw [← hbq]; exact Int.emod_nonneg _ (by omega)
              have hb2 : bq < (s.size : Int) := by rw [← hbq]; exact Int.emod_lt_of_pos _ (by omega)
              have htm : ((q : Int) + (p.size : Int)).tmod (s.size : Int) = bq := by rw [Int.tmod_eq_emod_of_nonneg (by omega)]; exact hbq
              have hwr : IntKind.i64.wrap ((q : Int) + (p.size : Int)) = (q : Int) + (p.size : Int) := by simp [IntKind.wrap, IntKind.bits, IntKind.signed]; omega
              have hnz : ¬ (s.size : Int) = 0 := by omega
              have hnz2 : ¬ s.size = 0 := by omega
              have hnp : (0 : Int) < s.size := by omega
              have hwb : IntKind.i64.wrap bq = bq := by simp [IntKind.wrap, IntKind.bits, IntKind.signed]; omega
              clear hbq
              go_wp2_with fail
              go_still_tail 15, (by kernel_rfl)
              go_wp2_with fail
              refine (spec_l07Put ⟨(k : Int), (q : Int), bq⟩ wr.drew HO5.out hn5).mono ?_
              rintro e w5 ⟨g6, cap6, rfl, ho6, hb6⟩
              have HO6 := Hid.in_ (show w5.ownsRow w.heap.size 51 3 (.slice (some ⟨g6, 0, none⟩) (n5 + 1 : Nat) cap6) (n5 + 1) ((insM (kTo s f k ++ kindTo s p k (j + 1))).flatMap MarkR.cells) by
                rw [HKT.out, ← List.append_assoc, insM_snoc, HMK2.out]
                exact own_base ho6 (Nat.le_trans HB1.out.size HB6.out.size))
              have HB7 := Hid.in_ (show Below w3.heap.size w3 w5 from HB5.out.drew.trans (hb6.mono HB5.out.size))
              clear ho6 hb6
              have hj := HJ.out
              go_wp2
              go_roundg (gk - 1)
              case measure => omega
              case rel => exact ⟨j + 1, n5 + 1, g6, cap6, by omega, by go_num, rfl, HO6, HB7⟩
            · have hj := HJ.out
              have hk := HK.out
              have HO6 := Hid.in_ (show wr.ownsRow w.heap.size 51 3 (.slice (some ⟨g5, 0, none⟩) n5 cap5) n5 ((insM (kTo s f (k + 1))).flatMap MarkR.cells) by
                rw [HKS.out, ← kindTo_all (j := j) hbig (by rw [HC.out]; omega)]
                exact HO5.out)
              go_wp2
              go_roundg (gO - 1)
              case measure => omega
              case rel => exact ⟨k + 1, n5, g5, cap5, by omega, by omega, by go_num, rfl, HO6, HB6⟩
        · have HKN := Hid.in_ (show kTo s f (k + 1) = kTo s f k by rw [HKS.out, kindL_long (by omega), List.append_nil])
          go_wp2_with (go_at_call 62; refine (HM.out _).mono ?_; rintro e w2 ⟨rfl, hb2⟩; have HB2 := Hid.in_ (HB.out.trans (hb2.mono HB.out.size)); have HO2 := Hid.in_ (own_below HO.out hb2 (Nat.le_refl _)); clear hb2)
          have hk := HK.out
          go_roundg (gk - 1)
          case measure => omega
          case rel => exact ⟨k + 1, n, g, cap, by omega, by omega, by go_num, rfl, by rw [HKN.out]; exact HO2, HB2⟩
    · have hk := HK.out
      obtain rfl : k = 4 := by omega
      go_wp2
      go_ret
      exact ⟨n, g, cap, rfl, by rw [← kTo_all]; exact HO.out, HB1.out.trans (HB.out.mono HB1.out.size)⟩
end Go.Proofs.YtlelgpknkgjaeaaGreatDoor
