/- 'VoteBytes' of the program and of the reference. -/
import Derived.Test.YtlelgpknkgjaeaaVoteS
import Derived.Test.YtlelgpknkgjaeaaWr
import Derived.Deep.RegionWith
import Derived.BigQuiet
namespace Go.Proofs.Ytlelgpknkgjaeaa
open Go.ChangeShapes Go.WideShapes Go.ChangeAt Go.RowKit
set_option linter.unusedSimpArgs false
set_option linter.unusedVariables false
set_option maxRecDepth 4000

theorem okVote_len {l : List ByteArray} (h : inB l.length 1 64 = false) : okVote l = false := by
  unfold okVote
  rw [decide_eq_false (fun hh => by rw [inB_mk (by omega) (by omega)] at h; cases h), Bool.false_and]
def cntL (l : List ByteArray) (k j : Nat) : List Int := (List.range 256).map fun b => (cntTo l k (UInt8.ofNat b) j : Nat)
theorem cntL_at (l : List ByteArray) (k j : Nat) {b : Nat} (h : b < 256) : (I64 (cntL l k j))[b]? = some (.int .i64 (cntTo l k (UInt8.ofNat b) j : Nat)) := I64_get (by unfold cntL; rw [List.getElem?_map, List.getElem?_range h]; rfl)
theorem cntL_len (l : List ByteArray) (k j : Nat) : (I64 (cntL l k j)).length = 256 := by rw [I64_len]; unfold cntL; rw [List.length_map, List.length_range]
theorem cntL_zero (l : List ByteArray) (k : Nat) : I64 (cntL l k 0) = List.replicate 256 (.int .i64 0) := by
  apply List.ext_getElem?
  intro i
  by_cases h : i < 256
  · rw [cntL_at l k 0 h, List.getElem?_replicate, if_pos h]; rfl
  · rw [List.getElem?_eq_none (by rw [cntL_len]; omega), List.getElem?_eq_none (by rw [List.length_replicate]; omega)]
theorem cntL_next {l : List ByteArray} {k j : Nat} {d : UInt8} (h : colAt l k j = d) : (I64 (cntL l k j)).set d.toNat (.int .i64 ((cntTo l k d j : Nat) + 1)) = I64 (cntL l k (j + 1)) := by
  have hd := d.toNat_lt
  apply List.ext_getElem?
  intro i
  by_cases hi : i < 256
  · rw [cntL_at l k (j + 1) hi]
    by_cases he : d.toNat = i
    · subst he
      rw [List.getElem?_set_self (by rw [cntL_len]; exact hi), UInt8.ofNat_toNat, cnt_next1 h]
      rfl
    · rw [List.getElem?_set_ne he, cntL_at l k j hi, cnt_next0 (by rw [h]; intro e; apply he; rw [e, UInt8.toNat_ofNat', Nat.mod_eq_of_lt (by omega)])]
  · rw [List.getElem?_eq_none (by rw [List.length_set, cntL_len]; omega), List.getElem?_eq_none (by rw [cntL_len]; omega)]
theorem Try.infoInt_v : (Try.prog.info? 3).map (fun i => (i.zero, i.size, i.bytes)) = some (some (.int .i64 0), 1, 8) := by kernel_rfl
theorem Try.cnt_index {cs : Array Value} {k : Nat} {v : Value} (hk : k < 256) (hv : cs[k]? = some v) (w : World) : (Instr.index 110 (.agg cs) (.int .i64 (k : Int))).run Try.prog w = .ok v w := by
  obtain ⟨i0, hti, hz0, hz1, hz2⟩ := info_parts Try.infoInt_v
  have hp := run_part_plain (P := Try.prog) (e := 3) w (by kernel_rfl) hv
  have h1 : (0 : Int) ≤ (k : Int) ∧ (k : Int) < ((256 : Nat) : Int) := by omega
  simp [Instr.index, run_underlying Try.underlying110, asIntOf, h1, sizeOf, typeInfo, hti, hz1, hk, hv, go_sem]
theorem Try.zero256 (l : List ByteArray) (k : Nat) : Try.zeroCells110 = (I64 (cntL l k 0)).toArray := by
  rw [cntL_zero]
  rfl
/-- The counts of a place so far: block C. -/
structure VSt (l : List ByteArray) (N k j G C : Nat) (w wr : World) : Prop where
  row : wr.ownsRow G 5 1 (.slice (some ⟨G, 0, none⟩) N N) N (Lib.byteCells (fillR (voteTo l N) 0 k))
  bel : Below G w wr
  cnt : wr.heap[C]? = some (.cells (I64 (cntL l k j)).toArray 110 (0, 0))
  GC : G < C
theorem VSt.cell {l : List ByteArray} {N k j G C : Nat} {w wr : World} (h : VSt l N k j G C w wr) {b : Nat} (hb : b < 256) : wr.cell? ⟨C, b, none⟩ = some (.int .i64 (cntTo l k (UInt8.ofNat b) j : Nat)) := by
  rw [Lib.cell_of_heap h.cnt]
  simpa using cntL_at l k j hb
theorem VSt.put {l : List ByteArray} {N k j G C : Nat} {w wr : World} (h : VSt l N k j G C w wr) {d : UInt8} (hd : colAt l k j = d) :
    VSt l N k (j + 1) G C w (wr.setCell ⟨C, d.toNat, none⟩ (.int .i64 ((cntTo l k d j : Nat) + 1))) := by
  have hGC := h.GC
  refine ⟨h.row.kept (setCell_grown wr C d.toNat _) (.inr fun e => Nat.ne_of_lt hGC (by simpa [Value.ownBlock] using e)), h.bel.setCell (p := ⟨C, d.toNat, none⟩) (show G ≤ C by omega) _, ?_, hGC⟩
  rw [heap_setCell_same wr C d.toNat _ _ _ h.cnt, ← cntL_next hd]
  simp
theorem vote_fill {M : List UInt8} {k X : Nat} {c : UInt8} (h : M[k]? = some c) (hX : (c.toNat : Int) = (X : Int)) : (Lib.byteCells (fillR M 0 k)).set k (.int .u8 (X : Int)) = Lib.byteCells (fillR M 0 (k + 1)) := by
  rw [← hX, byteCells_set, fillR_set h]
set_option maxHeartbeats 4000000 in
theorem impl_voteBytes {v : Value} {n b N : Nat} {l : List ByteArray} (w : World) (h : w.ownsRow b 9 1 v n (Strs l)) (h0 : 0 < n) (hk : ∀ s ∈ l, s.size = N) (hN2 : N ≤ 1024) (hn : n ≤ 1048576) :
    Calls Try.prog 46 #[v] w fun e w' => e = .returned (.string ⟨(voteTo l N).toArray⟩) ∧ Below w.heap.size w w' := by
  obtain ⟨i0, hti, hz0, hz1, hz2⟩ := info_parts Try.infoU8v
  have hlx : l.length = n := by have := h.1; rw [Strs_len] at this; omega
  obtain ⟨A, c, rfl, _, _, hA⟩ := own_shape h
  have HL := Hid.in_ hlx
  have HZ := Hid.in_ hk
  obtain ⟨g, rfl, _, hg, hx, _⟩ := hA h0
  obtain ⟨s0, hs0⟩ := get_lt l 0 (by omega)
  have HX := Hid.in_ hx
  have HS0 := Hid.in_ hs0
  have hsz0 := hk s0 (List.mem_of_getElem? hs0)
  have c0 := hx 0 _ (Strs_get hs0)
  clear hA h hlx hk hx hs0
  go_enter Try.func46, Try.ntmps46
  go_wp2_with (at_make; refine wpList_make_full _ rfl _ _ _ rfl w.heap.size 5 i0 _ 1 Try.underlying107 hti hz0 hz1 _ _ _ _ N rfl rfl rfl rfl (by rw [hz2]; omega) (by unfold maxLen; omega) (Nat.le_refl _) ?_; intro w2 hown hgrow)
  have HO : Hid (w2.ownsRow w.heap.size 5 1 (.slice (some ⟨w.heap.size, 0, none⟩) N N) N (Lib.byteCells (fillR (voteTo l N) 0 0)) ∧ Below w.heap.size w w2) := by
    refine ⟨?_, (Below.refl _ _).grown hgrow (Nat.le_refl _) (by simp)⟩
    have h : (madeCells (Value.int .u8 0).cells (N * 1)).toList = Lib.byteCells (fillR (voteTo l N) 0 0) := by
      show (madeCells #[Value.int .u8 0] (N * 1)).toList = _
      rw [toList_madeCells_one, fillR_none, voteTo_len]
      simp [Lib.byteCells]
    rw [← h]
    exact hown
  obtain ⟨G, hG⟩ : ∃ G, w.heap.size = G := ⟨_, rfl⟩
  have HG := Hid.in_ hG
  rw [hG] at HO ⊢
  clear hown hgrow hG c0
  go_loopg [18] N (fun m i wr => ∃ k : Nat, k + m = N ∧ i = .int .i64 k ∧ Hid (wr.ownsRow G 5 1 (.slice (some ⟨G, 0, none⟩) N N) N (Lib.byteCells (fillR (voteTo l N) 0 k)) ∧ Below G w wr))
  case atStart => exact ⟨0, by omega, rfl, HO⟩
  case round =>
    clear HO
    obtain ⟨k, hkm, rfl, HO⟩ := hrel
    have HK := Hid.in_ hkm
    clear hkm
    by_cases hlt : k < N
    · have HBL := Hid.in_ (fun X (h : bestTo l k 256 = X) => voteB_nat h)
      obtain ⟨C, hC⟩ : ∃ C, wr.heap.size = C := ⟨_, rfl⟩
      have hGC : G < C := by have := (HO.out.1.lt G rfl).2; omega
      have HV := Hid.in_ (show VSt l N k 0 G C w (wr.alloc (.cells Try.zeroCells110 110)) from ⟨ostep (balloc (Below.refl _ _) _) HO.out.1, HO.out.2.alloc (by omega) _, by rw [Try.zero256 l k, ← hC]; exact heap_alloc_new wr _, hGC⟩)
      go_wp2_with fail
      generalize wr.alloc (.cells Try.zeroCells110 110) = w3 at *
      clear HO hC
      obtain ⟨gO, rfl⟩ : ∃ g, g = gk := ⟨_, rfl⟩
      go_loopg [23] n (fun m i wi => ∃ j : Nat, j + m = n ∧ i = .int .i64 j ∧ Hid (VSt l N k j G C w wi))
      case atStart => exact ⟨0, by omega, rfl, HV⟩
      case round =>
        clear HV
        obtain ⟨j, hjm, rfl, HV⟩ := hrel
        have HJ := Hid.in_ hjm
        clear hjm
        by_cases hlj : j < n
        · obtain ⟨s, hs⟩ := get_lt l j (by rw [HL.out]; exact hlj)
          have hgw : g < G := by have := HG.out; omega
          have c1 := (HV.out.bel.cell (p := ⟨g, j, none⟩) hgw).trans (HX.out j _ (Strs_get hs))
          have hsz := HZ.out s (List.mem_of_getElem? hs)
          have hks : k < s.size := by omega
          obtain ⟨d, hd⟩ : ∃ d : UInt8, s[k] = d := ⟨_, rfl⟩
          have hcol := colAt_val hs hks hd
          have c2 := HV.out.cell (b := d.toNat) (by have := d.toNat_lt; omega)
          rw [UInt8.ofNat_toNat] at c2
          have f2 := Lib.frozen_of_heap HV.out.cnt d.toNat
          have HV2 := Hid.in_ (HV.out.put hcol)
          have hle := cntTo_le l k d j
          have hd256 : d.toNat < 256 := by have := d.toNat_lt; omega
          clear hs hcol HV
          generalize cntTo l k d j = X at *
          go_wp2
          have hj := HJ.out
          go_roundg (gk - 1)
          case measure => omega
          case rel => exact ⟨j + 1, by omega, by go_num, HV2⟩
        · have hj := HJ.out
          obtain rfl : j = n := by omega
          go_wp2_with (refine wpList_load_row rfl 110 _ rfl C rfl 110 _ (0, 0) _ HV.out.cnt Try.underlying110 rfl (by rw [List.size_toArray, cntL_len]; kernel_rfl) ?_)
          have HCI := Hid.in_ (fun (q : Nat) (hq : q < 256) (w : World) => Try.cnt_index (cs := (I64 (cntL l k j)).toArray) (v := .int .i64 (cntTo l k (UInt8.ofNat q) j : Nat)) hq (by simpa using cntL_at l k j hq) w)
          have HCC := Hid.in_ (fun (q : Nat) (hq : q < 256) => HV.out.cell hq)
          have HNN := Hid.in_ (show ∀ q, cntN l k q = cntTo l k (UInt8.ofNat q) j from fun q => by unfold cntN; rw [HL.out])
          generalize (I64 (cntL l k j)).toArray = CS at *
          go_loopg [8, 36] 256 (fun m be i wi => ∃ q : Nat, q + m = 256 ∧ i = .int .i64 q ∧ be = .int .i64 (bestTo l k q : Nat) ∧ wr = wi)
          case atStart => exact ⟨0, by omega, rfl, rfl, rfl⟩
          case round =>
            obtain ⟨q, hqm, rfl, rfl, rfl⟩ := hrel
            have HQ := Hid.in_ hqm
            clear hqm
            have hbl := bestTo_le l k q
            by_cases hlq : q < 256
            · have d1 := fun w => HCI.out q hlq w
              have d2 := HCC.out (bestTo l k q) (by omega)
              have HY := Hid.in_ (And.intro (fun h => bestTo_yes (l := l) (k := k) (m := q) h) (fun h => bestTo_no (l := l) (k := k) (m := q) h))
              rw [HNN.out, HNN.out] at HY
              have l1 := cntTo_le l k (UInt8.ofNat q) j
              have l2 := cntTo_le l k (UInt8.ofNat (bestTo l k q)) j
              generalize cntTo l k (UInt8.ofNat (bestTo l k q)) j = Y at *
              generalize cntTo l k (UInt8.ofNat q) j = X at *
              by_cases hxy : Y < X
              · have HY2 := Hid.in_ (HY.out.1 hxy)
                generalize bestTo l k q = B at *
                go_wp2
                have hq := HQ.out
                go_roundg (gk - 1)
                case measure => omega
                case rel => exact ⟨q + 1, by omega, by go_num, by rw [HY2.out], rfl⟩
              · have HY2 := Hid.in_ (HY.out.2 hxy)
                have HB := Hid.in_ (rfl : bestTo l k q = bestTo l k q)
                go_wp2
                have hq := HQ.out
                go_roundg (gk - 1)
                case measure => omega
                case rel => exact ⟨q + 1, by omega, by go_num, by rw [HY2.out], rfl⟩
            · have hq := HQ.out
              obtain rfl : q = 256 := by omega
              clear hq hlq HCI HCC HNN
              obtain ⟨X, hX⟩ : ∃ X, bestTo l k 256 = X := ⟨_, rfl⟩
              have hXw : IntKind.u8.wrap (X : Int) = (X : Int) := IntWalk.u8_in _ (by omega)
              have HXN := Hid.in_ (HBL.out X hX)
              rw [hX]
              clear hX hbl
              have f1 := HV.out.row.cellAt k (by omega)
              obtain ⟨u, hu⟩ := get_lt (Lib.byteCells (fillR (voteTo l N) 0 k)) k (by rw [Lib.byteCells_length, fillR_len _ _ _ (by rw [voteTo_len]; omega), voteTo_len]; exact hlt)
              rw [hu] at f1
              have f2 := HV.out.row.frozenAt k
              have HF := Hid.in_ (And.intro (HV.out.row.stored k (.int .u8 (X : Int))).1 (HV.out.bel.setCell (p := ⟨G, k, none⟩) (Nat.le_refl _) (.int .u8 (X : Int))))
              rw [vote_fill (voteTo_get l hlt) HXN.out] at HF
              clear hu HV
              go_wp2
              have hk := HK.out
              go_roundg (gO - 1)
              case measure => omega
              case rel => exact ⟨k + 1, by omega, by go_num, HF⟩
    · have hk := HK.out
      obtain rfl : k = N := by omega
      have hO := HO.out.1
      have hfa := fillR_all (voteTo l k) 0
      rw [voteTo_len] at hfa
      rw [hfa] at hO
      have hc := conv_own Try.underlying107 Try.underlying5 Try.underlying9 hO
      clear hO hfa
      go_wp2
      go_ret
      exact ⟨rfl, by rw [HG.out]; exact HO.out.2⟩
end Go.Proofs.Ytlelgpknkgjaeaa
