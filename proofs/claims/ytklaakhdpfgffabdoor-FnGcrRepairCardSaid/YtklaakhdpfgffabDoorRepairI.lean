/- 'RepairGcr' of the program: the nearest code of every group that is of no value. -/
import Derived.Test.YtklaakhdpfgffabDoorRepair
import Derived.Test.YtklaakhdpfgffabDoorKeep
import Derived.Test.YtklaakhdpfgffabDoorShelfC
import Derived.Test.YtklaakhdpfgffabDoorStr
namespace Go.Proofs.YtklaakhdpfgffabDoor
open Go.ChangeShapes Go.WideShapes Go.ChangeAt Go.RowKit
set_option linter.unusedSimpArgs false
set_option linter.unusedVariables false
set_option maxRecDepth 20000

/-- A row of another type than the builder's, over a read of the builder. -/
theorem own_others {w w' : World} {base s n b : Nat} {e T u : TypeId} {v : Value} {xs : List Value} {cs : Array Value} (h : w.ownsRow base e s v n xs) (hk : Lib.OthersKept u (some b) w w') (hu : e ≠ u) (hT : e ≠ T) (hb : w.heap[b]? = some (.cells cs T (0, 0))) : w'.ownsRow base e s v n xs := by
  refine ⟨h.1, ?_⟩
  rcases h.2 with hn | ⟨g, cap, cur, hv, hbg, hg, rest⟩
  · exact .inl hn
  · refine .inr ⟨g, cap, cur, hv, hbg, ?_, rest⟩
    refine hk g _ hg (fun e1 => ?_) (fun c fz e1 => ?_)
    · injection e1 with e1
      subst e1
      rw [hg] at hb
      injection hb with hb
      injection hb with _ hb
      exact hT hb
    · injection e1 with _ e1
      exact hu e1
theorem builder_block {w : World} {B b : Nat} {e T : TypeId} {bs : List Value} (h : Lib.IsBuilder T e B b bs w) : ∃ cs, w.heap[b]? = some (.cells cs T (0, 0)) := by
  rcases h with ⟨_, v, hb, _⟩ | ⟨_, v, hb, _⟩
  · exact ⟨_, hb⟩
  · exact ⟨_, hb⟩
theorem builder_base {w : World} {B B' b : Nat} {e T : TypeId} {bs : List Value} (h : Lib.IsBuilder T e B b bs w) (hB : B' ≤ B) : Lib.IsBuilder T e B' b bs w := by
  rcases h with ⟨h1, v, hb, ho, hne⟩ | ⟨h1, v, hb, ho, hne⟩
  · exact .inl ⟨Nat.le_trans hB h1, v, hb, own_base ho hB, hne⟩
  · exact .inr ⟨Nat.le_trans hB h1, v, hb, own_base ho hB, hne⟩
theorem repB_next (s : ByteArray) (k : Nat) : Lib.byteCells (repS s k).data.toList ++ Lib.strCells (gcrCode (best (grpAt s k))) = Lib.byteCells (repS s (k + 1)).data.toList := by
  show _ = Lib.byteCells (repS s k ++ gcrCode (best (grpAt s k))).data.toList
  rw [strCells_eq, ByteArray.data_append, Array.toList_append]
  unfold Lib.byteCells
  rw [List.map_append]
theorem best_in {s : ByteArray} {k : Nat} (hc : cellStr s = true) (h : 5 * k + 5 ≤ s.size) : ∃ v : Nat, v < 16 ∧ (∃ l, nearest (grpAt s k) = (v : Int) :: l) ∧ gcrCode (best (grpAt s k)) = gcrS v := by
  obtain ⟨x, l, hx, h0, h1⟩ := nearest_some (grpAt_grp hc h)
  obtain ⟨v, rfl⟩ := Int.eq_ofNat_of_zero_le h0
  refine ⟨v, by omega, ⟨l, hx⟩, ?_⟩
  unfold best
  rw [hx]
  show gcrCode (v : Int) = _
  rw [gcrCode_yes (by unfold inB; simp; omega)]
  rfl
set_option maxHeartbeats 4000000 in
theorem impl_RepairGcr (s : ByteArray) (w : World) (hs : s.size ≤ 1048576) (hT : Tab w) :
    Calls Tryd.prog 16 #[.string s] w fun e w' => ∃ v, e = .returned (.tuple #[.string (repV s), v, .bool (isGrps s)]) ∧ w'.ownsRow w.heap.size 2 1 v (repD s).length (I64 (repD s)) ∧ Below w.heap.size w w' := by
  obtain ⟨i0, hti, hz0, hz1, hz2⟩ := info_parts Tryd.infoI64
  have HC := Hid.in_ (impl_isGroups s w hs)
  have HT := Hid.in_ hT
  clear hT
  cases hg : isGrps s
  · rw [hg] at HC
    have HF := Hid.in_ (show repD s = [] ∧ repV s = ⟨#[]⟩ by unfold repD repV; rw [hg]; exact ⟨rfl, rfl⟩)
    clear hg
    go_enter Tryd.func16, Tryd.ntmps16
    go_wp2_with (go_at_call 34; refine HC.out.mono ?_; rintro e w1 ⟨rfl, hb1⟩)
    go_ret3
    rw [HF.out.1, HF.out.2]
    exact ⟨_, rfl, World.ownsRow_nil _ _ _ _, hb1⟩
  · rw [hg] at HC
    obtain ⟨N, hN, hN2, h8⟩ := grps_size hg
    have HCS := Hid.in_ (grps_cell hg)
    have HF := Hid.in_ (show repD s = doubtTo s N ∧ repV s = repS s N by unfold repD repV; rw [hg, hN2]; exact ⟨rfl, rfl⟩)
    clear hg
    go_enter Tryd.func16, Tryd.ntmps16
    go_wp2_with fail
    refine HC.out.mono ?_
    rintro e w1 ⟨rfl, hb1⟩
    have HB1 := Hid.in_ hb1
    have HBB := Hid.in_ (Lib.fresh_isBuilder 63 5 w1)
    have HBA := Hid.in_ (balloc hb1 (.cells #[.pointer none, .slice none 0 0] 63))
    clear hb1
    go_wp2_with fail
    go_loopg [6, 7] N (fun m v i wr => ∃ k : Nat, k + m = N ∧ i = .int .i64 (5 * (k : Int)) ∧ Hid (Lib.IsBuilder 63 5 w.heap.size w1.heap.size (Lib.byteCells (repS s k).data.toList) wr) ∧ Hid (wr.ownsRow w.heap.size 2 1 v (doubtTo s k).length (I64 (doubtTo s k))) ∧ Hid (Below w.heap.size w wr))
    case atStart => exact ⟨0, by omega, rfl, builder_base HBB.out HB1.out.size, World.ownsRow_nil _ _ _ _, HBA.out⟩
    case round =>
      obtain ⟨k, hkm, rfl, HI, HO, HB⟩ := hrel
      have HK := Hid.in_ hkm
      clear hkm
      by_cases hlt : k < N
      · have HL := Hid.in_ (doubtTo_len s k)
        have h5k : 5 * k + 5 ≤ s.size := by omega
        have HGS := Hid.in_ (grpAt_size h5k)
        have HRS := Hid.in_ (repS_size HCS.out k (by omega))
        have HRN := Hid.in_ (repB_next s k)
        obtain ⟨x, hx16, ⟨l, hx⟩, hbx⟩ := best_in HCS.out h5k
        have HX := Hid.in_ hx
        have HBX := Hid.in_ hbx
        have HZ := Hid.in_ (gcrS_size hx16)
        clear hx hbx
        go_wp2_with fail
        rw [show s.extract (5 * k) (5 * k + 5) = grpAt s k from rfl]
        refine (impl_GcrValue _ _ (Tab.step HB.out HT.out)).mono ?_
        rintro e w2 ⟨rfl, rfl⟩
        by_cases hneg : gcrValue (grpAt s k) < 0
        · have HG := Hid.in_ (show gV s k < 0 from hneg)
          generalize gcrValue (grpAt s k) = g at *
          go_wp2_with fail
          refine (impl_NearestGcr (grpAt s k) _ (by rw [HGS.out]; omega) (Tab.step HB.out HT.out)).mono ?_
          rintro e w2 ⟨vn, rfl, hon, hb2⟩
          have HI2 := Hid.in_ (builder_below HI.out hb2)
          have HO2 := Hid.in_ (own_below HO.out hb2 (Nat.le_refl _))
          have HB2 := Hid.in_ (HB.out.trans (hb2.mono HB.out.size))
          have HV := Hid.in_ HO.out.lt
          rw [HX.out] at hon
          obtain ⟨A, cn, rfl, _, _, hA⟩ := own_shape hon
          obtain ⟨bn, rfl, hbn, hltn, hxn, _⟩ := hA (by simp)
          have hc0 := hxn 0 (.int .i64 x) rfl
          have HC0 := Hid.in_ hc0
          have HBN := Hid.in_ hbn
          have HLN := Hid.in_ hltn
          have HNE := Hid.in_ (show some bn ≠ u6.ownBlock from fun e => by have := (HV.out bn e.symm).2; have := HBN.out; omega)
          clear hb2 HI HO hon hA hxn hbn hltn hc0
          have hlen : (nearest (grpAt s k)).length = l.length + 1 := by rw [HX.out]; rfl
          have hd5 : (5 * (k : Int)) / 5 = k := by omega
          by_cases hl : 0 < l.length
          · have HN := Hid.in_ (doubt_yes (s := s) (k := k) HG.out (by omega))
            go_wp2_with (at_builtin; refine wpList_append_own _ rfl _ _ 39 rfl w.heap.size 2 i0 (.int .i64 0) 1 8 Tryd.underlying39 hti hz0 hz1 hz2 rfl (by decide) _ _ _ rfl (HO2.out.alloc _) ⟨w2.heap.size, 0, none⟩ 1 1 [.int .i64 k] rfl rfl (cell_one_new _ _ _) (fun x hx => by simp at hx; subst hx; rfl) (by have := HL.out; unfold maxLen; omega) (by have := HL.out; omega) (balloc HB2.out _).size ?_; intro v4 w4 ho4 hg4 _; have HC4 := Hid.in_ ((hg4.cell_far ⟨bn, 0, none⟩ (by rw [alloc_sz2]; have := HLN.out; show bn < _; omega) HNE.out).trans (cstep (Below.alloc (Below.refl _ _) (Nat.le_refl _) _) HC0.out)); have HB4 := Hid.in_ (bgrown (balloc HB2.out _) (HO2.out.alloc _) (Nat.le_refl _) hg4); have HO4 := Hid.in_ (show w4.ownsRow w.heap.size 2 1 v4 (doubtTo s k ++ [(k : Int)]).length (I64 (doubtTo s k ++ [(k : Int)])) by rw [List.length_append, I64_append]; exact ho4); have HI4 := Hid.in_ (builder_any_kept (by decide) (by decide) (builder_below HI2.out (Below.alloc (Below.refl _ _) (Nat.le_refl _) _)) (HO2.out.alloc _) hg4); clear ho4 hg4; have c4 := HC4.out; have d4 := (Tab.step HB4.out HT.out).cell hx16)
            have hq := HZ.out
            refine (writeString_kept (by decide) (by decide) _ _ _ _ _ HI4.out (by rw [Lib.byteCells_length]; have := HRS.out; simp; omega) HB4.out.size HO4.out).mono ?_
            rintro e w5 ⟨rfl, h5, hb5, ho5⟩
            rw [← HBX.out, HRN.out] at h5
            have HB5 := Hid.in_ (HB4.out.trans hb5)
            clear hb5
            go_wp2
            have hk := HK.out
            go_roundg (gk - 1)
            case measure => omega
            case rel => exact ⟨k + 1, by omega, by go_num, .inr h5, by rw [HN.out]; exact ho5, HB5.out⟩
          · have HN := Hid.in_ (doubt_no (s := s) (k := k) (by omega))
            have c4 := HC0.out
            have d4 := (Tab.step HB2.out HT.out).cell hx16
            go_wp2_with fail
            have hq := HZ.out
            refine (writeString_kept (by decide) (by decide) _ _ _ _ _ HI2.out (by rw [Lib.byteCells_length]; have := HRS.out; simp; omega) HB2.out.size HO2.out).mono ?_
            rintro e w5 ⟨rfl, h5, hb5, ho5⟩
            rw [← HBX.out, HRN.out] at h5
            have HB5 := Hid.in_ (HB2.out.trans hb5)
            clear hb5
            go_wp2
            have hk := HK.out
            go_roundg (gk - 1)
            case measure => omega
            case rel => exact ⟨k + 1, by omega, by go_num, .inr h5, by rw [HN.out]; exact ho5, HB5.out⟩
        · have HN := Hid.in_ (doubt_no (s := s) (k := k) (fun h => hneg h.1))
          have HBS := Hid.in_ (best_self hneg).1
          generalize gcrValue (grpAt s k) = g at *
          go_wp2_with fail
          refine (writeString_kept (by decide) (by decide) _ _ _ _ _ HI.out (by rw [Lib.byteCells_length]; have := HRS.out; have := HGS.out; simp; omega) HB.out.size HO.out).mono ?_
          rintro e w5 ⟨rfl, h5, hb5, ho5⟩
          have HRN2 := HRN.out
          rw [HBS.out] at HRN2
          rw [HRN2] at h5
          have HB5 := Hid.in_ (HB.out.trans hb5)
          clear hb5 HRN2
          go_wp2
          have hk := HK.out
          go_roundg (gk - 1)
          case measure => omega
          case rel => exact ⟨k + 1, by omega, by go_num, .inr h5, by rw [HN.out]; exact ho5, HB5.out⟩
      · have hk := HK.out
        obtain rfl : k = N := by omega
        obtain ⟨cs, hcs⟩ := builder_block HI.out
        have HCB := Hid.in_ hcs
        clear hcs
        go_wp2_with fail
        refine (Tryd.Builder_String_kept _ _ _ _ HI.out HB.out.size).mono ?_
        rintro e w5 ⟨rfl, hb5, hk5⟩
        have HO5 := Hid.in_ (own_others HO.out hk5 (by decide) (by decide) HCB.out)
        have HB5 := Hid.in_ (HB.out.trans hb5)
        clear hb5 hk5
        go_wp2
        go_ret3
        rw [HF.out.1, HF.out.2]
        exact ⟨_, rfl, HO5.out, HB5.out⟩
end Go.Proofs.YtklaakhdpfgffabDoor
