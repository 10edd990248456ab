/- 'RepairGcr' of the reference: the nearest code of every group. -/
import Derived.Test.YtfmlobfgkinngaaDoorNear
import Derived.Test.YtfmlobfgkinngaaDoorDecode
import Derived.Laws.Concat
namespace Go.Proofs.YtfmlobfgkinngaaDoor
open Go.ChangeShapes Go.WideShapes Go.ChangeAt Go.RowKit
set_option linter.unusedSimpArgs false
set_option linter.unusedVariables false
set_option maxRecDepth 20000

theorem near_some (g : ByteArray) : ∀ k, 0 < k → ∃ x l, (nearTo g k).2 = x :: l
  | 0, h => by omega
  | k + 1, _ => by
    have hd : nD g k ≤ 5 := distTo_le _ _ _
    unfold nearTo
    split
    · exact ⟨_, _, rfl⟩
    · rename_i h
      have hk : 0 < k := by
        rcases Nat.eq_zero_or_pos k with h0 | h0
        · subst h0
          exact absurd (show nD g 0 < 6 by omega) h
        · exact h0
      obtain ⟨x, l, hx⟩ := near_some g k hk
      split
      · exact ⟨x, l ++ [(k : Int)], by rw [hx]; rfl⟩
      · exact ⟨x, l, hx⟩
theorem near_in (g : ByteArray) : ∀ k, ∀ x ∈ (nearTo g k).2, 0 ≤ x ∧ x < k
  | 0, x, h => by cases h
  | k + 1, x, h => by
    have ih := near_in g k
    unfold nearTo at h
    split at h
    · obtain rfl : x = (k : Int) := by simpa using h
      omega
    · split at h
      · rcases List.mem_append.1 h with h | h
        · have := ih x h
          omega
        · obtain rfl : x = (k : Int) := by simpa using h
          omega
      · have := ih x h
        omega
theorem nearest_some {g : ByteArray} (h : isGrp g = true) : ∃ x l, nearest g = x :: l ∧ 0 ≤ x ∧ x ≤ 15 := by
  obtain ⟨x, l, hx⟩ := near_some g 16 (by omega)
  have hn : nearest g = (nearTo g 16).2 := by unfold nearest; rw [h]; rfl
  have := near_in g 16 x (by rw [hx]; exact List.mem_cons_self ..)
  exact ⟨x, l, by rw [hn, hx], this.1, by omega⟩
/-- The best value of a group. -/
def best (g : ByteArray) : Int := (nearest g).headD 0
theorem grpAt_size {s : ByteArray} {k : Nat} (h : 5 * k + 5 ≤ s.size) : (grpAt s k).size = 5 := by
  unfold grpAt
  rw [ByteArray.size_extract]
  omega
theorem grpAt_grp {s : ByteArray} {k : Nat} (hc : cellStr s = true) (h : 5 * k + 5 ≤ s.size) : isGrp (grpAt s k) = true := by
  unfold isGrp
  rw [decide_eq_true (grpAt_size h), Bool.true_and]
  unfold cellStr at hc
  simp only [Bool.and_eq_true] at hc
  have ha := hc.1
  unfold allBits at ha ⊢
  rw [List.all_eq_true] at ha ⊢
  intro x hx
  exact ha x (mem_extract hx)
theorem gcr_self {g : ByteArray} (h : ¬ gcrValue g < 0) : ∃ v : Nat, v < 16 ∧ gcrValue g = v ∧ g = gcrS v := by
  unfold gcrValue at h ⊢
  split at h
  · rename_i i hi
    have h1 := List.mem_of_find?_eq_some hi
    have h2 := List.find?_some hi
    rw [List.mem_range] at h1
    refine ⟨i, h1, rfl, ?_⟩
    unfold gcrMiss at h2
    simp only [Bool.not_not, beq_iff_eq, Lib.toList_data] at h2
    cases g with
    | mk d =>
      have : (gcrS i).data = d := Array.ext' h2
      rw [← this]
  · exact absurd (by omega) h
theorem nearest_self : ∀ v, v < 16 → nearest (gcrS v) = [(v : Int)] := by decide +kernel
theorem best_self {g : ByteArray} (h : ¬ gcrValue g < 0) : gcrCode (best g) = g ∧ nearest g = [gcrValue g] := by
  obtain ⟨v, hv, h1, rfl⟩ := gcr_self h
  have hn := nearest_self v hv
  refine ⟨?_, by rw [hn, h1]⟩
  unfold best
  rw [hn]
  show gcrCode (v : Int) = _
  rw [gcrCode_yes (by unfold inB; simp; omega)]
  rfl
def repS (s : ByteArray) : Nat → ByteArray
  | 0 => ⟨#[]⟩
  | k + 1 => repS s k ++ gcrCode (best (grpAt s k))
theorem best_code {s : ByteArray} {k : Nat} (hc : cellStr s = true) (h : 5 * k + 5 ≤ s.size) : (gcrCode (best (grpAt s k))).size = 5 := by
  obtain ⟨x, l, hx, h0, h1⟩ := nearest_some (grpAt_grp hc h)
  unfold best
  rw [hx]
  show (gcrCode x).size = 5
  rw [gcrCode_yes (by unfold inB; simp; omega)]
  exact gcrS_size (by omega)
theorem repS_size {s : ByteArray} (hc : cellStr s = true) : ∀ k, 5 * k ≤ s.size → (repS s k).size = 5 * k
  | 0, _ => rfl
  | k + 1, h => by
    show (repS s k ++ gcrCode (best (grpAt s k))).size = _
    rw [ByteArray.size_append, repS_size hc k (by omega), best_code hc (by omega)]
    omega
def doubtTo (s : ByteArray) : Nat → List Int
  | 0 => []
  | k + 1 => doubtTo s k ++ (if gV s k < 0 ∧ 1 < (nearest (grpAt s k)).length then [(k : Int)] else [])
theorem doubtTo_len (s : ByteArray) : ∀ k, (doubtTo s k).length ≤ k
  | 0 => Nat.le_refl _
  | k + 1 => by
    have := doubtTo_len s k
    unfold doubtTo
    split <;> simp <;> omega
theorem doubt_yes {s : ByteArray} {k : Nat} (h : gV s k < 0) (h' : 1 < (nearest (grpAt s k)).length) : doubtTo s (k + 1) = doubtTo s k ++ [(k : Int)] := by
  show doubtTo s k ++ (if gV s k < 0 ∧ 1 < (nearest (grpAt s k)).length then [(k : Int)] else []) = _
  rw [if_pos ⟨h, h'⟩]
theorem doubt_no {s : ByteArray} {k : Nat} (h : ¬ (gV s k < 0 ∧ 1 < (nearest (grpAt s k)).length)) : doubtTo s (k + 1) = doubtTo s k := by
  show doubtTo s k ++ (if gV s k < 0 ∧ 1 < (nearest (grpAt s k)).length then [(k : Int)] else []) = _
  rw [if_neg h, List.append_nil]
def repV (s : ByteArray) : ByteArray := if isGrps s = true then repS s (s.size / 5) else ⟨#[]⟩
def repD (s : ByteArray) : List Int := if isGrps s = true then doubtTo s (s.size / 5) else []
theorem repD_len (s : ByteArray) : (repD s).length ≤ s.size := by
  unfold repD
  split
  · have := doubtTo_len s (s.size / 5)
    omega
  · exact Nat.zero_le _
theorem grps_cell {s : ByteArray} (h : isGrps s = true) : cellStr s = true := by
  unfold isGrps at h
  simp only [Bool.and_eq_true] at h
  exact h.1
set_option maxHeartbeats 4000000 in
theorem spec_RepairGcr (s : ByteArray) (w : World) (hs : s.size ≤ 1048576) :
    Calls Tryd.prog 15 #[.string s] w fun e w' => ∃ v, e = .returned (.tuple #[.string (repV s), v, .bool (isGrps s)]) ∧ w'.ownsRow w.heap.size 2 1 v (repD s).length (I64 (repD s)) ∧ Below w.heap.size w w' := by
  obtain ⟨i0, hti, hz0, hz1, hz2⟩ := info_parts Tryd.infoI64
  have HC := Hid.in_ (spec_l06Groups s w hs)
  cases hg : isGrps s
  · rw [hg] at HC
    have HF := Hid.in_ (show repD s = [] ∧ repV s = ⟨#[]⟩ by unfold repD repV; rw [hg]; exact ⟨rfl, rfl⟩)
    clear hg
    go_enter Tryd.func15, Tryd.ntmps15
    go_wp2_with (go_at_call 55; refine HC.out.mono ?_; rintro e w' ⟨rfl, rfl⟩)
    go_ret3
    rw [HF.out.1, HF.out.2]
    exact ⟨_, rfl, World.ownsRow_nil _ _ _ _, Below.refl _ _⟩
  · rw [hg] at HC
    obtain ⟨N, hN, hN2, h8⟩ := grps_size hg
    have HCS := Hid.in_ (grps_cell hg)
    have HF := Hid.in_ (show repD s = doubtTo s N ∧ repV s = repS s N by unfold repD repV; rw [hg, hN2]; exact ⟨rfl, rfl⟩)
    clear hg
    go_enter Tryd.func15, Tryd.ntmps15
    go_wp2_with (go_at_call 55; refine HC.out.mono ?_; rintro e w' ⟨rfl, rfl⟩)
    go_loopg [5, 6, 7] N (fun m o v i wr => ∃ k : Nat, k + m = N ∧ i = .int .i64 k ∧ o = .string (repS s k) ∧ Hid (wr.ownsRow w.heap.size 2 1 v (doubtTo s k).length (I64 (doubtTo s k))) ∧ Hid (Below w.heap.size w wr))
    case atStart => exact ⟨0, by omega, rfl, rfl, World.ownsRow_lit w #[] 0 (Nat.le_refl _) (by decide) (by decide), balloc (Below.refl _ _) _⟩
    case round =>
      obtain ⟨k, hkm, rfl, rfl, HI, HB⟩ := hrel
      have HK := Hid.in_ hkm
      clear hkm
      by_cases hlt : k < N
      · have HL := Hid.in_ (doubtTo_len s k)
        have h5k : 5 * k + 5 ≤ s.size := by omega
        have HGS := Hid.in_ (grpAt_size h5k)
        obtain ⟨x, l, hx, hx0, hx1⟩ := nearest_some (grpAt_grp HCS.out h5k)
        have HBC := Hid.in_ (show (gcrCode x).size = 5 by have := best_code HCS.out h5k; unfold best at this; rw [hx] at this; exact this)
        have HRS := Hid.in_ (repS_size HCS.out k (by omega))
        have HRN := Hid.in_ (show repS s (k + 1) = repS s k ++ gcrCode x by show repS s k ++ gcrCode (best (grpAt s k)) = _; unfold best; rw [hx]; rfl)
        have HX := Hid.in_ hx
        clear hx
        go_wp2_with fail
        refine (spec_l06At s k _ hs h5k).mono ?_
        rintro e w1 ⟨rfl, rfl⟩
        go_wp2_with fail
        refine (spec_NearestGcr (grpAt s k) _ (by rw [HGS.out]; omega)).mono ?_
        rintro e w2 ⟨vn, rfl, hon, hb2⟩
        have HO2 := Hid.in_ (own_below HI.out hb2 (Nat.le_refl _))
        have HB2 := Hid.in_ (HB.out.trans (hb2.mono HB.out.size))
        have HV := Hid.in_ HI.out.lt
        rw [HX.out] at hon
        obtain ⟨A, cn, rfl, _, _, hA⟩ := own_shape hon
        obtain ⟨bn, rfl, hbn, hltn, hxn, _⟩ := hA (by simp)
        have hc0 := hxn 0 (.int .i64 x) rfl
        have HC0 := Hid.in_ hc0
        have HBN := Hid.in_ hbn
        have HLN := Hid.in_ hltn
        clear hb2 HI hon hA hxn hbn hltn hc0
        go_wp2_with fail
        refine (spec_GcrValue _ _).mono ?_
        rintro e w3 ⟨rfl, hb3⟩
        have HO3 := Hid.in_ (own_below HO2.out hb3 (Nat.le_refl _))
        have HB3 := Hid.in_ (HB2.out.trans (hb3.mono HB2.out.size))
        have HC3 := Hid.in_ (cstep hb3 HC0.out)
        have HLN3 := Hid.in_ (show bn < w3.heap.size from Nat.lt_of_lt_of_le HLN.out hb3.size)
        have HNE := Hid.in_ (show some bn ≠ u6.ownBlock from fun e => by have := (HV.out bn e.symm).2; have := HBN.out; omega)
        clear hb3
        have hlen : (nearest (grpAt s k)).length = l.length + 1 := by rw [HX.out]; rfl
        have HGV := Hid.in_ (show gcrValue (grpAt s k) = gV s k from rfl)
        generalize hgv : gcrValue (grpAt s k) = a at *
        clear hgv
        by_cases hd : a < 0 ∧ 0 < l.length
        · obtain ⟨ha, hl⟩ := hd
          have HN := Hid.in_ (doubt_yes (s := s) (k := k) (by rw [← HGV.out]; exact ha) (by omega))
          go_wp2_with (at_builtin; refine wpList_append_own _ rfl _ _ 22 rfl w.heap.size 2 i0 (.int .i64 0) 1 8 Tryd.underlying22 hti hz0 hz1 hz2 rfl (by decide) _ _ _ rfl (HO3.out.alloc _) ⟨w3.heap.size, 0, none⟩ 1 1 [.int .i64 k] rfl rfl (cell_one_new _ _ _) (fun x hx => by simp at hx; subst hx; rfl) (by have := HL.out; unfold maxLen; omega) (by have := HL.out; omega) (balloc HB3.out _).size ?_; intro v4 w4 ho4 hg4 _; have HC4 := Hid.in_ ((hg4.cell_far ⟨bn, 0, none⟩ (by rw [alloc_sz2]; have := HLN3.out; show bn < _; omega) HNE.out).trans (cstep (Below.alloc (Below.refl _ _) (Nat.le_refl _) _) HC3.out)); have HB4 := Hid.in_ (bgrown (balloc HB3.out _) (HO3.out.alloc _) (Nat.le_refl _) hg4); have HO4 := Hid.in_ (show w4.ownsRow w.heap.size 2 1 v4 (doubtTo s k ++ [(k : Int)]).length (I64 (doubtTo s k ++ [(k : Int)])) by rw [List.length_append, I64_append]; exact ho4); clear ho4 hg4; have c4 := HC4.out)
          have hno : ¬ ((repS s k).size + (gcrCode x).size > 9223372036854775807) := by rw [HRS.out, HBC.out]; omega
          go_wp2_with (go_at_call 59; refine (spec_GcrCode _ _).mono ?_; rintro e w5 ⟨rfl, hb5⟩; have HO5 := Hid.in_ (own_below HO4.out hb5 (Nat.le_refl _)); have HB5 := Hid.in_ (HB4.out.trans (hb5.mono HB4.out.size)); clear hb5)
          have hk := HK.out
          go_roundg (gk - 1)
          case measure => omega
          case rel => exact ⟨k + 1, by omega, by go_num, by rw [HRN.out], by rw [HN.out]; exact HO5.out, HB5.out⟩
        · have HN := Hid.in_ (doubt_no (s := s) (k := k) (by rw [← HGV.out, hlen]; omega))
          have HC4 := HC3
          have HO4 := HO3
          have HB4 := HB3
          have c3 := HC3.out
          have hno : ¬ ((repS s k).size + (gcrCode x).size > 9223372036854775807) := by rw [HRS.out, HBC.out]; omega
          have hcs : a < 0 ∧ l.length = 0 ∨ ¬ a < 0 := by omega
          obtain ⟨ha, hl⟩ | ha := hcs
          all_goals
            go_wp2_with (go_at_call 59; refine (spec_GcrCode _ _).mono ?_; rintro e w5 ⟨rfl, hb5⟩; have HO5 := Hid.in_ (own_below HO4.out hb5 (Nat.le_refl _)); have HB5 := Hid.in_ (HB4.out.trans (hb5.mono HB4.out.size)); clear hb5)
            have hk := HK.out
            go_roundg (gk - 1)
            case measure => omega
            case rel => exact ⟨k + 1, by omega, by go_num, by rw [HRN.out], by rw [HN.out]; exact HO5.out, HB5.out⟩
      · have hk := HK.out
        obtain rfl : k = N := by omega
        go_wp2
        go_ret3
        rw [HF.out.1, HF.out.2]
        exact ⟨_, rfl, HI.out, HB.out⟩
end Go.Proofs.YtfmlobfgkinngaaDoor
