/- 'WeakFeatures' of the program and of the reference. -/
import Derived.Test.YtlelgpknkgjaeaaVotMk
import Derived.Test.YtlelgpknkgjaeaaVotedS
import Derived.Test.YtlelgpknkgjaeaaFeats
namespace Go.Proofs.Ytlelgpknkgjaeaa
open Go.ChangeShapes Go.WideShapes Go.ChangeAt Go.RowKit
set_option linter.unusedSimpArgs false
set_option linter.unusedVariables false
set_option maxRecDepth 8000

def okVot (r : VotR) : Bool := validVoted r.c r.h r.n r.s r.d r.t r.x r.l r.vo
def okVots (l : List VotR) : Bool := decide (l.length ≤ 64) && l.all okVot
def weakTo (l : List VotR) : Nat → List FeatR
  | 0 => []
  | k + 1 => weakTo l k ++ (if ((vAt l k).t == 5) = true then [⟨7, (k : Int), ((vAt l k).l.length : Nat)⟩] else [])
theorem weakTo_yes {l : List VotR} {k : Nat} {r : VotR} (h : l[k]? = some r) (h5 : (r.t == 5) = true) : weakTo l (k + 1) = weakTo l k ++ [⟨7, (k : Int), (r.l.length : Nat)⟩] := by
  show weakTo l k ++ (if ((vAt l k).t == 5) = true then [(⟨7, (k : Int), ((vAt l k).l.length : Nat)⟩ : FeatR)] else []) = _
  rw [vAt_eq h, if_pos h5]
theorem weakTo_no {l : List VotR} {k : Nat} {r : VotR} (h : l[k]? = some r) (h5 : (r.t == 5) = false) : weakTo l (k + 1) = weakTo l k := by
  show weakTo l k ++ (if ((vAt l k).t == 5) = true then [(⟨7, (k : Int), ((vAt l k).l.length : Nat)⟩ : FeatR)] else []) = _
  rw [vAt_eq h, if_neg (by rw [h5]; decide), List.append_nil]
theorem weakTo_len (l : List VotR) : ∀ k, (weakTo l k).length ≤ k
  | 0 => Nat.le_refl _
  | k + 1 => by
    have := weakTo_len l k
    unfold weakTo
    split <;> simp <;> omega
def weakL (l : List VotR) : List FeatR := if okVots l = true then weakTo l l.length else []
def weakC (l : List VotR) : Int := if okVots l = true then 0 else 1
theorem weakR_yes {l : List VotR} {n : Nat} (hl : l.length = n) (h : okVots l = true) : weakL l = weakTo l n ∧ weakC l = 0 := by
  subst hl
  exact ⟨if_pos h, if_pos h⟩
theorem weakR_no {l : List VotR} (h : okVots l = false) : weakL l = [] ∧ weakC l = 1 := ⟨if_neg (by rw [h]; decide), if_neg (by rw [h]; decide)⟩
theorem okVots_long {l : List VotR} {n : Nat} (hl : l.length = n) (h : 64 < n) : okVots l = false := by
  unfold okVots
  rw [decide_eq_false (by omega), Bool.false_and]
theorem okVots_bad {l : List VotR} {k : Nat} {r : VotR} (hr : l[k]? = some r) (h : okVot r = false) : okVots l = false := by
  unfold okVots
  have : l.all okVot = false := by
    rw [List.all_eq_false]
    exact ⟨r, List.mem_of_getElem? hr, by rw [h]; decide⟩
  rw [this, Bool.and_false]
theorem okVots_all {l : List VotR} {n : Nat} (hl : l.length = n) (h1 : n ≤ 64) (h : ∀ j r, j < n → l[j]? = some r → okVot r = true) : okVots l = true := by
  unfold okVots
  rw [decide_eq_true (by omega), Bool.true_and, List.all_eq_true]
  intro r hr
  obtain ⟨j, hj⟩ := List.getElem?_of_mem hr
  exact h j r (by rw [← hl]; exact (List.getElem?_eq_some_iff.1 hj).1) hj
theorem ok_next {l : List VotR} {k : Nat} {r : VotR} (H : ∀ (j : Nat) (x : VotR), j < k → l[j]? = some x → okVot x = true) (hr : l[k]? = some r) (hb : okVot r = true) : ∀ (j : Nat) (x : VotR), j < k + 1 → l[j]? = some x → okVot x = true := fun j x hj hx => by
  rcases Nat.lt_or_ge j k with h | h
  · exact H j x h hx
  · obtain rfl : j = k := by omega
    rw [hr] at hx
    injection hx with hx
    subst hx
    exact hb
theorem weakL_len (l : List VotR) : (weakL l).length ≤ 64 := by
  cases h : okVots l
  · rw [(weakR_no h).1]; exact Nat.zero_le _
  · rw [(weakR_yes rfl h).1]
    have := weakTo_len l l.length
    unfold okVots at h
    rw [Bool.and_eq_true, decide_eq_true_eq] at h
    omega
theorem impl_sizeI64 (A : Option Addr) (n c : Nat) (w : World) (hn : n ≤ 9223372036854775807) :
    Calls Try.prog 69 #[.slice A n c] w fun e w' => e = .returned (.int .i64 n) ∧ w = w' := by
  go_enter Try.func69, Try.ntmps69
  go_wp2
  go_ret
  exact ⟨rfl, rfl⟩
set_option maxHeartbeats 4000000 in
theorem impl_WeakFeatures {v : Value} {b n : Nat} {os : List VotO} {l : List VotR} (w : World) (h : VRow w b v os) (hl : os.map VotO.r = l) (hn : l.length = n) (hz : ∀ r ∈ l, r.d.size ≤ 1048576 ∧ r.l.length ≤ 1048576) (hn2 : n ≤ 1048576) :
    Calls Try.prog 30 #[v] w fun e w' => ∃ v', e = .returned (.tuple #[v', .int .i64 (weakC l)]) ∧ w'.ownsRow w.heap.size 95 3 v' (weakL l).length ((weakL l).flatMap FeatR.cells) ∧ Below w.heap.size w w' := by
  obtain ⟨i0, hti, hz0, hz1, hz2⟩ := info_parts Try.info_Feature
  have hno : os.length = n := by rw [← hn, ← hl, List.length_map]
  have W1 := Hid.in_ h.weak
  obtain ⟨A, c, rfl, _, hcn, hA⟩ := own_shape h.row
  rw [hno] at hcn hA ⊢
  have H1 := Hid.in_ hA
  have HL := Hid.in_ hn
  have HO := Hid.in_ hno
  have HM := Hid.in_ hl
  have HZ := Hid.in_ hz
  clear hA h hno hl hn hz
  by_cases h64 : (64 : Int) < (n : Int)
  · have HV := Hid.in_ (weakR_no (okVots_long HL.out (by omega)))
    go_enter Try.func30, Try.ntmps30
    go_wp2
    go_ret2
    rw [HV.out.1, HV.out.2]
    exact ⟨_, rfl, World.ownsRow_nil _ _ _ _, Below.refl _ _⟩
  · go_enter Try.func30, Try.ntmps30
    go_wp2
    go_loopg [4, 12] n (fun m u i wr => ∃ k : Nat, k + m = n ∧ i = .int .i64 k ∧ Hid (wr.ownsRow w.heap.size 95 3 u (weakTo l k).length ((weakTo l k).flatMap FeatR.cells)) ∧ Hid (∀ (j : Nat) (x : VotR), j < k → l[j]? = some x → okVot x = true) ∧ Hid (Below w.heap.size w wr))
    case atStart => exact ⟨0, by omega, rfl, World.ownsRow_nil _ _ _ _, fun j x hj => by omega, Below.refl _ _⟩
    case round =>
      obtain ⟨k, hkm, rfl, HI, HA, HB⟩ := hrel
      have HK := Hid.in_ hkm
      clear hkm
      by_cases hlt : k < n
      · obtain ⟨g, rfl, _, hg, hx, _⟩ := H1.out (by omega)
        obtain ⟨⟨r, mv⟩, hm⟩ := get_lt os k (by rw [HO.out]; exact hlt)
        have HR := Hid.in_ (map_get HM.out hm)
        obtain ⟨hzd, hzl⟩ := HZ.out r (List.mem_of_getElem? HR.out)
        obtain ⟨x0, x1, x2, x3, x4, x5, x6, x7, x8⟩ := boxAt9 ((Box.elem VotO.len hx hm).step HB.out)
        have HOW : Hid (wr.ownsRow b 2 1 mv r.l.length (I64 r.l)) := Hid.in_ (ostep HB.out (W1.out _ (List.mem_of_getElem? hm)))
        have HNX := Hid.in_ (fun hb => ok_next HA.out HR.out hb)
        have HLN := Hid.in_ (show (weakTo l k).length ≤ 64 by have := weakTo_len l k; omega)
        have HYN := Hid.in_ (And.intro (fun h5 => weakTo_yes HR.out h5) (fun h5 => weakTo_no HR.out h5))
        have HBAD := Hid.in_ (fun hb => weakR_no (okVots_bad HR.out hb))
        obtain ⟨B1, k1, rfl, _, _, _⟩ := own_shape HOW.out
        clear hx hm
        have HAL := Hid.in_ (balloc (Below.refl wr.heap.size wr) (.cells #[.int .i64 r.c, .int .i64 r.h, .int .i64 r.n, .int .i64 r.s, .string r.d, .int .i64 r.t, .bool r.x, .slice B1 r.l.length k1, .int .i64 r.vo] 77))
        have HBX := Hid.in_ (Box.new wr [.int .i64 r.c, .int .i64 r.h, .int .i64 r.n, .int .i64 r.s, .string r.d, .int .i64 r.t, .bool r.x, .slice B1 r.l.length k1, .int .i64 r.vo] 77)
        have HVV := Hid.in_ (impl_ValidVoted r.c r.h r.n r.s r.d r.t r.x r.vo _ (ostep HAL.out HOW.out) hzd hzl)
        obtain ⟨z, hz⟩ : ∃ z, okVot r = z := ⟨_, rfl⟩
        change Hid (Calls Try.prog 68 _ _ fun e w' => e = .returned (.bool (okVot r)) ∧ _) at HVV
        rw [hz] at HVV
        have HZV := Hid.in_ hz
        clear hz hzd
        go_wp2_with fail
        refine HVV.out.mono ?_
        rintro e w2 ⟨rfl, hb2⟩
        have HB2 := Hid.in_ (HB.out.trans (HAL.out.mono HB.out.size |>.trans (hb2.mono (Nat.le_trans HB.out.size HAL.out.size))))
        have hbx := Box.step hb2 HBX.out
        have y5 := hbx 5 _ rfl
        have y7 := hbx 7 _ rfl
        have HI2 := Hid.in_ (ostep hb2 (ostep HAL.out HI.out))
        clear hb2 hbx x0 x1 x2 x3 x4 x5 x6 x7 x8 HVV
        cases z
        · have HV := Hid.in_ (HBAD.out HZV.out)
          go_wp2
          go_ret2
          rw [HV.out.1, HV.out.2]
          exact ⟨_, rfl, World.ownsRow_nil _ _ _ _, HB2.out⟩
        · have HA2 := Hid.in_ (HNX.out HZV.out)
          cases h5 : (r.t == 5)
          · have HW := Hid.in_ (HYN.out.2 h5)
            go_wp2
            have hk := HK.out
            go_roundg (gk - 1)
            case measure => omega
            case rel => exact ⟨k + 1, by omega, by go_num, by rw [HW.out]; exact HI2.out, HA2, HB2⟩
          · have HW := Hid.in_ (HYN.out.1 h5)
            go_wp2_with (first
              | (go_at_call 69; refine (impl_sizeI64 _ _ _ _ (by omega)).mono ?_; rintro e w' ⟨rfl, rfl⟩)
              | (at_builtin; refine wpList_append_own _ rfl _ _ 51 rfl w.heap.size 95 i0 (.agg #[.int .i64 0, .int .i64 0, .int .i64 0]) 3 24 Try.underlying51 hti hz0 hz1 hz2 rfl (by decide) _ _ _ rfl (HI2.out.alloc _) ⟨_, 0, none⟩ 1 1 [_, _, _] rfl rfl (cells3a rfl) (fun x hx => by simp at hx; rcases hx with rfl | rfl | rfl <;> rfl) (by have := HLN.out; unfold maxLen; omega) (by have := HLN.out; omega) (balloc HB2.out _).size ?_; intro v6 w6 ho6 hg6 _))
            have HB6 := Hid.in_ (bgrown (balloc HB2.out _) (HI2.out.alloc _) (Nat.le_refl _) hg6)
            have HO6 := Hid.in_ ho6
            clear ho6 hg6
            have hk := HK.out
            go_roundg (gk - 1)
            case measure => omega
            case rel => exact ⟨k + 1, by omega, by go_num, by rw [HW.out, List.length_append, flat_snoc]; exact HO6.out, HA2, HB6⟩
      · have hk := HK.out
        obtain rfl : k = n := by omega
        have HV := Hid.in_ (weakR_yes HL.out (okVots_all HL.out (by omega) HA.out))
        go_wp2
        go_ret2
        rw [HV.out.1, HV.out.2]
        exact ⟨_, rfl, HI.out, HB.out⟩
set_option maxHeartbeats 4000000 in
theorem spec_WeakFeatures {v : Value} {b n : Nat} {os : List VotO} {l : List VotR} (w : World) (h : VRow w b v os) (hl : os.map VotO.r = l) (hn : l.length = n) (hz : ∀ r ∈ l, r.d.size ≤ 1048576 ∧ r.l.length ≤ 1048576) (hn2 : n ≤ 1048576) :
    Calls Try.prog 29 #[v] w fun e w' => ∃ v', e = .returned (.tuple #[v', .int .i64 (weakC l)]) ∧ w'.ownsRow w.heap.size 95 3 v' (weakL l).length ((weakL l).flatMap FeatR.cells) ∧ Below w.heap.size w w' := by
  obtain ⟨i0, hti, hz0, hz1, hz2⟩ := info_parts Try.info_Feature
  have hno : os.length = n := by rw [← hn, ← hl, List.length_map]
  have W1 := Hid.in_ h.weak
  obtain ⟨A, c, rfl, _, hcn, hA⟩ := own_shape h.row
  rw [hno] at hcn hA ⊢
  have H1 := Hid.in_ hA
  have HL := Hid.in_ hn
  have HO := Hid.in_ hno
  have HM := Hid.in_ hl
  have HZ := Hid.in_ hz
  clear hA h hno hl hn hz
  go_enter Try.func29, Try.ntmps29
  go_wp2
  go_loopg [4, 5] n (fun m u i wr => ∃ k : Nat, k + m = n ∧ i = .int .i64 k ∧ Hid (wr.ownsRow w.heap.size 95 3 u (weakTo l k).length ((weakTo l k).flatMap FeatR.cells)) ∧ Hid (k = 0 ∨ n ≤ 64) ∧ Hid (∀ (j : Nat) (x : VotR), j < k → l[j]? = some x → okVot x = true) ∧ Hid (Below w.heap.size w wr))
  case atStart => exact ⟨0, by omega, rfl, World.ownsRow_lit w #[] 0 (Nat.le_refl _) (by decide) (by decide), .inl rfl, fun j x hj => by omega, balloc (Below.refl _ _) _⟩
  case round =>
    obtain ⟨k, hkm, rfl, HI, H64, HA, HB⟩ := hrel
    have HK := Hid.in_ hkm
    clear hkm
    by_cases hlt : k < n
    · obtain ⟨g, rfl, _, hg, hx, _⟩ := H1.out (by omega)
      obtain ⟨⟨r, mv⟩, hm⟩ := get_lt os k (by rw [HO.out]; exact hlt)
      have HR := Hid.in_ (map_get HM.out hm)
      obtain ⟨hzd, hzl⟩ := HZ.out r (List.mem_of_getElem? HR.out)
      have HBX := Hid.in_ ((Box.elem VotO.len hx hm).step HB.out)
      obtain ⟨x0, x1, x2, x3, x4, x5, x6, x7, x8⟩ := boxAt9 HBX.out
      have HOW : Hid (wr.ownsRow b 2 1 mv r.l.length (I64 r.l)) := Hid.in_ (ostep HB.out (W1.out _ (List.mem_of_getElem? hm)))
      have HNX := Hid.in_ (fun hb => ok_next HA.out HR.out hb)
      have HLN := Hid.in_ (show (weakTo l k).length ≤ 1048576 by have := weakTo_len l k; omega)
      have HYN := Hid.in_ (And.intro (fun h5 => weakTo_yes HR.out h5) (fun h5 => weakTo_no HR.out h5))
      have HBAD := Hid.in_ (fun hb => weakR_no (okVots_bad HR.out hb))
      obtain ⟨B1, k1, rfl, _, _, _⟩ := own_shape HOW.out
      have HVV := Hid.in_ (spec_ValidVoted r.c r.h r.n r.s r.d r.t r.x r.vo _ HOW.out hzd hzl)
      obtain ⟨z, hz⟩ : ∃ z, okVot r = z := ⟨_, rfl⟩
      change Hid (Calls Try.prog 67 _ _ fun e w' => e = .returned (.bool (okVot r)) ∧ _) at HVV
      rw [hz] at HVV
      have HZV := Hid.in_ hz
      clear hz hzd hx hm
      by_cases h64 : (64 : Int) < (n : Int)
      · have HV := Hid.in_ (weakR_no (okVots_long HL.out (by omega)))
        cases z
        all_goals
          go_wp2_with fail
          refine HVV.out.mono ?_
          rintro e w2 ⟨rfl, hb2⟩
          have HB2 := Hid.in_ (bstep HB.out hb2)
          clear hb2 x0 x1 x2 x3 x4 x5 x6 x7 x8
          go_wp2
          go_ret2
          rw [HV.out.1, HV.out.2]
          exact ⟨_, rfl, World.ownsRow_nil _ _ _ _, HB2.out⟩
      · go_wp2_with fail
        refine HVV.out.mono ?_
        rintro e w2 ⟨rfl, hb2⟩
        have HB2 := Hid.in_ (bstep HB.out hb2)
        have hbx := HBX.out.step hb2
        clear x0 x1 x2 x3 x4 x5 x6 x7 x8
        obtain ⟨x0, x1, x2, x3, x4, x5, x6, x7, x8⟩ := boxAt9 hbx
        have HI2 := Hid.in_ (ostep hb2 HI.out)
        have H642 := Hid.in_ (show k + 1 = 0 ∨ n ≤ 64 from .inr (by omega))
        clear hb2 hbx HVV
        cases z
        · have HV := Hid.in_ (HBAD.out HZV.out)
          go_wp2
          go_ret2
          rw [HV.out.1, HV.out.2]
          exact ⟨_, rfl, World.ownsRow_nil _ _ _ _, HB2.out⟩
        · have HA2 := Hid.in_ (HNX.out HZV.out)
          cases h5 : (r.t == 5)
          · have HW := Hid.in_ (HYN.out.2 h5)
            go_wp2
            have hk := HK.out
            go_roundg (gk - 1)
            case measure => omega
            case rel => exact ⟨k + 1, by omega, by go_num, by rw [HW.out]; exact HI2.out, H642, HA2, HB2⟩
          · have HW := Hid.in_ (HYN.out.1 h5)
            go_wp2_with (at_builtin; refine wpList_append_own _ rfl _ _ 51 rfl w.heap.size 95 i0 (.agg #[.int .i64 0, .int .i64 0, .int .i64 0]) 3 24 Try.underlying51 hti hz0 hz1 hz2 rfl (by decide) _ _ _ rfl (HI2.out.alloc _) ⟨_, 0, none⟩ 1 1 [_, _, _] rfl rfl (cells3a rfl) (fun x hx => by simp at hx; rcases hx with rfl | rfl | rfl <;> rfl) (by have := HLN.out; unfold maxLen; omega) (by have := HLN.out; omega) (balloc HB2.out _).size ?_; intro v6 w6 ho6 hg6 _)
            have HB6 := Hid.in_ (bgrown (balloc HB2.out _) (HI2.out.alloc _) (Nat.le_refl _) hg6)
            have HO6 := Hid.in_ ho6
            clear ho6 hg6
            have hk := HK.out
            go_roundg (gk - 1)
            case measure => omega
            case rel => exact ⟨k + 1, by omega, by go_num, by rw [HW.out, List.length_append, flat_snoc]; exact HO6.out, H642, HA2, HB6⟩
    · have hk := HK.out
      obtain rfl : k = n := by omega
      have HV := Hid.in_ (weakR_yes HL.out (okVots_all HL.out (by rcases H64.out with h | h <;> omega) HA.out))
      go_wp2
      go_ret2
      rw [HV.out.1, HV.out.2]
      exact ⟨_, rfl, HI.out, HB.out⟩
end Go.Proofs.Ytlelgpknkgjaeaa
