/- 'SectorFeatures' of the program and of the reference. -/
import Derived.Test.YtdnkjbgfaniafaaFeatsI
import Derived.Test.YtdnkjbgfaniafaaFeatsS
import Derived.Test.YtdnkjbgfaniafaaFounds
namespace Go.Proofs.Ytdnkjbgfaniafaa
open Go.ChangeShapes Go.WideShapes Go.ChangeAt Go.RowKit
set_option linter.unusedVariables false
set_option linter.unusedSimpArgs false
set_option maxRecDepth 4000

def secfR (l : List FndR) (cy hd : Int) : List FeatR × Int :=
  if okFnds l = false then ([], 1) else if (inB cy 0 255 && inB hd 0 255) = false then ([], 2) else (featsTo l cy hd l.length, 0)
theorem secf_inv {l : List FndR} {cy hd : Int} (h : okFnds l = false) : secfR l cy hd = ([], 1) := if_pos h
theorem secf_rng {l : List FndR} {cy hd : Int} (h : okFnds l = true) (h2 : (inB cy 0 255 && inB hd 0 255) = false) : secfR l cy hd = ([], 2) := by
  unfold secfR
  rw [if_neg (by rw [h]; decide), if_pos h2]
theorem secf_ok {l : List FndR} {cy hd : Int} {n : Nat} (hl : l.length = n) (h : okFnds l = true) (h2 : (inB cy 0 255 && inB hd 0 255) = true) : secfR l cy hd = (featsTo l cy hd n, 0) := by
  unfold secfR
  rw [if_neg (by rw [h]; decide), if_neg (by rw [h2]; decide), hl]
theorem fnds_len {l : List FndR} (h : okFnds l = true) : l.length ≤ 64 := by
  unfold okFnds at h
  rw [Bool.and_eq_true] at h
  exact of_decide_eq_true h.2
theorem fnds_long {l : List FndR} {n : Nat} (hl : l.length = n) (h : 64 < n) : okFnds l = false := by
  unfold okFnds
  rw [decide_eq_false (by omega), Bool.and_false]
theorem secfR_len (l : List FndR) (cy hd : Int) : (secfR l cy hd).1.length ≤ 320 := by
  cases h : okFnds l
  · rw [secf_inv h]; exact Nat.zero_le _
  · cases h2 : inB cy 0 255 && inB hd 0 255
    · rw [secf_rng h h2]; exact Nat.zero_le _
    · rw [secf_ok rfl h h2]
      have := featsTo_len l cy hd l.length
      have := fnds_len h
      show (featsTo l cy hd l.length).length ≤ 320
      omega
theorem spec_l11Track (x y : Int) (w : World) :
    Calls Try.prog 75 #[.int .i64 x, .int .i64 y] w fun e w' => e = .returned (.bool (inB x 0 255 && inB y 0 255)) ∧ w = w' := by
  cases h1 : inB x 0 255
  · go_enter Try.func75, Try.ntmps75
    go_wp2_with (go_at_call 55; refine (bool_is (spec_l00In _ _ _ _) (by assumption)).mono ?_; rintro e w' ⟨rfl, rfl⟩)
    go_ret
    exact ⟨rfl, rfl⟩
  · cases h2 : inB y 0 255
    all_goals
      go_enter Try.func75, Try.ntmps75
      go_wp2_with (go_at_call 55; refine (bool_is (spec_l00In _ _ _ _) (by assumption)).mono ?_; rintro e w' ⟨rfl, rfl⟩)
      go_ret
      exact ⟨rfl, rfl⟩
set_option maxHeartbeats 2000000 in
theorem impl_SectorFeatures {v : Value} {n b0 : Nat} {l : List FndR} (cy hd : Int) (w : World) (h : w.ownsRow b0 90 8 v n (l.flatMap FndR.cells)) (hd0 : ∀ x ∈ l, x.d.size ≤ 1048576) (hn2 : n ≤ 1048576) :
    Calls Try.prog 45 #[v, .int .i64 cy, .int .i64 hd] w fun e w' => ∃ v', e = .returned (.tuple #[v', .int .i64 (secfR l cy hd).2]) ∧ w'.ownsRow w.heap.size 115 3 v' (secfR l cy hd).1.length ((secfR l cy hd).1.flatMap FeatR.cells) ∧ Below w.heap.size w w' := by
  have HVF := Hid.in_ (impl_validFounds w h hd0)
  have HFE := Hid.in_ (fun (w1 : World) (hb : Below w.heap.size w w1) => impl_sectorFeatures cy hd w1 (ostep hb h) hn2)
  have HL := Hid.in_ (show l.length = n by have := h.1; rw [flat_len FndR.len] at this; omega)
  clear h hd0
  cases hv : okFnds l
  · rw [hv] at HVF
    have HV := Hid.in_ (secf_inv (cy := cy) (hd := hd) hv)
    clear hv
    go_enter Try.func45, Try.ntmps45
    go_wp2_with fail
    refine HVF.out.mono ?_
    rintro e w1 ⟨rfl, hb1⟩
    go_wp2
    go_ret2
    rw [HV.out]
    exact ⟨_, rfl, World.ownsRow_nil _ _ _ _, hb1⟩
  · rw [hv] at HVF
    have HVV := Hid.in_ hv
    clear hv
    cases h1 : inB cy 0 255
    · have HV := Hid.in_ (secf_rng (cy := cy) (hd := hd) HVV.out (by rw [h1]; rfl))
      go_enter Try.func45, Try.ntmps45
      go_wp2_with fail
      refine HVF.out.mono ?_
      rintro e w1 ⟨rfl, hb1⟩
      go_wp2_with (go_at_call 83; refine (bool_is (impl_isByte _ _) (by assumption)).mono ?_; rintro e w' ⟨rfl, rfl⟩)
      go_ret2
      rw [HV.out]
      exact ⟨_, rfl, World.ownsRow_nil _ _ _ _, hb1⟩
    · cases h2 : inB hd 0 255
      · have HV := Hid.in_ (secf_rng (cy := cy) (hd := hd) HVV.out (by rw [h1, h2]; rfl))
        go_enter Try.func45, Try.ntmps45
        go_wp2_with fail
        refine HVF.out.mono ?_
        rintro e w1 ⟨rfl, hb1⟩
        go_wp2_with (go_at_call 83; refine (bool_is (impl_isByte _ _) (by assumption)).mono ?_; rintro e w' ⟨rfl, rfl⟩)
        go_ret2
        rw [HV.out]
        exact ⟨_, rfl, World.ownsRow_nil _ _ _ _, hb1⟩
      · have HV := Hid.in_ (secf_ok (cy := cy) (hd := hd) HL.out HVV.out (by rw [h1, h2]; rfl))
        go_enter Try.func45, Try.ntmps45
        go_wp2_with fail
        refine HVF.out.mono ?_
        rintro e w1 ⟨rfl, hb1⟩
        have HB1 := Hid.in_ hb1
        clear hb1
        go_wp2_with (go_at_call 83; refine (bool_is (impl_isByte _ _) (by assumption)).mono ?_; rintro e w' ⟨rfl, rfl⟩)
        refine (HFE.out _ HB1.out).mono ?_
        rintro e w2 ⟨v2, rfl, ho2, hb2⟩
        have HO := Hid.in_ (show w2.ownsRow w.heap.size 115 3 v2 _ _ from own_base ho2 HB1.out.size)
        have HB2 := Hid.in_ (bstep HB1.out hb2)
        clear ho2 hb2
        go_wp2
        go_ret2
        rw [HV.out]
        exact ⟨_, rfl, HO.out, HB2.out⟩
set_option maxHeartbeats 2000000 in
theorem spec_SectorFeatures {v : Value} {n b0 : Nat} {l : List FndR} (cy hd : Int) (w : World) (h : w.ownsRow b0 90 8 v n (l.flatMap FndR.cells)) (hd0 : ∀ x ∈ l, x.d.size ≤ 1048576) (hn2 : n ≤ 1048576) :
    Calls Try.prog 44 #[v, .int .i64 cy, .int .i64 hd] w fun e w' => ∃ v', e = .returned (.tuple #[v', .int .i64 (secfR l cy hd).2]) ∧ w'.ownsRow w.heap.size 115 3 v' (secfR l cy hd).1.length ((secfR l cy hd).1.flatMap FeatR.cells) ∧ Below w.heap.size w w' := by
  have HFE := Hid.in_ (fun (w1 : World) (hb : Below w.heap.size w w1) => spec_l11Features cy hd w1 (ostep hb h) hn2)
  obtain ⟨A, c, rfl, hl, hn, hA⟩ := own_shape h
  have HL : Hid (l.length = n) := by rw [flat_len FndR.len] at hl; unfold Hid; omega
  have H1 := Hid.in_ hA
  have HD := Hid.in_ hd0
  clear hA hl h hd0
  go_enter Try.func44, Try.ntmps44
  go_wp2_with fail
  go_loopg [8] n (fun m i wr => ∃ k : Nat, k + m = n ∧ i = .int .i64 k ∧ (k = 0 ∨ n ≤ 64) ∧ Hid (∀ j m, j < k → l[j]? = some m → okFnd m = true) ∧ Hid (Below w.heap.size w wr))
  case atStart => exact ⟨0, by omega, rfl, .inl rfl, fun j m hj => by omega, Below.refl _ _⟩
  case round =>
    obtain ⟨k, hkm, rfl, h64, HA, HB⟩ := hrel
    have HK := Hid.in_ hkm
    clear hkm
    by_cases hlt : k < n
    · clear h64
      obtain ⟨g1, rfl, _, hg1, hx1, _⟩ := H1.out (by omega)
      obtain ⟨m, hm⟩ := get_lt l k (by rw [HL.out]; exact hlt)
      obtain ⟨x0, x1, x2, x3, x4, x5, x6, x7⟩ := boxAt8 ((Box.elem FndR.len hx1 hm).step HB.out)
      have HM := Hid.in_ hm
      have HDM := Hid.in_ (HD.out m (List.mem_of_getElem? hm))
      clear hx1 hm
      go_wp2_with fail
      refine (spec_ValidFound _ _ _ _ _ _ _ _ _ HDM.out).mono ?_
      rintro e w2 ⟨rfl, hb2⟩
      have HB2 := Hid.in_ (bstep HB.out hb2)
      clear hb2 x0 x1 x2 x3 x4 x5 x6 x7
      cases hv : validFound m.c m.h m.n m.s m.d m.t m.l m.p
      · have HV := Hid.in_ (secf_inv (cy := cy) (hd := hd) (fnds_no HM.out hv))
        clear hv
        go_wp2
        go_ret2
        rw [HV.out]
        exact ⟨_, rfl, World.ownsRow_nil _ _ _ _, HB2.out⟩
      · have HQ := Hid.in_ (fnds_next HA.out HM.out hv)
        clear hv
        by_cases h6 : 64 < n
        · have HV := Hid.in_ (secf_inv (cy := cy) (hd := hd) (fnds_long HL.out h6))
          have h6' : (64 : Int) < (n : Int) := by omega
          go_wp2
          go_ret2
          rw [HV.out]
          exact ⟨_, rfl, World.ownsRow_nil _ _ _ _, HB2.out⟩
        · have h6' : ¬ (64 : Int) < (n : Int) := by omega
          go_wp2
          have hk := HK.out
          go_roundg (gk - 1)
          case measure => omega
          case rel => exact ⟨k + 1, by omega, by go_num, .inr (by omega), HQ, HB2⟩
    · have hk := HK.out
      obtain rfl : k = n := by omega
      have hok := fnds_yes HL.out HA.out
      rw [decide_eq_true (by omega)] at hok
      have HVV := Hid.in_ hok
      clear hok
      cases h1 : (inB cy 0 255 && inB hd 0 255)
      · have HV := Hid.in_ (secf_rng (cy := cy) (hd := hd) HVV.out h1)
        go_wp2_with (go_at_call 75; refine (bool_is (spec_l11Track _ _ _) (by assumption)).mono ?_; rintro e w' ⟨rfl, rfl⟩)
        go_ret2
        rw [HV.out]
        exact ⟨_, rfl, World.ownsRow_nil _ _ _ _, HB.out⟩
      · have HV := Hid.in_ (secf_ok (cy := cy) (hd := hd) HL.out HVV.out h1)
        go_wp2_with (go_at_call 75; refine (bool_is (spec_l11Track _ _ _) (by assumption)).mono ?_; rintro e w' ⟨rfl, rfl⟩)
        refine (HFE.out _ HB.out).mono ?_
        rintro e w2 ⟨v2, rfl, ho2, hb2⟩
        have HO := Hid.in_ (show w2.ownsRow w.heap.size 115 3 v2 _ _ from own_base ho2 HB.out.size)
        have HB2 := Hid.in_ (bstep HB.out hb2)
        clear ho2 hb2
        go_wp2
        go_ret2
        rw [HV.out]
        exact ⟨_, rfl, HO.out, HB2.out⟩
end Go.Proofs.Ytdnkjbgfaniafaa
