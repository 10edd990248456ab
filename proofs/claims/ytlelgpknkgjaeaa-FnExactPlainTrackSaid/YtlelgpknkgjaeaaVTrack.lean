/- 'ValidTrackSpec' of the program and of the reference. -/
import Derived.Test.YtlelgpknkgjaeaaTrack
import Derived.Test.YtlelgpknkgjaeaaSector
namespace Go.Proofs.Ytlelgpknkgjaeaa
open Go.ChangeShapes Go.WideShapes Go.ChangeAt Go.RowKit
set_option linter.unusedVariables false
set_option linter.unusedSimpArgs false
set_option maxRecDepth 4000

def okSec (r : SecR) : Bool := validSector r.c r.h r.n r.s r.d.size
def validTrack (f g : Int) (l : List SecR) : Bool := inB f 1 3 && (inB g 1 20 && (decide (l.length ≤ 8) && l.all okSec))
theorem track_cases (f g : Int) (l : List SecR) :
    (inB f 1 3 = false ∧ Hid (validTrack f g l = false)) ∨
    (inB f 1 3 = true ∧ inB g 1 20 = false ∧ Hid (validTrack f g l = false)) ∨
    (inB f 1 3 = true ∧ inB g 1 20 = true ∧ 8 < l.length ∧ Hid (validTrack f g l = false)) ∨
    (inB f 1 3 = true ∧ inB g 1 20 = true ∧ ¬ 8 < l.length ∧ Hid (validTrack f g l = l.all okSec)) := by
  unfold Hid validTrack
  cases inB f 1 3 <;> cases inB g 1 20 <;> simp
  omega
theorem all_no {l : List SecR} {k : Nat} {m : SecR} (h : l[k]? = some m) (hv : okSec m = false) : l.all okSec = false := by
  rw [List.all_eq_false]
  exact ⟨m, List.mem_of_getElem? h, by rw [hv]; decide⟩
theorem all_yes {l : List SecR} (h : ∀ j m, j < l.length → l[j]? = some m → okSec m = true) : l.all okSec = true := by
  rw [List.all_eq_true]
  intro m hm
  obtain ⟨j, hj, hx⟩ := List.getElem_of_mem hm
  exact h j m hj (by rw [List.getElem?_eq_getElem hj, hx])
theorem ok_next {l : List SecR} {k : Nat} (h : ∀ j m, j < k → l[j]? = some m → okSec m = true) {m : SecR} (hm : l[k]? = some m) (hv : okSec m = true) : ∀ j m, j < k + 1 → l[j]? = some m → okSec m = true := fun j x hj hx => by
  rcases Nat.lt_or_ge j k with h1 | h1
  · exact h j x h1 hx
  · obtain rfl : j = k := by omega
    rw [hm] at hx
    injection hx with hx
    rw [← hx]
    exact hv
set_option maxHeartbeats 2000000 in
theorem impl_ValidTrackSpec (f g : Int) {v : Value} {n b0 : Nat} {l : List SecR} (w : World) (h : w.ownsRow b0 85 8 v n (l.flatMap SecR.cells)) (hd : ∀ x ∈ l, x.d.size ≤ 1048576) :
    Calls Try.prog 86 #[.agg #[.int .i64 f, .int .i64 g, v]] w fun e w' => e = .returned (.bool (validTrack f g l)) ∧ Below w.heap.size w w' := by
  obtain ⟨A, c, rfl, hl, hn, hA⟩ := own_shape h
  have HL : Hid (l.length = n) := by rw [flat_len SecR.len] at hl; unfold Hid; omega
  have H1 := Hid.in_ hA
  have HD := Hid.in_ hd
  clear hA hl h hd
  have HB0 := Hid.in_ (balloc (Below.refl w.heap.size w) (.cells #[.int .i64 f, .int .i64 g, .slice A n c] 44))
  obtain ⟨h1, HV⟩ | ⟨h1, h2, HV⟩ | ⟨h1, h2, h3, HV⟩ | ⟨h1, h2, h3, HV⟩ := track_cases f g l
  case inr.inr.inr =>
    rw [HL.out] at h3
    go_enter Try.func86, Try.ntmps86
    go_wp2_with (first | (go_at_call 109; refine (bool_is (impl_isFormat _ _) (by assumption)).mono ?_; rintro e w' ⟨rfl, rfl⟩) | (go_at_call 44; refine (bool_is (impl_within _ _ _ _) (by assumption)).mono ?_; rintro e w' ⟨rfl, rfl⟩))
    generalize w.alloc (.cells #[.int .i64 f, .int .i64 g, .slice A n c] 44) = w0 at *
    go_loopg [24] n (fun m i wr => ∃ k : Nat, k + m = n ∧ i = .int .i64 k ∧ Hid (∀ j m, j < k → l[j]? = some m → okSec m = true) ∧ Hid (Below w.heap.size w wr))
    case atStart => exact ⟨0, by omega, rfl, fun j m hj => by omega, HB0.out⟩
    case round =>
      obtain ⟨k, hkm, rfl, HA, HB⟩ := hrel
      have HK := Hid.in_ hkm
      clear hkm
      by_cases hlt : k < n
      · obtain ⟨g1, rfl, _, hg1, hx1, _⟩ := H1.out (by omega)
        obtain ⟨m, hm⟩ := get_lt l k (by rw [HL.out]; exact hlt)
        obtain ⟨x0, x1, x2, x3, x4, x5, x6, x7⟩ := boxAt8 ((Box.elem SecR.len hx1 hm).step HB.out)
        have HM := Hid.in_ hm
        have HDM := Hid.in_ (HD.out m (List.mem_of_getElem? hm))
        clear hx1 hm
        go_wp2_with fail
        refine (impl_ValidSectorSpec _ _ _ _ _ _ _ _ _ HDM.out).mono ?_
        rintro e w2 ⟨rfl, hb2⟩
        have HB2 := Hid.in_ (bstep (balloc HB.out _) hb2)
        clear hb2 x0 x1 x2 x3 x4 x5 x6 x7
        cases hv : validSector m.c m.h m.n m.s m.d.size
        · have HQ := Hid.in_ (HV.out.trans (all_no HM.out hv))
          clear hv
          go_wp2
          go_ret
          exact ⟨ret_bool HQ.out.symm, HB2.out⟩
        · have HQ := Hid.in_ (ok_next HA.out HM.out hv)
          clear hv
          go_wp2
          have hk := HK.out
          go_roundg (gk - 1)
          case measure => omega
          case rel => exact ⟨k + 1, by omega, by go_num, HQ, HB2⟩
      · have hk := HK.out
        obtain rfl : k = n := by omega
        go_wp2
        go_ret
        exact ⟨ret_bool (HV.out.trans (all_yes (by rw [HL.out]; exact HA.out))).symm, HB.out⟩
  all_goals
    (try rw [HL.out] at h3)
    go_enter Try.func86, Try.ntmps86
    go_wp2_with (first | (go_at_call 109; refine (bool_is (impl_isFormat _ _) (by assumption)).mono ?_; rintro e w' ⟨rfl, rfl⟩) | (go_at_call 44; refine (bool_is (impl_within _ _ _ _) (by assumption)).mono ?_; rintro e w' ⟨rfl, rfl⟩))
    go_ret
    exact ⟨ret_bool HV.out.symm, HB0.out⟩
set_option maxHeartbeats 2000000 in
theorem spec_l08Parts (b : Nat) (f g : Int) {v : Value} {n b0 : Nat} {l : List SecR} (w : World) (hT : TrkAt w b f g v) (h : w.ownsRow b0 85 8 v n (l.flatMap SecR.cells)) (hd : ∀ x ∈ l, x.d.size ≤ 1048576) :
    Calls Try.prog 84 #[.pointer (some ⟨b, 0, none⟩)] w fun e w' => e = .returned (.bool (validTrack f g l)) ∧ Below w.heap.size w w' := by
  obtain ⟨A, c, rfl, hl, hn, hA⟩ := own_shape h
  have HL : Hid (l.length = n) := by rw [flat_len SecR.len] at hl; unfold Hid; omega
  have H1 := Hid.in_ hA
  have HD := Hid.in_ hd
  have HT := Hid.in_ hT
  clear hA hl h hd hT
  obtain ⟨t0, t1, t2⟩ := HT.out
  obtain ⟨h1, HV⟩ | ⟨h1, h2, HV⟩ | ⟨h1, h2, h3, HV⟩ | ⟨h1, h2, h3, HV⟩ := track_cases f g l
  case inr.inr.inr =>
    rw [HL.out] at h3
    go_enter Try.func84, Try.ntmps84
    go_wp2_with (first | (go_at_call 107; refine (bool_is (spec_l07Format _ _) (by assumption)).mono ?_; rintro e w' ⟨rfl, rfl⟩) | (go_at_call 42; refine (bool_is (spec_l00In _ _ _ _) (by assumption)).mono ?_; rintro e w' ⟨rfl, rfl⟩))
    go_loopg [3] n (fun m i wr => ∃ k : Nat, k + m = n ∧ i = .int .i64 k ∧ Hid (∀ j m, j < k → l[j]? = some m → okSec m = true) ∧ Hid (Below w.heap.size w wr))
    case atStart => exact ⟨0, by omega, rfl, fun j m hj => by omega, Below.refl _ _⟩
    case round =>
      obtain ⟨k, hkm, rfl, HA, HB⟩ := hrel
      have HK := Hid.in_ hkm
      clear hkm t0 t1 t2
      obtain ⟨s0, s1, s2⟩ := HT.out.step HB.out
      by_cases hlt : k < n
      · obtain ⟨g1, rfl, _, hg1, hx1, _⟩ := H1.out (by omega)
        obtain ⟨m, hm⟩ := get_lt l k (by rw [HL.out]; exact hlt)
        have HX := Hid.in_ ((Box.elem SecR.len hx1 hm).step HB.out)
        have HM := Hid.in_ hm
        have HDM := Hid.in_ (HD.out m (List.mem_of_getElem? hm))
        clear hx1 hm
        go_wp2_with fail
        refine (spec_l08Sector _ HDM.out HX.out).mono ?_
        rintro e w2 ⟨rfl, q, rfl⟩
        have HB2 := Hid.in_ (below_drewN HB.out q)
        cases hv : validSector m.c m.h m.n m.s m.d.size
        · have HQ := Hid.in_ (HV.out.trans (all_no HM.out hv))
          clear hv
          go_wp2
          go_ret
          exact ⟨ret_bool HQ.out.symm, HB2.out⟩
        · have HQ := Hid.in_ (ok_next HA.out HM.out hv)
          clear hv
          go_wp2
          have hk := HK.out
          go_roundg (gk - 1)
          case measure => omega
          case rel => exact ⟨k + 1, by omega, by go_num, HQ, HB2⟩
      · have hk := HK.out
        obtain rfl : k = n := by omega
        go_wp2
        go_ret
        exact ⟨ret_bool (HV.out.trans (all_yes (by rw [HL.out]; exact HA.out))).symm, HB.out⟩
  all_goals
    (try rw [HL.out] at h3)
    go_enter Try.func84, Try.ntmps84
    go_wp2_with (first | (go_at_call 107; refine (bool_is (spec_l07Format _ _) (by assumption)).mono ?_; rintro e w' ⟨rfl, rfl⟩) | (go_at_call 42; refine (bool_is (spec_l00In _ _ _ _) (by assumption)).mono ?_; rintro e w' ⟨rfl, rfl⟩))
    go_ret
    exact ⟨ret_bool HV.out.symm, Below.refl _ _⟩
theorem spec_ValidTrackSpec (f g : Int) {v : Value} {n b0 : Nat} {l : List SecR} (w : World) (h : w.ownsRow b0 85 8 v n (l.flatMap SecR.cells)) (hd : ∀ x ∈ l, x.d.size ≤ 1048576) :
    Calls Try.prog 57 #[.agg #[.int .i64 f, .int .i64 g, v]] w fun e w' => e = .returned (.bool (validTrack f g l)) ∧ Below w.heap.size w w' := by
  have HO := Hid.in_ h
  have HD := Hid.in_ hd
  obtain ⟨A, c, rfl, _, _, _⟩ := own_shape h
  clear h hd
  have HB0 := Hid.in_ (balloc (Below.refl w.heap.size w) (.cells #[.int .i64 f, .int .i64 g, .slice A n c] 44))
  have HT := Hid.in_ (TrkAt.fresh (t := 44) (f := f) (g := g) (v := .slice A n c) w)
  go_enter Try.func57, Try.ntmps57
  go_wp2_with fail
  refine (spec_l08Parts _ _ _ _ HT.out (ostep HB0.out HO.out) HD.out).mono ?_
  rintro e w1 ⟨rfl, hb1⟩
  have HB := Hid.in_ (bstep HB0.out hb1)
  clear hb1
  go_wp2
  go_ret
  exact ⟨rfl, HB.out⟩
end Go.Proofs.Ytlelgpknkgjaeaa
