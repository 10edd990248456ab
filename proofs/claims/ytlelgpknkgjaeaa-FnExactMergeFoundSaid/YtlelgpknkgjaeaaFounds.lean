/- Lists of sectors that were found: 'validFounds', 'l09List'. -/
import Derived.Test.YtlelgpknkgjaeaaRow
import Derived.Test.YtlelgpknkgjaeaaFound
import Derived.Test.YtlelgpknkgjaeaaRecF
namespace Go.Proofs.Ytlelgpknkgjaeaa
open Go.ChangeShapes Go.WideShapes Go.ChangeAt Go.RowKit
set_option linter.unusedVariables false
set_option linter.unusedSimpArgs false
set_option maxRecDepth 4000

def okFnd (r : FndR) : Bool := validFound r.c r.h r.n r.s r.d r.t r.l r.p
def okFnds (l : List FndR) : Bool := l.all okFnd && decide (l.length ≤ 64)
theorem fnds_no {l : List FndR} {k : Nat} {m : FndR} (h : l[k]? = some m) (hv : okFnd m = false) : okFnds l = false := by
  have : l.all okFnd = false := by
    rw [List.all_eq_false]
    exact ⟨m, List.mem_of_getElem? h, by rw [hv]; decide⟩
  unfold okFnds
  rw [this]
  rfl
theorem fnds_yes {l : List FndR} {n : Nat} (hl : l.length = n) (h : ∀ j m, j < n → l[j]? = some m → okFnd m = true) : okFnds l = decide ((n : Int) ≤ 64) := by
  have : l.all okFnd = true := by
    rw [List.all_eq_true]
    intro m hm
    obtain ⟨j, hj, hx⟩ := List.getElem_of_mem hm
    exact h j m (by omega) (by rw [List.getElem?_eq_getElem hj, hx])
  unfold okFnds
  rw [this, hl, Bool.true_and]
  congr 1
  exact propext ⟨fun h => by omega, fun h => by omega⟩
theorem fnds_next {l : List FndR} {k : Nat} (h : ∀ j m, j < k → l[j]? = some m → okFnd m = true) {m : FndR} (hm : l[k]? = some m) (hv : okFnd m = true) : ∀ j m, j < k + 1 → l[j]? = some m → okFnd m = true := fun j x hj hx => by
  rcases Nat.lt_or_ge j k with h1 | h1
  · exact h j x h1 hx
  · obtain rfl : j = k := by omega
    rw [hm] at hx
    injection hx with hx
    rw [← hx]
    exact hv
set_option maxHeartbeats 2000000 in
theorem impl_validFounds {v : Value} {n b0 : Nat} {l : List FndR} (w : World) (h : w.ownsRow b0 128 8 v n (l.flatMap FndR.cells)) (hd : ∀ x ∈ l, x.d.size ≤ 1048576) :
    Calls Try.prog 76 #[v] w fun e w' => e = .returned (.bool (okFnds l)) ∧ Below w.heap.size w w' := by
  obtain ⟨A, c, rfl, hl, hn, hA⟩ := own_shape h
  have HL : Hid (l.length = n) := by rw [flat_len FndR.len] at hl; unfold Hid; omega
  have H1 := Hid.in_ hA
  have HD := Hid.in_ hd
  clear hA hl h hd
  go_enter Try.func76, Try.ntmps76
  go_wp2_with fail
  go_loopg [7] n (fun m i wr => ∃ k : Nat, k + m = n ∧ i = .int .i64 k ∧ Hid (∀ j m, j < k → l[j]? = some m → okFnd m = true) ∧ Hid (Below w.heap.size w wr))
  case atStart => exact ⟨0, by omega, rfl, fun j m hj => by omega, Below.refl _ _⟩
  case round =>
    obtain ⟨k, hkm, rfl, HA, HB⟩ := hrel
    have HK := Hid.in_ hkm
    clear hkm
    by_cases hlt : k < n
    · obtain ⟨g1, rfl, _, hg1, hx1, _⟩ := H1.out (by omega)
      obtain ⟨m, hm⟩ := get_lt l k (by rw [HL.out]; exact hlt)
      obtain ⟨x0, x1, x2, x3, x4, x5, x6, x7⟩ := boxAt8 ((Box.elem FndR.len hx1 hm).step HB.out)
      have HM := Hid.in_ hm
      have HDM := Hid.in_ (HD.out m (List.mem_of_getElem? hm))
      clear hx1 hm
      go_wp2_with fail
      refine (impl_ValidFound _ _ _ _ _ _ _ _ _ HDM.out).mono ?_
      rintro e w2 ⟨rfl, hb2⟩
      have HB2 := Hid.in_ (bstep (balloc HB.out _) hb2)
      clear hb2 x0 x1 x2 x3 x4 x5 x6 x7
      cases hv : validFound m.c m.h m.n m.s m.d m.t m.l m.p
      · have HQ := Hid.in_ (fnds_no HM.out hv)
        clear hv
        go_wp2
        go_ret
        exact ⟨ret_bool HQ.out.symm, HB2.out⟩
      · have HQ := Hid.in_ (fnds_next HA.out HM.out hv)
        clear hv
        go_wp2
        have hk := HK.out
        go_roundg (gk - 1)
        case measure => omega
        case rel => exact ⟨k + 1, by omega, by go_num, HQ, HB2⟩
    · have hk := HK.out
      obtain rfl : k = n := by omega
      have HV := Hid.in_ (fnds_yes HL.out HA.out)
      go_wp2
      go_ret
      exact ⟨ret_bool HV.out.symm, HB.out⟩
set_option maxHeartbeats 2000000 in
theorem spec_l09List {v : Value} {n b0 : Nat} {l : List FndR} (w : World) (h : w.ownsRow b0 128 8 v n (l.flatMap FndR.cells)) (hd : ∀ x ∈ l, x.d.size ≤ 1048576) :
    Calls Try.prog 72 #[v] w fun e w' => e = .returned (.bool (okFnds l)) ∧ Below w.heap.size w w' := by
  obtain ⟨A, c, rfl, hl, hn, hA⟩ := own_shape h
  have HL : Hid (l.length = n) := by rw [flat_len FndR.len] at hl; unfold Hid; omega
  have H1 := Hid.in_ hA
  have HD := Hid.in_ hd
  clear hA hl h hd
  go_enter Try.func72, Try.ntmps72
  go_wp2_with fail
  go_loopg [3] n (fun m i wr => ∃ k : Nat, k + m = n ∧ i = .int .i64 k ∧ Hid (∀ j m, j < k → l[j]? = some m → okFnd m = true) ∧ Hid (Below w.heap.size w wr))
  case atStart => exact ⟨0, by omega, rfl, fun j m hj => by omega, Below.refl _ _⟩
  case round =>
    obtain ⟨k, hkm, rfl, HA, HB⟩ := hrel
    have HK := Hid.in_ hkm
    clear hkm
    by_cases hlt : k < n
    · obtain ⟨g1, rfl, _, hg1, hx1, _⟩ := H1.out (by omega)
      obtain ⟨m, hm⟩ := get_lt l k (by rw [HL.out]; exact hlt)
      have HX := Hid.in_ ((Box.elem FndR.len hx1 hm).step HB.out)
      have HM := Hid.in_ hm
      have HDM := Hid.in_ (HD.out m (List.mem_of_getElem? hm))
      clear hx1 hm
      go_wp2_with fail
      refine (spec_l09Ok _ HDM.out HX.out).mono ?_
      rintro e w2 ⟨rfl, q, rfl⟩
      have HB2 := Hid.in_ (below_drewN HB.out q)
      cases hv : validFound m.c m.h m.n m.s m.d m.t m.l m.p
      · have HQ := Hid.in_ (fnds_no HM.out hv)
        clear hv
        go_wp2
        go_ret
        exact ⟨ret_bool HQ.out.symm, HB2.out⟩
      · have HQ := Hid.in_ (fnds_next HA.out HM.out hv)
        clear hv
        go_wp2
        have hk := HK.out
        go_roundg (gk - 1)
        case measure => omega
        case rel => exact ⟨k + 1, by omega, by go_num, HQ, HB2⟩
    · have hk := HK.out
      obtain rfl : k = n := by omega
      have HV := Hid.in_ (fnds_yes HL.out HA.out)
      go_wp2
      go_ret
      exact ⟨ret_bool HV.out.symm, HB.out⟩
end Go.Proofs.Ytlelgpknkgjaeaa
