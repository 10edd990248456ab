/- The laws' helpers over records of one-cell fields: 'to..', 'to..S', 'sz..S', 'eq..', 'eq..S', 'mark..S', 'held..S'. -/
import Derived.Test.YtlelgpknkgjaeaaRow
import Derived.Test.YtlelgpknkgjaeaaRec1
import Derived.StillTailTactics
namespace Go.Proofs.Ytlelgpknkgjaeaa
open Go.ChangeShapes Go.WideShapes Go.ChangeAt Go.RowKit
set_option linter.unusedVariables false
set_option linter.unusedSimpArgs false
set_option maxRecDepth 4000

def FeatR.zero : FeatR := ⟨0, 0, 0⟩
theorem Try.info_Feature : (Try.prog.info? 95).map (fun i => (i.zero, i.size, i.bytes)) = some (some (.agg #[.int .i64 0, .int .i64 0, .int .i64 0]), 3, 24) := by kernel_rfl
theorem laws_eqFeature (k : Int) (s : Int) (v : Int) (w : World) :
    Calls Try.prog 70 #[.agg #[.int .i64 k, .int .i64 s, .int .i64 v], .agg #[.int .i64 k, .int .i64 s, .int .i64 v]] w fun e w' => e = .returned (.bool true) ∧ Below w.heap.size w w' := by
  go_enter Try.func70, Try.ntmps70
  go_wp2
  go_ret
  exact ⟨rfl, by go_grown⟩
theorem laws_eqFeatureS {v1 v2 : Value} {n b1 b2 : Nat} {l : List FeatR} (w : World) (h1 : w.ownsRow b1 95 3 v1 n (l.flatMap FeatR.cells)) (h2 : w.ownsRow b2 95 3 v2 n (l.flatMap FeatR.cells)) :
    Calls Try.prog 31 #[v1, v2] w fun e w' => e = .returned (.bool true) ∧ Below w.heap.size w w' := by
  obtain ⟨A1, c1, rfl, hl1, hn, hA1⟩ := own_shape h1
  obtain ⟨A2, c2, rfl, hl2, _, hA2⟩ := own_shape h2
  have HL : Hid (l.length = n) := by rw [flat_len FeatR.len] at hl1; unfold Hid; omega
  have H1 := Hid.in_ hA1
  have H2 := Hid.in_ hA2
  clear hA1 hA2 hl1 hl2 h1 h2
  go_enter Try.func31, Try.ntmps31
  go_wp2
  go_loopg [5] n (fun m i wr => ∃ k : Nat, k + m = n ∧ i = .int .i64 k ∧ Below w.heap.size w wr)
  case atStart => exact ⟨0, by omega, rfl, Below.refl _ _⟩
  case round =>
    obtain ⟨k, hkm, rfl, hbw⟩ := hrel
    have HK := Hid.in_ hkm
    have HB := Hid.in_ hbw
    clear hkm hbw
    by_cases hlt : k < n
    · obtain ⟨g1, rfl, _, hg1, hx1, _⟩ := H1.out (by omega)
      obtain ⟨g2, rfl, _, hg2, hx2, _⟩ := H2.out (by omega)
      obtain ⟨m, hm⟩ := get_lt l k (by rw [HL.out]; exact hlt)
      obtain ⟨c0, c1, c2⟩ := boxAt3 ((Box.elem FeatR.len hx1 hm).step HB.out)
      obtain ⟨d0, d1, d2⟩ := boxAt3 ((Box.elem FeatR.len hx2 hm).step HB.out)
      clear hx1 hx2 hm
      go_wp2_with fail
      go_still_tail 8, (by kernel_rfl)
      change wpList _ _ _ _ _ wr.drew
      have HB2 : Hid (Below w.heap.size w wr.drew) := HB.out.drew
      generalize wr.drew = w2 at *
      clear c0 c1 c2 d0 d1 d2
      go_wp2_with fail
      refine (laws_eqFeature _ _ _ _).mono ?_
      rintro e w3 ⟨rfl, hb3⟩
      go_wp2
      have hk := HK.out
      go_roundg (gk - 1)
      case measure => omega
      case rel => exact ⟨k + 1, by omega, by go_num, bstep HB2.out hb3⟩
    · have hk := HK.out
      obtain rfl : k = n := by omega
      go_wp2
      go_ret
      exact ⟨rfl, HB.out⟩
def FeatR.mark (k : Int) : FeatR := ⟨k, k + 1, k + 2⟩
def FeatR.marks (k : Int) (n : Nat) : List FeatR := (List.range n).map fun (i : Nat) => FeatR.mark (k + 3 * (i : Int))
theorem FeatR.marks_len (k : Int) (n : Nat) : (FeatR.marks k n).length = n := by simp [FeatR.marks]
theorem FeatR.marks_get (k : Int) (n i : Nat) (h : i < n) : (FeatR.marks k n)[i]? = some (FeatR.mark (k + 3 * (i : Int))) := by simp [FeatR.marks, h]
theorem FeatR.marks_succ (k : Int) (n : Nat) : FeatR.marks k (n + 1) = FeatR.marks k n ++ [FeatR.mark (k + 3 * (n : Int))] := by simp [FeatR.marks, List.range_succ]
theorem FeatR.marks_step (m : Int) (k : Nat) (l : List FeatR) (hk : k < l.length) : (FeatR.marks m k ++ l.drop k).set k (FeatR.mark (m + 3 * (k : Int))) = FeatR.marks m (k + 1) ++ l.drop (k + 1) := by
  have h3 : l.drop k = l[k] :: l.drop (k + 1) := List.drop_eq_getElem_cons hk
  rw [FeatR.marks_succ, h3, List.set_append_right _ _ (by rw [FeatR.marks_len]; omega), FeatR.marks_len, Nat.sub_self, List.set_cons_zero]
  simp only [List.append_assoc, List.cons_append, List.nil_append]
theorem laws_heldFeatureS {v : Value} {n b : Nat} (m : Int) (w : World) (h : w.ownsRow b 95 3 v n ((FeatR.marks m n).flatMap FeatR.cells)) (hm : 0 ≤ m) (hm2 : m ≤ 4294967296) (hn2 : n ≤ 4294967296) :
    Calls Try.prog 34 #[v, .int .i64 m] w fun e w' => e = .returned (.int .i64 (m + 3 * (n : Int))) ∧ w = w' := by
  obtain ⟨A, c, rfl, hl, hn, hA⟩ := own_shape h
  have H1 := Hid.in_ hA
  clear hA hl h
  go_enter Try.func34, Try.ntmps34
  go_wp2
  go_loopg [1, 5] n (fun r m' i wr => ∃ k : Nat, k + r = n ∧ i = .int .i64 k ∧ m' = .int .i64 (m + 3 * (k : Int)) ∧ w = wr)
  case atStart => exact ⟨0, by omega, rfl, by simp, rfl⟩
  case round =>
    obtain ⟨k, hkm, rfl, rfl, rfl⟩ := hrel
    have HK := Hid.in_ hkm
    clear hkm
    by_cases hlt : k < n
    · obtain ⟨g, rfl, _, _, hx, _⟩ := H1.out (by omega)
      obtain ⟨c0, c1, c2⟩ := boxAt3 (Box.elem FeatR.len hx (FeatR.marks_get m n k hlt))
      clear hx
      simp only [FeatR.mark] at c0 c1 c2
      go_wp2
      have hk := HK.out
      go_roundg (gk - 1)
      case measure => omega
      case rel => exact ⟨k + 1, by omega, by go_num, by go_num, rfl⟩
    · have hk := HK.out
      obtain rfl : k = n := by omega
      go_wp2
      go_ret
      exact ⟨rfl, rfl⟩
theorem laws_markFeatureS {v : Value} {n b : Nat} {l : List FeatR} (m : Int) (w : World) (h : w.ownsRow b 95 3 v n (l.flatMap FeatR.cells)) (hm : 0 ≤ m) (hm2 : m ≤ 4294967296) (hn2 : n ≤ 4294967296) :
    Calls Try.prog 33 #[v, .int .i64 m] w fun e w' => e = .returned (.int .i64 (m + 3 * (n : Int))) ∧ w'.ownsRow b 95 3 v n ((FeatR.marks m n).flatMap FeatR.cells) ∧ w.grownBy w' v.ownBlock := by
  have hlx : l.length = n := by have := h.1; rw [flat_len FeatR.len] at this; omega
  obtain ⟨A, c, rfl, hl, hn, hA⟩ := own_shape h
  have HX := Hid.in_ hlx
  have H0 := Hid.in_ h
  clear hA hl h hlx
  go_enter Try.func33, Try.ntmps33
  go_wp2
  go_loopg [1, 5] n (fun r m' i wr => ∃ k : Nat, k + r = n ∧ i = .int .i64 k ∧ m' = .int .i64 (m + 3 * (k : Int)) ∧ Hid (wr.ownsRow b 95 3 (.slice A n c) n ((FeatR.marks m k ++ l.drop k).flatMap FeatR.cells) ∧ w.grownBy wr (Value.slice A n c).ownBlock))
  case atStart => exact ⟨0, by omega, rfl, by simp, by simpa [FeatR.marks] using H0.out, World.grownBy.refl _ _⟩
  case round =>
    obtain ⟨k, hkm, rfl, rfl, HO⟩ := hrel
    have HK := Hid.in_ hkm
    clear hkm
    by_cases hlt : k < n
    · obtain ⟨A', c', hv, hl', _, hA'⟩ := own_shape HO.out.1
      obtain ⟨g, hg, _, _, hx, hfz⟩ := hA' (by omega)
      obtain ⟨rfl, rfl⟩ : A = A' ∧ c = c' := by injection hv with h1 h2 h3; exact ⟨h1, h3⟩
      subst hg
      have hlen : k < (FeatR.marks m k ++ l.drop k).length := by rw [List.length_append, FeatR.marks_len, List.length_drop, HX.out]; omega
      obtain ⟨y, hy⟩ := get_lt _ k hlen
      obtain ⟨c0, c1, c2⟩ := boxAt3 (Box.elem FeatR.len hx hy)
      have f0 := hfz (k * 3)
      have f1 := hfz (k * 3 + 1)
      have f2 := hfz (k * 3 + 2)
      have hS := own_setRec FeatR.len (FeatR.mark (m + 3 * (k : Int))) hlen HO.out.1
      rw [FeatR.marks_step m k l (by rw [HX.out]; exact hlt)] at hS
      have HO2 := Hid.in_ (And.intro hS.1 (World.grownBy.trans (show w.grownBy wr (some g) from HO.out.2) hS.2))
      rw [show FeatR.mark (m + 3 * (k : Int)) = ⟨m + 3 * (k : Int), m + 3 * (k : Int) + 1, m + 3 * (k : Int) + 1 + 1⟩ from congrArg (FeatR.mk _ _) (by omega)] at HO2
      clear hx hfz hy hv hl' HO hS hA'
      go_wp2
      have hk := HK.out
      go_roundg (gk - 1)
      case measure => omega
      case rel => exact ⟨k + 1, by omega, by go_num, by go_num, HO2⟩
    · have hk := HK.out
      obtain rfl : k = n := by omega
      have HE : Hid (wr.ownsRow b 95 3 (.slice A k c) k ((FeatR.marks m k).flatMap FeatR.cells) ∧ w.grownBy wr (Value.slice A k c).ownBlock) := by
        have := HO.out
        rw [List.drop_of_length_le (by rw [HX.out]; exact Nat.le_refl _), List.append_nil] at this
        exact this
      clear HO
      go_wp2
      go_ret
      exact ⟨rfl, HE.out⟩

def MarkR.zero : MarkR := ⟨0, 0, 0⟩
def MarkR.mark (k : Int) : MarkR := ⟨k, k + 1, k + 2⟩
def MarkR.marks (k : Int) (n : Nat) : List MarkR := (List.range n).map fun (i : Nat) => MarkR.mark (k + 3 * (i : Int))
theorem MarkR.marks_len (k : Int) (n : Nat) : (MarkR.marks k n).length = n := by simp [MarkR.marks]
theorem MarkR.marks_get (k : Int) (n i : Nat) (h : i < n) : (MarkR.marks k n)[i]? = some (MarkR.mark (k + 3 * (i : Int))) := by simp [MarkR.marks, h]
theorem MarkR.marks_succ (k : Int) (n : Nat) : MarkR.marks k (n + 1) = MarkR.marks k n ++ [MarkR.mark (k + 3 * (n : Int))] := by simp [MarkR.marks, List.range_succ]
theorem MarkR.marks_step (m : Int) (k : Nat) (l : List MarkR) (hk : k < l.length) : (MarkR.marks m k ++ l.drop k).set k (MarkR.mark (m + 3 * (k : Int))) = MarkR.marks m (k + 1) ++ l.drop (k + 1) := by
  have h3 : l.drop k = l[k] :: l.drop (k + 1) := List.drop_eq_getElem_cons hk
  rw [MarkR.marks_succ, h3, List.set_append_right _ _ (by rw [MarkR.marks_len]; omega), MarkR.marks_len, Nat.sub_self, List.set_cons_zero]
  simp only [List.append_assoc, List.cons_append, List.nil_append]

def RunR.zero : RunR := ⟨0, 0⟩
def RunR.mark (k : Int) : RunR := ⟨k, k + 1⟩
def RunR.marks (k : Int) (n : Nat) : List RunR := (List.range n).map fun (i : Nat) => RunR.mark (k + 2 * (i : Int))
theorem RunR.marks_len (k : Int) (n : Nat) : (RunR.marks k n).length = n := by simp [RunR.marks]
theorem RunR.marks_get (k : Int) (n i : Nat) (h : i < n) : (RunR.marks k n)[i]? = some (RunR.mark (k + 2 * (i : Int))) := by simp [RunR.marks, h]
theorem RunR.marks_succ (k : Int) (n : Nat) : RunR.marks k (n + 1) = RunR.marks k n ++ [RunR.mark (k + 2 * (n : Int))] := by simp [RunR.marks, List.range_succ]
theorem RunR.marks_step (m : Int) (k : Nat) (l : List RunR) (hk : k < l.length) : (RunR.marks m k ++ l.drop k).set k (RunR.mark (m + 2 * (k : Int))) = RunR.marks m (k + 1) ++ l.drop (k + 1) := by
  have h3 : l.drop k = l[k] :: l.drop (k + 1) := List.drop_eq_getElem_cons hk
  rw [RunR.marks_succ, h3, List.set_append_right _ _ (by rw [RunR.marks_len]; omega), RunR.marks_len, Nat.sub_self, List.set_cons_zero]
  simp only [List.append_assoc, List.cons_append, List.nil_append]

def SecR.zero : SecR := ⟨0, 0, 0, 0, ByteArray.empty, false, false, false⟩
theorem Try.info_SectorSpec : (Try.prog.info? 85).map (fun i => (i.zero, i.size, i.bytes)) = some (some (.agg #[.int .i64 0, .int .i64 0, .int .i64 0, .int .i64 0, .string ByteArray.empty, .bool false, .bool false, .bool false]), 8, 56) := by kernel_rfl
set_option maxHeartbeats 1000000 in
theorem laws_toSectorSpecS {A : Option Addr} {cap n : Nat} {l : List SecR} (w : World) (hA : ArgS w A n cap 8 (l.flatMap SecR.cells)) (hl : l.length = n) (hn : n ≤ 1048576) :
    Calls Try.prog 59 #[.slice A n cap] w fun e w' => ∃ v, e = .returned v ∧ w'.ownsRow w.heap.size 85 8 v n (l.flatMap SecR.cells) ∧ Below w.heap.size w w' := by
  obtain ⟨i0, hi0, hz0, hz1, hz2⟩ := info_parts Try.info_SectorSpec
  have HN := Hid.in_ hl
  have HA := Hid.in_ hA
  clear hA hl
  go_enter Try.func59, Try.ntmps59
  go_wp2_with (at_make; refine wpList_make_full _ rfl _ _ _ rfl w.heap.size 85 i0 _ 8 Try.underlying42 hi0 hz0 hz1 _ _ _ _ n rfl rfl rfl rfl (by rw [hz2]; omega) (by unfold maxLen; omega) (Nat.le_refl _) ?_; intro w1 hown hgrow)
  have HO : Hid (w1.ownsRow w.heap.size 85 8 (.slice (some ⟨w.heap.size, 0, none⟩) n n) n ((fillR l SecR.zero 0).flatMap SecR.cells) ∧ Below w.heap.size w w1) := by
    refine ⟨?_, (Below.refl _ _).grown hgrow (Nat.le_refl _) (by simp)⟩
    rw [fillR_none, HN.out, ← made_flat SecR.len SecR.zero n]
    exact hown
  clear hown hgrow
  go_loopg [4] n (fun m i wr => ∃ k : Nat, k + m = n ∧ i = .int .i64 k ∧ Hid (wr.ownsRow w.heap.size 85 8 (.slice (some ⟨w.heap.size, 0, none⟩) n n) n ((fillR l SecR.zero k).flatMap SecR.cells) ∧ Below w.heap.size w wr))
  case atStart => exact ⟨0, by omega, rfl, HO⟩
  case round =>
    clear HO
    obtain ⟨k, hkm, rfl, HO⟩ := hrel
    have HK := Hid.in_ hkm
    clear hkm
    by_cases hlt : k < n
    · obtain ⟨b, o, rfl, hb, hc⟩ := HA.out.2.2.2 (by omega) (by omega)
      obtain ⟨m, hm⟩ := get_lt l k (by rw [HN.out]; exact hlt)
      have hB : BoxAt wr b (o + k * 8) m.cells := ((BoxAt.elem SecR.len hc hm).step HO.out.2)
      obtain ⟨c0, c1, c2, c3, c4, c5, c6, c7⟩ := boxAt8 hB
      have HC := Hid.in_ hc
      have HM := Hid.in_ hm
      clear hB hc hm
      go_wp2_with fail
      refine (laws_toSectorSpec _ _ _ _ _ _ _ _ _).mono ?_
      rintro e w2 ⟨rfl, hb2⟩
      clear c0 c1 c2 c3 c4 c5 c6 c7
      have hO2 := ostep hb2 HO.out.1
      have hlen : k < (fillR l SecR.zero k).length := by rw [fillR_len _ _ _ (by rw [HN.out]; omega), HN.out]; exact hlt
      obtain ⟨y, hy⟩ := get_lt _ k hlen
      obtain ⟨A', c', hv, _, _, hA'⟩ := own_shape hO2
      obtain ⟨g', hg', _, _, hbox, hfz⟩ := hA' (by omega)
      obtain ⟨rfl⟩ : w.heap.size = g' := by injection hv with h1 h2 h3; rw [hg'] at h1; injection h1 with h1; injection h1
      obtain ⟨c0, c1, c2, c3, c4, c5, c6, c7⟩ := boxAt8 (Box.elem SecR.len hbox hy)
      have f0 := hfz (k * 8)
      have f1 := hfz (k * 8 + 1)
      have f2 := hfz (k * 8 + 2)
      have f3 := hfz (k * 8 + 3)
      have f4 := hfz (k * 8 + 4)
      have f5 := hfz (k * 8 + 5)
      have f6 := hfz (k * 8 + 6)
      have f7 := hfz (k * 8 + 7)
      have hS := own_setRec SecR.len m hlen hO2
      rw [fillR_set HM.out] at hS
      have HO2 := Hid.in_ (And.intro hS.1 (Below.setCells (Nat.le_refl _) m.cells (k * 8) (HO.out.2.trans (hb2.mono HO.out.2.size))))
      clear hS hbox hfz hA' hv hg' hy hO2 hb2 HO
      go_wp2
      have hk := HK.out
      go_roundg (gk - 1)
      case measure => omega
      case rel => exact ⟨k + 1, by omega, by go_num, HO2⟩
    · have hk := HK.out
      obtain rfl : k = n := by omega
      have hO := HO.out
      rw [← HN.out, fillR_all] at hO
      have HO3 := Hid.in_ hO
      clear hO
      go_wp2
      go_ret
      rw [← HN.out]
      exact ⟨_, rfl, HO3.out⟩
theorem laws_eqSectorSpec (c : Int) (h : Int) (n : Int) (s : Int) (d : ByteArray) (x : Bool) (y : Bool) (z : Bool) (w : World) :
    Calls Try.prog 89 #[.agg #[.int .i64 c, .int .i64 h, .int .i64 n, .int .i64 s, .string d, .bool x, .bool y, .bool z], .agg #[.int .i64 c, .int .i64 h, .int .i64 n, .int .i64 s, .string d, .bool x, .bool y, .bool z]] w fun e w' => e = .returned (.bool true) ∧ Below w.heap.size w w' := by
  go_enter Try.func89, Try.ntmps89
  go_wp2
  go_ret
  exact ⟨rfl, by go_grown⟩
theorem laws_eqSectorSpecS {v1 v2 : Value} {n b1 b2 : Nat} {l : List SecR} (w : World) (h1 : w.ownsRow b1 85 8 v1 n (l.flatMap SecR.cells)) (h2 : w.ownsRow b2 85 8 v2 n (l.flatMap SecR.cells)) :
    Calls Try.prog 64 #[v1, v2] w fun e w' => e = .returned (.bool true) ∧ Below w.heap.size w w' := by
  obtain ⟨A1, c1, rfl, hl1, hn, hA1⟩ := own_shape h1
  obtain ⟨A2, c2, rfl, hl2, _, hA2⟩ := own_shape h2
  have HL : Hid (l.length = n) := by rw [flat_len SecR.len] at hl1; unfold Hid; omega
  have H1 := Hid.in_ hA1
  have H2 := Hid.in_ hA2
  clear hA1 hA2 hl1 hl2 h1 h2
  go_enter Try.func64, Try.ntmps64
  go_wp2
  go_loopg [5] n (fun m i wr => ∃ k : Nat, k + m = n ∧ i = .int .i64 k ∧ Below w.heap.size w wr)
  case atStart => exact ⟨0, by omega, rfl, Below.refl _ _⟩
  case round =>
    obtain ⟨k, hkm, rfl, hbw⟩ := hrel
    have HK := Hid.in_ hkm
    have HB := Hid.in_ hbw
    clear hkm hbw
    by_cases hlt : k < n
    · obtain ⟨g1, rfl, _, hg1, hx1, _⟩ := H1.out (by omega)
      obtain ⟨g2, rfl, _, hg2, hx2, _⟩ := H2.out (by omega)
      obtain ⟨m, hm⟩ := get_lt l k (by rw [HL.out]; exact hlt)
      obtain ⟨c0, c1, c2, c3, c4, c5, c6, c7⟩ := boxAt8 ((Box.elem SecR.len hx1 hm).step HB.out)
      obtain ⟨d0, d1, d2, d3, d4, d5, d6, d7⟩ := boxAt8 ((Box.elem SecR.len hx2 hm).step HB.out)
      clear hx1 hx2 hm
      go_wp2_with fail
      go_still_tail 8, (by kernel_rfl)
      change wpList _ _ _ _ _ wr.drew
      have HB2 : Hid (Below w.heap.size w wr.drew) := HB.out.drew
      generalize wr.drew = w2 at *
      clear c0 c1 c2 c3 c4 c5 c6 c7 d0 d1 d2 d3 d4 d5 d6 d7
      go_wp2_with fail
      refine (laws_eqSectorSpec _ _ _ _ _ _ _ _ _).mono ?_
      rintro e w3 ⟨rfl, hb3⟩
      go_wp2
      have hk := HK.out
      go_roundg (gk - 1)
      case measure => omega
      case rel => exact ⟨k + 1, by omega, by go_num, bstep HB2.out hb3⟩
    · have hk := HK.out
      obtain rfl : k = n := by omega
      go_wp2
      go_ret
      exact ⟨rfl, HB.out⟩

def FndR.zero : FndR := ⟨0, 0, 0, 0, ByteArray.empty, 0, false, 0⟩
theorem Try.info_Found : (Try.prog.info? 128).map (fun i => (i.zero, i.size, i.bytes)) = some (some (.agg #[.int .i64 0, .int .i64 0, .int .i64 0, .int .i64 0, .string ByteArray.empty, .int .i64 0, .bool false, .int .i64 0]), 8, 72) := by kernel_rfl
set_option maxHeartbeats 1000000 in
theorem laws_toFoundS {A : Option Addr} {cap n : Nat} {l : List FndR} (w : World) (hA : ArgS w A n cap 8 (l.flatMap FndR.cells)) (hl : l.length = n) (hn : n ≤ 1048576) :
    Calls Try.prog 74 #[.slice A n cap] w fun e w' => ∃ v, e = .returned v ∧ w'.ownsRow w.heap.size 128 8 v n (l.flatMap FndR.cells) ∧ Below w.heap.size w w' := by
  obtain ⟨i0, hi0, hz0, hz1, hz2⟩ := info_parts Try.info_Found
  have HN := Hid.in_ hl
  have HA := Hid.in_ hA
  clear hA hl
  go_enter Try.func74, Try.ntmps74
  go_wp2_with (at_make; refine wpList_make_full _ rfl _ _ _ rfl w.heap.size 128 i0 _ 8 Try.underlying101 hi0 hz0 hz1 _ _ _ _ n rfl rfl rfl rfl (by rw [hz2]; omega) (by unfold maxLen; omega) (Nat.le_refl _) ?_; intro w1 hown hgrow)
  have HO : Hid (w1.ownsRow w.heap.size 128 8 (.slice (some ⟨w.heap.size, 0, none⟩) n n) n ((fillR l FndR.zero 0).flatMap FndR.cells) ∧ Below w.heap.size w w1) := by
    refine ⟨?_, (Below.refl _ _).grown hgrow (Nat.le_refl _) (by simp)⟩
    rw [fillR_none, HN.out, ← made_flat FndR.len FndR.zero n]
    exact hown
  clear hown hgrow
  go_loopg [4] n (fun m i wr => ∃ k : Nat, k + m = n ∧ i = .int .i64 k ∧ Hid (wr.ownsRow w.heap.size 128 8 (.slice (some ⟨w.heap.size, 0, none⟩) n n) n ((fillR l FndR.zero k).flatMap FndR.cells) ∧ Below w.heap.size w wr))
  case atStart => exact ⟨0, by omega, rfl, HO⟩
  case round =>
    clear HO
    obtain ⟨k, hkm, rfl, HO⟩ := hrel
    have HK := Hid.in_ hkm
    clear hkm
    by_cases hlt : k < n
    · obtain ⟨b, o, rfl, hb, hc⟩ := HA.out.2.2.2 (by omega) (by omega)
      obtain ⟨m, hm⟩ := get_lt l k (by rw [HN.out]; exact hlt)
      have hB : BoxAt wr b (o + k * 8) m.cells := ((BoxAt.elem FndR.len hc hm).step HO.out.2)
      obtain ⟨c0, c1, c2, c3, c4, c5, c6, c7⟩ := boxAt8 hB
      have HC := Hid.in_ hc
      have HM := Hid.in_ hm
      clear hB hc hm
      go_wp2_with fail
      refine (laws_toFound _ _ _ _ _ _ _ _ _).mono ?_
      rintro e w2 ⟨rfl, hb2⟩
      clear c0 c1 c2 c3 c4 c5 c6 c7
      have hO2 := ostep hb2 HO.out.1
      have hlen : k < (fillR l FndR.zero k).length := by rw [fillR_len _ _ _ (by rw [HN.out]; omega), HN.out]; exact hlt
      obtain ⟨y, hy⟩ := get_lt _ k hlen
      obtain ⟨A', c', hv, _, _, hA'⟩ := own_shape hO2
      obtain ⟨g', hg', _, _, hbox, hfz⟩ := hA' (by omega)
      obtain ⟨rfl⟩ : w.heap.size = g' := by injection hv with h1 h2 h3; rw [hg'] at h1; injection h1 with h1; injection h1
      obtain ⟨c0, c1, c2, c3, c4, c5, c6, c7⟩ := boxAt8 (Box.elem FndR.len hbox hy)
      have f0 := hfz (k * 8)
      have f1 := hfz (k * 8 + 1)
      have f2 := hfz (k * 8 + 2)
      have f3 := hfz (k * 8 + 3)
      have f4 := hfz (k * 8 + 4)
      have f5 := hfz (k * 8 + 5)
      have f6 := hfz (k * 8 + 6)
      have f7 := hfz (k * 8 + 7)
      have hS := own_setRec FndR.len m hlen hO2
      rw [fillR_set HM.out] at hS
      have HO2 := Hid.in_ (And.intro hS.1 (Below.setCells (Nat.le_refl _) m.cells (k * 8) (HO.out.2.trans (hb2.mono HO.out.2.size))))
      clear hS hbox hfz hA' hv hg' hy hO2 hb2 HO
      go_wp2
      have hk := HK.out
      go_roundg (gk - 1)
      case measure => omega
      case rel => exact ⟨k + 1, by omega, by go_num, HO2⟩
    · have hk := HK.out
      obtain rfl : k = n := by omega
      have hO := HO.out
      rw [← HN.out, fillR_all] at hO
      have HO3 := Hid.in_ hO
      clear hO
      go_wp2
      go_ret
      rw [← HN.out]
      exact ⟨_, rfl, HO3.out⟩
theorem laws_eqFound (c : Int) (h : Int) (n : Int) (s : Int) (d : ByteArray) (t : Int) (l : Bool) (p : Int) (w : World) :
    Calls Try.prog 106 #[.agg #[.int .i64 c, .int .i64 h, .int .i64 n, .int .i64 s, .string d, .int .i64 t, .bool l, .int .i64 p], .agg #[.int .i64 c, .int .i64 h, .int .i64 n, .int .i64 s, .string d, .int .i64 t, .bool l, .int .i64 p]] w fun e w' => e = .returned (.bool true) ∧ Below w.heap.size w w' := by
  go_enter Try.func106, Try.ntmps106
  go_wp2
  go_ret
  exact ⟨rfl, by go_grown⟩
theorem laws_eqFoundS {v1 v2 : Value} {n b1 b2 : Nat} {l : List FndR} (w : World) (h1 : w.ownsRow b1 128 8 v1 n (l.flatMap FndR.cells)) (h2 : w.ownsRow b2 128 8 v2 n (l.flatMap FndR.cells)) :
    Calls Try.prog 78 #[v1, v2] w fun e w' => e = .returned (.bool true) ∧ Below w.heap.size w w' := by
  obtain ⟨A1, c1, rfl, hl1, hn, hA1⟩ := own_shape h1
  obtain ⟨A2, c2, rfl, hl2, _, hA2⟩ := own_shape h2
  have HL : Hid (l.length = n) := by rw [flat_len FndR.len] at hl1; unfold Hid; omega
  have H1 := Hid.in_ hA1
  have H2 := Hid.in_ hA2
  clear hA1 hA2 hl1 hl2 h1 h2
  go_enter Try.func78, Try.ntmps78
  go_wp2
  go_loopg [5] n (fun m i wr => ∃ k : Nat, k + m = n ∧ i = .int .i64 k ∧ Below w.heap.size w wr)
  case atStart => exact ⟨0, by omega, rfl, Below.refl _ _⟩
  case round =>
    obtain ⟨k, hkm, rfl, hbw⟩ := hrel
    have HK := Hid.in_ hkm
    have HB := Hid.in_ hbw
    clear hkm hbw
    by_cases hlt : k < n
    · obtain ⟨g1, rfl, _, hg1, hx1, _⟩ := H1.out (by omega)
      obtain ⟨g2, rfl, _, hg2, hx2, _⟩ := H2.out (by omega)
      obtain ⟨m, hm⟩ := get_lt l k (by rw [HL.out]; exact hlt)
      obtain ⟨c0, c1, c2, c3, c4, c5, c6, c7⟩ := boxAt8 ((Box.elem FndR.len hx1 hm).step HB.out)
      obtain ⟨d0, d1, d2, d3, d4, d5, d6, d7⟩ := boxAt8 ((Box.elem FndR.len hx2 hm).step HB.out)
      clear hx1 hx2 hm
      go_wp2_with fail
      go_still_tail 8, (by kernel_rfl)
      change wpList _ _ _ _ _ wr.drew
      have HB2 : Hid (Below w.heap.size w wr.drew) := HB.out.drew
      generalize wr.drew = w2 at *
      clear c0 c1 c2 c3 c4 c5 c6 c7 d0 d1 d2 d3 d4 d5 d6 d7
      go_wp2_with fail
      refine (laws_eqFound _ _ _ _ _ _ _ _ _).mono ?_
      rintro e w3 ⟨rfl, hb3⟩
      go_wp2
      have hk := HK.out
      go_roundg (gk - 1)
      case measure => omega
      case rel => exact ⟨k + 1, by omega, by go_num, bstep HB2.out hb3⟩
    · have hk := HK.out
      obtain rfl : k = n := by omega
      go_wp2
      go_ret
      exact ⟨rfl, HB.out⟩

end Go.Proofs.Ytlelgpknkgjaeaa
