/- The laws' helpers over records of one-cell fields: 'to..', 'to..S', 'sz..S', 'eq..', 'eq..S', 'mark..S', 'held..S'. -/
import Derived.Test.YtklaakhdpfgffabDoorRow
import Derived.Test.YtklaakhdpfgffabDoorRec1
import Derived.StillTailTactics
namespace Go.Proofs.YtklaakhdpfgffabDoor
open Go.ChangeShapes Go.WideShapes Go.ChangeAt Go.RowKit
set_option linter.unusedVariables false
set_option linter.unusedSimpArgs false
set_option maxRecDepth 4000

def FeatR.zero : FeatR := ⟨0, 0, 0⟩
def FeatR.mark (k : Int) : FeatR := ⟨k, k + 1, k + 2⟩
def FeatR.marks (k : Int) (n : Nat) : List FeatR := (List.range n).map fun (i : Nat) => FeatR.mark (k + 3 * (i : Int))
theorem FeatR.marks_len (k : Int) (n : Nat) : (FeatR.marks k n).length = n := by simp [FeatR.marks]
theorem FeatR.marks_get (k : Int) (n i : Nat) (h : i < n) : (FeatR.marks k n)[i]? = some (FeatR.mark (k + 3 * (i : Int))) := by simp [FeatR.marks, h]
theorem FeatR.marks_succ (k : Int) (n : Nat) : FeatR.marks k (n + 1) = FeatR.marks k n ++ [FeatR.mark (k + 3 * (n : Int))] := by simp [FeatR.marks, List.range_succ]
theorem FeatR.marks_step (m : Int) (k : Nat) (l : List FeatR) (hk : k < l.length) : (FeatR.marks m k ++ l.drop k).set k (FeatR.mark (m + 3 * (k : Int))) = FeatR.marks m (k + 1) ++ l.drop (k + 1) := by
  have h3 : l.drop k = l[k] :: l.drop (k + 1) := List.drop_eq_getElem_cons hk
  rw [FeatR.marks_succ, h3, List.set_append_right _ _ (by rw [FeatR.marks_len]; omega), FeatR.marks_len, Nat.sub_self, List.set_cons_zero]
  simp only [List.append_assoc, List.cons_append, List.nil_append]

def MarkR.zero : MarkR := ⟨0, 0, 0⟩
theorem Tryd.info_Mark : (Tryd.prog.info? 53).map (fun i => (i.zero, i.size, i.bytes)) = some (some (.agg #[.int .i64 0, .int .i64 0, .int .i64 0]), 3, 24) := by kernel_rfl
set_option maxHeartbeats 1000000 in
theorem laws_toMarkS {A : Option Addr} {cap n : Nat} {l : List MarkR} (w : World) (hA : ArgS w A n cap 3 (l.flatMap MarkR.cells)) (hl : l.length = n) (hn : n ≤ 1048576) :
    Calls Tryd.prog 8 #[.slice A n cap] w fun e w' => ∃ v, e = .returned v ∧ w'.ownsRow w.heap.size 53 3 v n (l.flatMap MarkR.cells) ∧ Below w.heap.size w w' := by
  obtain ⟨i0, hi0, hz0, hz1, hz2⟩ := info_parts Tryd.info_Mark
  have HN := Hid.in_ hl
  have HA := Hid.in_ hA
  clear hA hl
  go_enter Tryd.func8, Tryd.ntmps8
  go_wp2_with (at_make; refine wpList_make_full _ rfl _ _ _ rfl w.heap.size 53 i0 _ 3 Tryd.underlying28 hi0 hz0 hz1 _ _ _ _ n rfl rfl rfl rfl (by rw [hz2]; omega) (by unfold maxLen; omega) (Nat.le_refl _) ?_; intro w1 hown hgrow)
  have HO : Hid (w1.ownsRow w.heap.size 53 3 (.slice (some ⟨w.heap.size, 0, none⟩) n n) n ((fillR l MarkR.zero 0).flatMap MarkR.cells) ∧ Below w.heap.size w w1) := by
    refine ⟨?_, (Below.refl _ _).grown hgrow (Nat.le_refl _) (by simp)⟩
    rw [fillR_none, HN.out, ← made_flat MarkR.len MarkR.zero n]
    exact hown
  clear hown hgrow
  go_loopg [4] n (fun m i wr => ∃ k : Nat, k + m = n ∧ i = .int .i64 k ∧ Hid (wr.ownsRow w.heap.size 53 3 (.slice (some ⟨w.heap.size, 0, none⟩) n n) n ((fillR l MarkR.zero k).flatMap MarkR.cells) ∧ Below w.heap.size w wr))
  case atStart => exact ⟨0, by omega, rfl, HO⟩
  case round =>
    clear HO
    obtain ⟨k, hkm, rfl, HO⟩ := hrel
    have HK := Hid.in_ hkm
    clear hkm
    by_cases hlt : k < n
    · obtain ⟨b, o, rfl, hb, hc⟩ := HA.out.2.2.2 (by omega) (by omega)
      obtain ⟨m, hm⟩ := get_lt l k (by rw [HN.out]; exact hlt)
      have hB : BoxAt wr b (o + k * 3) m.cells := ((BoxAt.elem MarkR.len hc hm).step HO.out.2)
      obtain ⟨c0, c1, c2⟩ := boxAt3 hB
      have HC := Hid.in_ hc
      have HM := Hid.in_ hm
      clear hB hc hm
      go_wp2_with fail
      refine (laws_toMark _ _ _ _).mono ?_
      rintro e w2 ⟨rfl, hb2⟩
      clear c0 c1 c2
      have hO2 := ostep hb2 HO.out.1
      have hlen : k < (fillR l MarkR.zero k).length := by rw [fillR_len _ _ _ (by rw [HN.out]; omega), HN.out]; exact hlt
      obtain ⟨y, hy⟩ := get_lt _ k hlen
      obtain ⟨A', c', hv, _, _, hA'⟩ := own_shape hO2
      obtain ⟨g', hg', _, _, hbox, hfz⟩ := hA' (by omega)
      obtain ⟨rfl⟩ : w.heap.size = g' := by injection hv with h1 h2 h3; rw [hg'] at h1; injection h1 with h1; injection h1
      obtain ⟨c0, c1, c2⟩ := boxAt3 (Box.elem MarkR.len hbox hy)
      have f0 := hfz (k * 3)
      have f1 := hfz (k * 3 + 1)
      have f2 := hfz (k * 3 + 2)
      have hS := own_setRec MarkR.len m hlen hO2
      rw [fillR_set HM.out] at hS
      have HO2 := Hid.in_ (And.intro hS.1 (Below.setCells (Nat.le_refl _) m.cells (k * 3) (HO.out.2.trans (hb2.mono HO.out.2.size))))
      clear hS hbox hfz hA' hv hg' hy hO2 hb2 HO
      go_wp2
      have hk := HK.out
      go_roundg (gk - 1)
      case measure => omega
      case rel => exact ⟨k + 1, by omega, by go_num, HO2⟩
    · have hk := HK.out
      obtain rfl : k = n := by omega
      have hO := HO.out
      rw [← HN.out, fillR_all] at hO
      have HO3 := Hid.in_ hO
      clear hO
      go_wp2
      go_ret
      rw [← HN.out]
      exact ⟨_, rfl, HO3.out⟩
theorem laws_szMarkS {A : Option Addr} {cap n : Nat} (left : Int) (w : World) (hn : n ≤ maxLen) (hl : 0 ≤ left) (hl2 : left ≤ 1048576) :
    Calls Tryd.prog 6 #[.slice A n cap, .int .i64 left] w fun e w' => e = .returned (.int .i64 (szLeft left n)) ∧ w = w' := by
  unfold maxLen at hn
  by_cases hlt : left < n
  · have HV := Hid.in_ (szLeft_neg hlt)
    go_enter Tryd.func6, Tryd.ntmps6
    go_wp2
    go_ret
    exact ⟨ret_int HV.out.symm, rfl⟩
  · have HV := Hid.in_ (szLeft_pos (left := left) (n := n) (by omega))
    go_enter Tryd.func6, Tryd.ntmps6
    go_wp2
    go_ret
    exact ⟨ret_int HV.out.symm, rfl⟩
theorem laws_eqMark (k : Int) (a : Int) (b : Int) (w : World) :
    Calls Tryd.prog 30 #[.agg #[.int .i64 k, .int .i64 a, .int .i64 b], .agg #[.int .i64 k, .int .i64 a, .int .i64 b]] w fun e w' => e = .returned (.bool true) ∧ Below w.heap.size w w' := by
  go_enter Tryd.func30, Tryd.ntmps30
  go_wp2
  go_ret
  exact ⟨rfl, by go_grown⟩
theorem laws_eqMarkS {v1 v2 : Value} {n b1 b2 : Nat} {l : List MarkR} (w : World) (h1 : w.ownsRow b1 53 3 v1 n (l.flatMap MarkR.cells)) (h2 : w.ownsRow b2 53 3 v2 n (l.flatMap MarkR.cells)) :
    Calls Tryd.prog 11 #[v1, v2] w fun e w' => e = .returned (.bool true) ∧ Below w.heap.size w w' := by
  obtain ⟨A1, c1, rfl, hl1, hn, hA1⟩ := own_shape h1
  obtain ⟨A2, c2, rfl, hl2, _, hA2⟩ := own_shape h2
  have HL : Hid (l.length = n) := by rw [flat_len MarkR.len] at hl1; unfold Hid; omega
  have H1 := Hid.in_ hA1
  have H2 := Hid.in_ hA2
  clear hA1 hA2 hl1 hl2 h1 h2
  go_enter Tryd.func11, Tryd.ntmps11
  go_wp2
  go_loopg [5] n (fun m i wr => ∃ k : Nat, k + m = n ∧ i = .int .i64 k ∧ Below w.heap.size w wr)
  case atStart => exact ⟨0, by omega, rfl, Below.refl _ _⟩
  case round =>
    obtain ⟨k, hkm, rfl, hbw⟩ := hrel
    have HK := Hid.in_ hkm
    have HB := Hid.in_ hbw
    clear hkm hbw
    by_cases hlt : k < n
    · obtain ⟨g1, rfl, _, hg1, hx1, _⟩ := H1.out (by omega)
      obtain ⟨g2, rfl, _, hg2, hx2, _⟩ := H2.out (by omega)
      obtain ⟨m, hm⟩ := get_lt l k (by rw [HL.out]; exact hlt)
      obtain ⟨c0, c1, c2⟩ := boxAt3 ((Box.elem MarkR.len hx1 hm).step HB.out)
      obtain ⟨d0, d1, d2⟩ := boxAt3 ((Box.elem MarkR.len hx2 hm).step HB.out)
      clear hx1 hx2 hm
      go_wp2_with fail
      go_still_tail 8, (by kernel_rfl)
      change wpList _ _ _ _ _ wr.drew
      have HB2 : Hid (Below w.heap.size w wr.drew) := HB.out.drew
      generalize wr.drew = w2 at *
      clear c0 c1 c2 d0 d1 d2
      go_wp2_with fail
      refine (laws_eqMark _ _ _ _).mono ?_
      rintro e w3 ⟨rfl, hb3⟩
      go_wp2
      have hk := HK.out
      go_roundg (gk - 1)
      case measure => omega
      case rel => exact ⟨k + 1, by omega, by go_num, bstep HB2.out hb3⟩
    · have hk := HK.out
      obtain rfl : k = n := by omega
      go_wp2
      go_ret
      exact ⟨rfl, HB.out⟩
def MarkR.mark (k : Int) : MarkR := ⟨k, k + 1, k + 2⟩
def MarkR.marks (k : Int) (n : Nat) : List MarkR := (List.range n).map fun (i : Nat) => MarkR.mark (k + 3 * (i : Int))
theorem MarkR.marks_len (k : Int) (n : Nat) : (MarkR.marks k n).length = n := by simp [MarkR.marks]
theorem MarkR.marks_get (k : Int) (n i : Nat) (h : i < n) : (MarkR.marks k n)[i]? = some (MarkR.mark (k + 3 * (i : Int))) := by simp [MarkR.marks, h]
theorem MarkR.marks_succ (k : Int) (n : Nat) : MarkR.marks k (n + 1) = MarkR.marks k n ++ [MarkR.mark (k + 3 * (n : Int))] := by simp [MarkR.marks, List.range_succ]
theorem MarkR.marks_step (m : Int) (k : Nat) (l : List MarkR) (hk : k < l.length) : (MarkR.marks m k ++ l.drop k).set k (MarkR.mark (m + 3 * (k : Int))) = MarkR.marks m (k + 1) ++ l.drop (k + 1) := by
  have h3 : l.drop k = l[k] :: l.drop (k + 1) := List.drop_eq_getElem_cons hk
  rw [MarkR.marks_succ, h3, List.set_append_right _ _ (by rw [MarkR.marks_len]; omega), MarkR.marks_len, Nat.sub_self, List.set_cons_zero]
  simp only [List.append_assoc, List.cons_append, List.nil_append]

def RunR.zero : RunR := ⟨0, 0⟩
def RunR.mark (k : Int) : RunR := ⟨k, k + 1⟩
def RunR.marks (k : Int) (n : Nat) : List RunR := (List.range n).map fun (i : Nat) => RunR.mark (k + 2 * (i : Int))
theorem RunR.marks_len (k : Int) (n : Nat) : (RunR.marks k n).length = n := by simp [RunR.marks]
theorem RunR.marks_get (k : Int) (n i : Nat) (h : i < n) : (RunR.marks k n)[i]? = some (RunR.mark (k + 2 * (i : Int))) := by simp [RunR.marks, h]
theorem RunR.marks_succ (k : Int) (n : Nat) : RunR.marks k (n + 1) = RunR.marks k n ++ [RunR.mark (k + 2 * (n : Int))] := by simp [RunR.marks, List.range_succ]
theorem RunR.marks_step (m : Int) (k : Nat) (l : List RunR) (hk : k < l.length) : (RunR.marks m k ++ l.drop k).set k (RunR.mark (m + 2 * (k : Int))) = RunR.marks m (k + 1) ++ l.drop (k + 1) := by
  have h3 : l.drop k = l[k] :: l.drop (k + 1) := List.drop_eq_getElem_cons hk
  rw [RunR.marks_succ, h3, List.set_append_right _ _ (by rw [RunR.marks_len]; omega), RunR.marks_len, Nat.sub_self, List.set_cons_zero]
  simp only [List.append_assoc, List.cons_append, List.nil_append]

def SecR.zero : SecR := ⟨0, 0, 0, 0, ByteArray.empty, false, false, false⟩

def FndR.zero : FndR := ⟨0, 0, 0, 0, ByteArray.empty, 0, false, 0⟩
theorem Tryd.info_Found : (Tryd.prog.info? 25).map (fun i => (i.zero, i.size, i.bytes)) = some (some (.agg #[.int .i64 0, .int .i64 0, .int .i64 0, .int .i64 0, .string ByteArray.empty, .int .i64 0, .bool false, .int .i64 0]), 8, 72) := by kernel_rfl
theorem laws_eqFound (c : Int) (h : Int) (n : Int) (s : Int) (d : ByteArray) (t : Int) (l : Bool) (p : Int) (w : World) :
    Calls Tryd.prog 10 #[.agg #[.int .i64 c, .int .i64 h, .int .i64 n, .int .i64 s, .string d, .int .i64 t, .bool l, .int .i64 p], .agg #[.int .i64 c, .int .i64 h, .int .i64 n, .int .i64 s, .string d, .int .i64 t, .bool l, .int .i64 p]] w fun e w' => e = .returned (.bool true) ∧ Below w.heap.size w w' := by
  go_enter Tryd.func10, Tryd.ntmps10
  go_wp2
  go_ret
  exact ⟨rfl, by go_grown⟩

end Go.Proofs.YtklaakhdpfgffabDoor
