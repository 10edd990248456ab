/- 'RepairGcr' of the reference: the nearest code of every group. -/
import Derived.Test.YtklaakhdpfgffaaDoorNear
import Derived.Test.YtklaakhdpfgffaaDoorDecode
import Derived.Laws.Concat
namespace Go.Proofs.YtklaakhdpfgffaaDoor
open Go.ChangeShapes Go.WideShapes Go.ChangeAt Go.RowKit
set_option linter.unusedSimpArgs false
set_option linter.unusedVariables false
set_option maxRecDepth 20000

theorem near_some (g : ByteArray) : ∀ k, 0 < k → ∃ x l, (nearTo g k).2 = x :: l
  | 0, h => by omega
  | k + 1, _ => by
    have hd : nD g k ≤ 5 := distTo_le _ _ _
    unfold nearTo
    split
    · exact ⟨_, _, rfl⟩
    · rename_i h
      have hk : 0 < k := by
        rcases Nat.eq_zero_or_pos k with h0 | h0
        · subst h0
          exact absurd (show nD g 0 < 6 by omega) h
        · exact h0
      obtain ⟨x, l, hx⟩ := near_some g k hk
      split
      · exact ⟨x, l ++ [(k : Int)], by rw [hx]; rfl⟩
      · exact ⟨x, l, hx⟩
theorem near_in (g : ByteArray) : ∀ k, ∀ x ∈ (nearTo g k).2, 0 ≤ x ∧ x < k
  | 0, x, h => by cases h
  | k + 1, x, h => by
    have ih := near_in g k
    unfold nearTo at h
    split at h
    · obtain rfl : x = (k : Int) := by simpa using h
      omega
    · split at h
      · rcases List.mem_append.1 h with h | h
        · have := ih x h
          omega
        · obtain rfl : x = (k : Int) := by simpa using h
          omega
      · have := ih x h
        omega
theorem nearest_some {g : ByteArray} (h : isGrp g = true) : ∃ x l, nearest g = x :: l ∧ 0 ≤ x ∧ x ≤ 15 := by
  obtain ⟨x, l, hx⟩ := near_some g 16 (by omega)
  have hn : nearest g = (nearTo g 16).2 := by unfold nearest; rw [h]; rfl
  have := near_in g 16 x (by rw [hx]; exact List.mem_cons_self ..)
  exact ⟨x, l, by rw [hn, hx], this.1, by omega⟩
/-- The best value of a group. -/
def best (g : ByteArray) : Int := (nearest g).headD 0
theorem grpAt_size {s : ByteArray} {k : Nat} (h : 5 * k + 5 ≤ s.size) : (grpAt s k).size = 5 := by
  unfold grpAt
  rw [ByteArray.size_extract]
  omega
theorem grpAt_grp {s : ByteArray} {k : Nat} (hc : cellStr s = true) (h : 5 * k + 5 ≤ s.size) : isGrp (grpAt s k) = true := by
  unfold isGrp
  rw [decide_eq_true (grpAt_size h), Bool.true_and]
  unfold cellStr at hc
  simp only [Bool.and_eq_true] at hc
  have ha := hc.1
  unfold allBits at ha ⊢
  rw [List.all_eq_true] at ha ⊢
  intro x hx
  exact ha x (mem_extract hx)
theorem gcr_self {g : ByteArray} (h : ¬ gcrValue g < 0) : ∃ v : Nat, v < 16 ∧ gcrValue g = v ∧ g = gcrS v := by
  unfold gcrValue at h ⊢
  split at h
  · rename_i i hi
    have h1 := List.mem_of_find?_eq_some hi
    have h2 := List.find?_some hi
    rw [List.mem_range] at h1
    refine ⟨i, h1, rfl, ?_⟩
    unfold gcrMiss at h2
    simp only [Bool.not_not, beq_iff_eq, Lib.toList_data] at h2
    cases g with
    | mk d =>
      have : (gcrS i).data = d := Array.ext' h2
      rw [← this]
  · exact absurd (by omega) h
theorem nearest_self : ∀ v, v < 16 → nearest (gcrS v) = [(v : Int)] := by decide +kernel
theorem best_self {g : ByteArray} (h : ¬ gcrValue g < 0) : gcrCode (best g) = g ∧ nearest g = [gcrValue g] := by
  obtain ⟨v, hv, h1, rfl⟩ := gcr_self h
  have hn := nearest_self v hv
  refine ⟨?_, by rw [hn, h1]⟩
  unfold best
  rw [hn]
  show gcrCode (v : Int) = _
  rw [gcrCode_yes (by unfold inB; simp; omega)]
  rfl
def repS (s : ByteArray) : Nat → ByteArray
  | 0 => ⟨#[]⟩
  | k + 1 => repS s k ++ gcrCode (best (grpAt s k))
theorem best_code {s : ByteArray} {k : Nat} (hc : cellStr s = true) (h : 5 * k + 5 ≤ s.size) : (gcrCode (best (grpAt s k))).size = 5 := by
  obtain ⟨x, l, hx, h0, h1⟩ := nearest_some (grpAt_grp hc h)
  unfold best
  rw [hx]
  show (gcrCode x).size = 5
  rw [gcrCode_yes (by unfold inB; simp; omega)]
  exact gcrS_size (by omega)
theorem repS_size {s : ByteArray} (hc : cellStr s = true) : ∀ k, 5 * k ≤ s.size → (repS s k).size = 5 * k
  | 0, _ => rfl
  | k + 1, h => by
    show (repS s k ++ gcrCode (best (grpAt s k))).size = _
    rw [ByteArray.size_append, repS_size hc k (by omega), best_code hc (by omega)]
    omega
def doubtTo (s : ByteArray) : Nat → List Int
  | 0 => []
  | k + 1 => doubtTo s k ++ (if gV s k < 0 ∧ 1 < (nearest (grpAt s k)).length then [(k : Int)] else [])
theorem doubtTo_len (s : ByteArray) : ∀ k, (doubtTo s k).length ≤ k
  | 0 => Nat.le_refl _
  | k + 1 => by
    have := doubtTo_len s k
    unfold doubtTo
    split <;> simp <;> omega
theorem doubt_yes {s : ByteArray} {k : Nat} (h : gV s k < 0) (h' : 1 < (nearest (grpAt s k)).length) : doubtTo s (k + 1) = doubtTo s k ++ [(k : Int)] := by
  show doubtTo s k ++ (if gV s k < 0 ∧ 1 < (nearest (grpAt s k)).length then [(k : Int)] else []) = _
  rw [if_pos ⟨h, h'⟩]
theorem doubt_no {s : ByteArray} {k : Nat} (h : ¬ (gV s k < 0 ∧ 1 < (nearest (grpAt s k)).length)) : doubtTo s (k + 1) = doubtTo s k := by
  show doubtTo s k ++ (if gV s k < 0 ∧ 1 < (nearest (grpAt s k)).length then [(k : Int)] else []) = _
  rw [if_neg h, List.append_nil]
def repV (s : ByteArray) : ByteArray := if isGrps s = true then repS s (s.size / 5) else ⟨#[]⟩
def repD (s : ByteArray) : List Int := if isGrps s = true then doubtTo s (s.size / 5) else []
theorem repD_len (s : ByteArray) : (repD s).length ≤ s.size := by
  unfold repD
  split
  · have := doubtTo_len s (s.size / 5)
    omega
  · exact Nat.zero_le _
theorem grps_cell {s : ByteArray} (h : isGrps s = true) : cellStr s = true := by
  unfold isGrps at h
  simp only [Bool.and_eq_true] at h
  exact h.1
end Go.Proofs.YtklaakhdpfgffaaDoor
