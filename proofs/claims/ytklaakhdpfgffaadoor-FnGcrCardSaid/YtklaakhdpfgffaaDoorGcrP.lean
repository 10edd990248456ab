/- Group code of bytes: the plain law of FnGcr. -/
import Derived.Test.YtklaakhdpfgffaaDoorGrepP
import Derived.Test.YtklaakhdpfgffaaDoorOnes
import Derived.Test.YtklaakhdpfgffaaDoorRuns
namespace Go.Proofs.YtklaakhdpfgffaaDoor
open Go.ChangeShapes Go.WideShapes Go.ChangeAt Go.RowKit
set_option linter.unusedSimpArgs false
set_option linter.unusedVariables false
set_option maxRecDepth 4000

theorem nibs_get : ∀ (l : List UInt8) (k : Nat) (hk : k < l.length), (nibs l)[2 * k]? = some (l[k].toNat / 16) ∧ (nibs l)[2 * k + 1]? = some (l[k].toNat % 16)
  | [], k, hk => by simp at hk
  | c :: r, 0, hk => ⟨rfl, rfl⟩
  | c :: r, k + 1, hk => by
    have h := nibs_get r k (by simpa using hk)
    have e : nibs (c :: r) = (c.toNat / 16) :: (c.toNat % 16) :: nibs r := rfl
    rw [e, show 2 * (k + 1) = 2 * k + 1 + 1 by omega]
    exact h
theorem ones_group : ∀ v, v < 16 → ∀ m, m < 9 → ∀ c, c < 5 → ((gcrL v).foldl onesRun (m, c)).1 < 9 ∧ ((gcrL v).foldl onesRun (m, c)).2 < 5 := by decide +kernel
theorem ones_groups (ns : List Nat) : (∀ v ∈ ns, v < 16) → ∀ m c, m < 9 → c < 5 → (((ns.map gcrL).flatten).foldl onesRun (m, c)).1 < 9 ∧ (((ns.map gcrL).flatten).foldl onesRun (m, c)).2 < 5 := by
  induction ns with
  | nil => exact fun _ m c hm hc => ⟨hm, hc⟩
  | cons v r ih =>
    intro h m c hm hc
    rw [List.map_cons, List.flatten_cons, List.foldl_append]
    have h1 := ones_group v (h v (List.mem_cons_self ..)) m hm c hc
    exact ih (fun x hx => h x (List.mem_cons_of_mem _ hx)) _ _ h1.1 h1.2
def cellUV (u v j : Nat) : UInt8 := if j < 5 then (gcrL u).getD j 0 else (gcrL v).getD (j - 5) 0
theorem no_three : ∀ u, u < 16 → ∀ v, v < 16 → ∀ i, i < 5 → ¬ (cellUV u v i = 48 ∧ cellUV u v (i + 1) = 48 ∧ cellUV u v (i + 2) = 48) := by decide +kernel
theorem cell_uv {ns : List Nat} (h : ∀ v ∈ ns, v < 16) {K i : Nat} (hK : K < ns.length) (hi : i < 7) (hb : 5 * K + i < 5 * ns.length) : (((ns.map gcrL).flatten).getD (5 * K + i) 0) = cellUV (ns[K]) (ns.getD (K + 1) 0) i := by
  have c5 := code_len ns h
  unfold cellUV
  by_cases h5 : i < 5
  · rw [if_pos h5, get_flat c5 K i (by rw [List.length_map]; exact hK) h5, List.getElem_map]
  · have hK1 : K + 1 < ns.length := by omega
    rw [if_neg h5, show 5 * K + i = 5 * (K + 1) + (i - 5) by omega, get_flat c5 (K + 1) (i - 5) (by rw [List.length_map]; exact hK1) (by omega), List.getElem_map, List.getD_eq_getElem?_getD (l := ns), List.getElem?_eq_getElem hK1]
    rfl
structure Coded (s C : ByteArray) : Prop where
  dec : decB C = true
  back : decV C = s
  size : C.size = 10 * s.size
  faults : faults C = []
  ones : longest C ≤ 8
  gaps : ∀ r, OneGap C r → r ≤ 3
theorem coded (l : List UInt8) (h40 : l.length ≤ 40) : Coded ⟨l.toArray⟩ (encode ⟨l.toArray⟩) := by
  have hnl := nibs_len l
  have c5 := code_len (nibs l) (nibs_lt l)
  have hgl : ((nibs l).map gcrL).length = 2 * l.length := by rw [List.length_map, hnl]
  have hbits : ∀ g ∈ (nibs l).map gcrL, allBits ⟨g.toArray⟩ = true := fun g hg => by
    rw [List.mem_map] at hg
    obtain ⟨u, hu, rfl⟩ := hg
    exact bits_code u (nibs_lt l u hu)
  have hgr := grps_str c5 hbits (by omega)
  have hsz := strG_size c5
  rw [hgl] at hsz
  have hlS : (⟨l.toArray⟩ : ByteArray).size = l.length := by show l.toArray.size = _; simp
  have hcell := grps_cell hgr
  have hval : ∀ (j : Nat) (hj : j < (nibs l).length), gV (strG ((nibs l).map gcrL)) j = (((nibs l)[j] : Nat) : Int) := fun j hj => by
    unfold gV
    rw [grp_strG c5 (by omega), List.getElem_map]
    exact value_code _ (nibs_lt l _ (List.getElem_mem hj))
  have hd : isDec (strG ((nibs l).map gcrL)) = true := by
    unfold isDec
    rw [hcell, hsz, decide_eq_true (by omega)]
    rfl
  obtain ⟨d1, d2⟩ := decGood_yes (N := l.length) (by omega) hd (fun j hj => by rw [hval j (by omega)]; omega)
  rw [encode_str]
  refine ⟨d1, ?_, by rw [hsz, hlS]; omega, ?_, ?_, ?_⟩
  · rw [d2]
    congr 2
    unfold decTo
    apply List.ext_getElem
    · simp
    · intro k h1 h2
      have hk : k < l.length := h2
      rw [List.getElem_map, List.getElem_range]
      unfold decByte
      obtain ⟨n1, n2⟩ := nibs_get l k hk
      obtain ⟨g1, e1⟩ := List.getElem?_eq_some_iff.1 n1
      obtain ⟨g2, e2⟩ := List.getElem?_eq_some_iff.1 n2
      rw [hval _ g1, hval _ g2, e1, e2]
      have := l[k].toNat_lt
      rw [show (16 * ((l[k].toNat / 16 : Nat) : Int) + ((l[k].toNat % 16 : Nat) : Int)).toNat = l[k].toNat by omega]
      exact UInt8.ofNat_toNat
  · unfold faults
    rw [if_pos hgr, hsz, show 5 * (2 * l.length) / 5 = ((nibs l).map gcrL).length by omega]
    exact faults_none c5 (fun g hg => by
      rw [List.mem_map] at hg
      obtain ⟨u, hu, rfl⟩ := hg
      rw [value_code u (nibs_lt l u hu)]
      omega) _ (Nat.le_refl _)
  · unfold longest
    rw [if_pos hcell]
    unfold loTo
    rw [strG_list, List.take_of_length_le (by rw [flat5 c5, hsz, hgl]; omega)]
    have := (ones_groups (nibs l) (nibs_lt l) 0 0 (by omega) (by omega)).1
    omega
  · rintro r ⟨p, n, rfl, h1, h2, h3⟩
    rcases Nat.lt_or_ge n 3 with hn | hn
    · omega
    · exfalso
      rw [strG_list] at h1 h2 h3
      have hlen : ((nibs l).map gcrL).flatten.length = 5 * (nibs l).length := by rw [flat5 c5, List.length_map]
      have hp := (List.getElem?_eq_some_iff.1 h2).1
      have hz : ∀ j, p < j → j < p + n + 1 → (((nibs l).map gcrL).flatten).getD j 0 = 48 := fun j j1 j2 => by
        have hne := h3 j j1 j2
        have hj : j < ((nibs l).map gcrL).flatten.length := by omega
        rw [List.getElem?_eq_getElem hj] at hne
        rw [List.getD_eq_getElem?_getD, List.getElem?_eq_getElem hj]
        have hb := bits_str hbits
        unfold allBits at hb
        rw [strG_list, List.all_eq_true] at hb
        have hbj := hb _ (List.getElem_mem hj)
        unfold isBit at hbj
        show (((nibs l).map gcrL).flatten)[j] = 48
        simp only [Bool.or_eq_true, beq_iff_eq] at hbj
        rcases hbj with h | h
        · exact h
        · exact absurd (by rw [h]) hne
      obtain ⟨K, i, hK, hi⟩ : ∃ K i, p + 1 = 5 * K + i ∧ i < 5 := ⟨(p + 1) / 5, (p + 1) % 5, by omega, by omega⟩
      have hKl : K < (nibs l).length := by omega
      have z1 := hz (5 * K + i) (by omega) (by omega)
      have z2 := hz (5 * K + (i + 1)) (by omega) (by omega)
      have z3 := hz (5 * K + (i + 2)) (by omega) (by omega)
      rw [cell_uv (nibs_lt l) hKl (by omega) (by omega)] at z1 z2 z3
      refine no_three _ (nibs_lt l _ (List.getElem_mem hKl)) _ ?_ i hi ⟨z1, z2, z3⟩
      rw [List.getD_eq_getElem?_getD]
      rcases Nat.lt_or_ge (K + 1) (nibs l).length with h | h
      · rw [List.getElem?_eq_getElem h]
        exact nibs_lt l _ (List.getElem_mem h)
      · rw [List.getElem?_eq_none h]
        exact (by decide : (0 : Nat) < 16)
end Go.Proofs.YtklaakhdpfgffaaDoor
