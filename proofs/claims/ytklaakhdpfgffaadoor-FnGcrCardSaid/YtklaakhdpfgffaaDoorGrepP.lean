/- Group code with one wrong cell, mended: the plain law. -/
import Derived.Test.YtklaakhdpfgffaaDoorRepair
import Derived.Test.YtklaakhdpfgffaaDoorEnc
import Derived.Test.YtklaakhdpfgffaaDoorSlice
namespace Go.Proofs.YtklaakhdpfgffaaDoor
open Go.ChangeShapes Go.WideShapes Go.ChangeAt Go.RowKit
set_option linter.unusedSimpArgs false
set_option linter.unusedVariables false
set_option maxRecDepth 4000

/-- A string of groups. -/
def strG (gs : List (List UInt8)) : ByteArray := ⟨gs.flatten.toArray⟩
theorem strG_list (gs : List (List UInt8)) : (strG gs).data.toList = gs.flatten := by unfold strG; simp
theorem flat5 {gs : List (List UInt8)} (h : ∀ g ∈ gs, g.length = 5) : gs.flatten.length = 5 * gs.length := by
  induction gs with
  | nil => rfl
  | cons g r ih =>
    have h1 := h g (List.mem_cons_self ..)
    have h2 := ih (fun x hx => h x (List.mem_cons_of_mem _ hx))
    rw [List.flatten_cons, List.length_append, h1, h2, List.length_cons]
    omega
theorem seg5 {gs : List (List UInt8)} (h : ∀ g ∈ gs, g.length = 5) : ∀ (j : Nat) (hj : j < gs.length), ((gs.flatten).drop (5 * j)).take 5 = gs[j] := by
  induction gs with
  | nil => intro j hj; simp at hj
  | cons g r ih =>
    intro j hj
    have h1 := h g (List.mem_cons_self ..)
    rw [List.flatten_cons]
    cases j with
    | zero =>
      rw [Nat.mul_zero, List.drop_zero, List.take_append_of_le_length (by omega), List.take_of_length_le (by omega)]
      rfl
    | succ j =>
      rw [show 5 * (j + 1) = g.length + 5 * j by omega, List.drop_append]
      rw [List.drop_of_length_le (by omega), show g.length + 5 * j - g.length = 5 * j by omega, List.nil_append]
      exact ih (fun x hx => h x (List.mem_cons_of_mem _ hx)) j (by simpa using hj)
theorem strG_size {gs : List (List UInt8)} (h : ∀ g ∈ gs, g.length = 5) : (strG gs).size = 5 * gs.length := by
  rw [← len_data, strG_list, flat5 h]
theorem grp_strG {gs : List (List UInt8)} (h : ∀ g ∈ gs, g.length = 5) {j : Nat} (hj : j < gs.length) : grpAt (strG gs) j = ⟨gs[j].toArray⟩ := by
  unfold grpAt
  apply ByteArray.ext
  apply Array.toList_inj.1
  rw [extract_list, strG_list, show 5 * j + 5 - 5 * j = 5 by omega, seg5 h j hj]
def fixL (g : List UInt8) : List UInt8 := (gcrCode (best ⟨g.toArray⟩)).data.toList
theorem rep_strG {gs : List (List UInt8)} (h : ∀ g ∈ gs, g.length = 5) : ∀ k, k ≤ gs.length → (repS (strG gs) k).data.toList = ((gs.take k).map fixL).flatten := by
  intro k
  induction k with
  | zero => intro _; simp [repS]
  | succ k ih =>
    intro hk
    have e : gs.take (k + 1) = gs.take k ++ [gs[k]'(by omega)] := List.take_succ_eq_append_getElem (by omega)
    show (repS (strG gs) k ++ gcrCode (best (grpAt (strG gs) k))).data.toList = _
    rw [ByteArray.data_append, Array.toList_append, ih (by omega), grp_strG h (by omega), e, List.map_append, List.flatten_append]
    simp [fixL]
theorem fix_code : ∀ v, v < 16 → fixL (gcrL v) = gcrL v := by decide +kernel
def flipL (g : List UInt8) (i : Nat) : List UInt8 := g.set i (97 - g.getD i 0)
/-- One wrong cell in a group: what it is mended to is a group of the table that differs in one cell at most. -/
theorem flip_fix : ∀ v, v < 16 → ∀ i, i < 5 → (∃ u, u < 16 ∧ fixL (flipL (gcrL v) i) = gcrL u) ∧ distTo ⟨(fixL (flipL (gcrL v) i)).toArray⟩ ⟨(flipL (gcrL v) i).toArray⟩ 5 ≤ 1 ∧ allBits ⟨(flipL (gcrL v) i).toArray⟩ = true := by
  decide +kernel
theorem value_code : ∀ v, v < 16 → gcrValue ⟨(gcrL v).toArray⟩ = (v : Int) := by decide +kernel
theorem bits_code : ∀ v, v < 16 → allBits ⟨(gcrL v).toArray⟩ = true := by decide +kernel
theorem set_flat {gs : List (List UInt8)} (h : ∀ g ∈ gs, g.length = 5) (x : UInt8) : ∀ (K i : Nat) (hK : K < gs.length), i < 5 → (gs.flatten).set (5 * K + i) x = (gs.set K (gs[K].set i x)).flatten := by
  induction gs with
  | nil => intro K i hK; simp at hK
  | cons g r ih =>
    intro K i hK hi
    have h1 := h g (List.mem_cons_self ..)
    cases K with
    | zero =>
      rw [Nat.mul_zero, Nat.zero_add, List.flatten_cons, List.set_append_left _ _ (by omega)]
      simp
    | succ K =>
      rw [List.flatten_cons, List.set_append_right _ _ (by omega), show 5 * (K + 1) + i - g.length = 5 * K + i by omega, ih (fun y hy => h y (List.mem_cons_of_mem _ hy)) K i (by simpa using hK) hi]
      simp
theorem get_flat {gs : List (List UInt8)} (h : ∀ g ∈ gs, g.length = 5) (K i : Nat) (hK : K < gs.length) (hi : i < 5) : (gs.flatten).getD (5 * K + i) 0 = gs[K].getD i 0 := by
  have := seg5 h K hK
  rw [← this, List.getD_eq_getElem?_getD, List.getD_eq_getElem?_getD, List.getElem?_take_of_lt hi, List.getElem?_drop]
theorem take_flat {gs : List (List UInt8)} (h : ∀ g ∈ gs, g.length = 5) : ∀ K, K ≤ gs.length → (gs.flatten).take (5 * K) = (gs.take K).flatten := by
  induction gs with
  | nil => intro K hK; simp
  | cons g r ih =>
    intro K hK
    have h1 := h g (List.mem_cons_self ..)
    cases K with
    | zero => simp
    | succ K =>
      rw [List.flatten_cons, show 5 * (K + 1) = g.length + 5 * K by omega, List.take_append, List.take_of_length_le (by omega), show g.length + 5 * K - g.length = 5 * K by omega, ih (fun y hy => h y (List.mem_cons_of_mem _ hy)) K (by simpa using hK)]
      simp
theorem drop_flat {gs : List (List UInt8)} (h : ∀ g ∈ gs, g.length = 5) : ∀ K, K ≤ gs.length → (gs.flatten).drop (5 * K) = (gs.drop K).flatten := by
  induction gs with
  | nil => intro K hK; simp
  | cons g r ih =>
    intro K hK
    have h1 := h g (List.mem_cons_self ..)
    cases K with
    | zero => simp
    | succ K =>
      rw [List.flatten_cons, show 5 * (K + 1) = g.length + 5 * K by omega, List.drop_append, List.drop_of_length_le (by omega), show g.length + 5 * K - g.length = 5 * K by omega, ih (fun y hy => h y (List.mem_cons_of_mem _ hy)) K (by simpa using hK)]
      simp
theorem len_set {gs : List (List UInt8)} (h : ∀ g ∈ gs, g.length = 5) {K : Nat} {X : List UInt8} (hX : X.length = 5) : ∀ g ∈ gs.set K X, g.length = 5 := fun g hg => by
  rcases List.mem_or_eq_of_mem_set hg with h1 | h1
  · exact h g h1
  · rw [h1]
    exact hX
def nibs (l : List UInt8) : List Nat := l.flatMap fun c => [c.toNat / 16, c.toNat % 16]
theorem nibs_len (l : List UInt8) : (nibs l).length = 2 * l.length := by
  unfold nibs
  induction l with
  | nil => rfl
  | cons c r ih => rw [List.flatMap_cons, List.length_append, ih]; simp; omega
theorem nibs_lt (l : List UInt8) : ∀ v ∈ nibs l, v < 16 := fun v hv => by
  unfold nibs at hv
  rw [List.mem_flatMap] at hv
  obtain ⟨c, _, hv⟩ := hv
  have := c.toNat_lt
  simp only [List.mem_cons, List.not_mem_nil, or_false] at hv
  omega
theorem gcrB_nibs (l : List UInt8) : gcrB l = ((nibs l).map gcrL).flatten := by
  unfold gcrB nibs
  induction l with
  | nil => rfl
  | cons c r ih => rw [List.flatMap_cons, List.flatMap_cons, ih, List.map_append, List.flatten_append]; simp
theorem encode_str (l : List UInt8) : encode ⟨l.toArray⟩ = strG ((nibs l).map gcrL) := by
  unfold encode strG
  rw [← gcrB_nibs]
theorem code_len (ns : List Nat) (h : ∀ v ∈ ns, v < 16) : ∀ g ∈ ns.map gcrL, g.length = 5 := fun g hg => by
  rw [List.mem_map] at hg
  obtain ⟨v, hv, rfl⟩ := hg
  exact gcrL_len (h v hv)
def flipAt (s : ByteArray) (a : Nat) : ByteArray := ⟨(s.data.toList.set a (97 - s.data.toList.getD a 0)).toArray⟩
theorem all_set {gs : List (List UInt8)} {p : List UInt8 → Prop} (h : ∀ g ∈ gs, p g) {K : Nat} {X : List UInt8} (hX : p X) : ∀ g ∈ gs.set K X, p g := fun g hg => by
  rcases List.mem_or_eq_of_mem_set hg with h1 | h1
  · exact h g h1
  · rw [h1]
    exact hX
theorem bits_str {gs : List (List UInt8)} (h : ∀ g ∈ gs, allBits ⟨g.toArray⟩ = true) : allBits (strG gs) = true := by
  unfold allBits
  rw [strG_list, List.all_eq_true]
  intro c hc
  rw [List.mem_flatten] at hc
  obtain ⟨g, hg, hc⟩ := hc
  have := h g hg
  unfold allBits at this
  rw [List.all_eq_true] at this
  exact this c (by simpa using hc)
theorem grps_str {gs : List (List UInt8)} (h5 : ∀ g ∈ gs, g.length = 5) (h : ∀ g ∈ gs, allBits ⟨g.toArray⟩ = true) (hn : gs.length ≤ 1600) : isGrps (strG gs) = true := by
  unfold isGrps cellStr
  rw [bits_str h, strG_size h5, decide_eq_true (by omega), decide_eq_true (by omega)]
  rfl
theorem faults_none {gs : List (List UInt8)} (h5 : ∀ g ∈ gs, g.length = 5) (h : ∀ g ∈ gs, 0 ≤ gcrValue ⟨g.toArray⟩) : ∀ k, k ≤ gs.length → faultsTo (strG gs) k = [] := by
  intro k
  induction k with
  | zero => intro _; rfl
  | succ k ih =>
    intro hk
    rw [faultsTo_good, ih (by omega)]
    rw [grp_strG h5 (by omega)]
    have := h _ (List.getElem_mem (show k < gs.length by omega))
    omega
theorem doubt_one {gs : List (List UInt8)} (h5 : ∀ g ∈ gs, g.length = 5) (K : Nat) (h : ∀ (j : Nat) (hj : j < gs.length), j ≠ K → 0 ≤ gcrValue ⟨gs[j].toArray⟩) : ∀ k, k ≤ gs.length → (doubtTo (strG gs) k = [] ∨ (K < k ∧ doubtTo (strG gs) k = [(K : Int)])) := by
  intro k
  induction k with
  | zero => intro _; exact .inl rfl
  | succ k ih =>
    intro hk
    have hi := ih (by omega)
    by_cases hkK : k = K
    · subst hkK
      have h0 : doubtTo (strG gs) k = [] := by
        rcases hi with h1 | ⟨h1, _⟩
        · exact h1
        · omega
      by_cases hc : gV (strG gs) k < 0 ∧ 1 < (nearest (grpAt (strG gs) k)).length
      · exact .inr ⟨by omega, by rw [doubt_yes hc.1 hc.2, h0]; rfl⟩
      · exact .inl (by rw [doubt_no hc, h0])
    · have hg := h k (by omega) hkK
      have hc : ¬ (gV (strG gs) k < 0 ∧ 1 < (nearest (grpAt (strG gs) k)).length) := fun hc => by
        have := hc.1
        unfold gV at this
        rw [grp_strG h5 (by omega)] at this
        omega
      rw [doubt_no hc]
      rcases hi with h1 | ⟨h1, h2⟩
      · exact .inl h1
      · exact .inr ⟨by omega, h2⟩
structure Mended (C W F : ByteArray) (D : List Int) (K : Nat) : Prop where
  grps : isGrps W = true
  size : F.size = C.size
  sizeW : W.size = C.size
  doubt : D = [] ∨ D = [(K : Int)]
  faults : faults F = []
  pre : F.extract 0 (5 * K) = C.extract 0 (5 * K)
  post : F.extract (5 * K + 5) F.size = C.extract (5 * K + 5) C.size
  dist : gcrDist (F.extract (5 * K) (5 * K + 5)) (W.extract (5 * K) (5 * K + 5)) ≤ 1
theorem mended (l : List UInt8) (h40 : l.length ≤ 40) (a : Nat) (ha : a < 10 * l.length) : Mended (encode ⟨l.toArray⟩) (flipAt (encode ⟨l.toArray⟩) a) (repV (flipAt (encode ⟨l.toArray⟩) a)) (repD (flipAt (encode ⟨l.toArray⟩) a)) (a / 5) := by
  obtain ⟨K, i, hai, hi⟩ : ∃ K i, a = 5 * K + i ∧ i < 5 := ⟨a / 5, a % 5, by omega, by omega⟩
  rw [show a / 5 = K by omega]
  have hnl := nibs_len l
  have hKn : K < (nibs l).length := by omega
  obtain ⟨v, hv⟩ : ∃ v, (nibs l)[K] = v := ⟨_, rfl⟩
  have hv16 : v < 16 := by rw [← hv]; exact nibs_lt l _ (List.getElem_mem hKn)
  have c5 := code_len (nibs l) (nibs_lt l)
  have hgl : ((nibs l).map gcrL).length = 2 * l.length := by rw [List.length_map, hnl]
  have cb : ∀ g ∈ (nibs l).map gcrL, ∃ u, u < 16 ∧ g = gcrL u := fun g hg => by
    rw [List.mem_map] at hg
    obtain ⟨u, hu, rfl⟩ := hg
    exact ⟨u, nibs_lt l u hu, rfl⟩
  have hgK : ∀ (h : K < ((nibs l).map gcrL).length), ((nibs l).map gcrL)[K] = gcrL v := fun h => by rw [List.getElem_map, hv]
  rw [encode_str]
  generalize (nibs l).map gcrL = gs at *
  have hK : K < gs.length := by omega
  have hgK := hgK hK
  obtain ⟨⟨u, hu16, hu⟩, hd, hb⟩ := flip_fix v hv16 i hi
  have x5 : (flipL (gcrL v) i).length = 5 := by unfold flipL; rw [List.length_set]; exact gcrL_len hv16
  have hW : flipAt (strG gs) a = strG (gs.set K (flipL (gcrL v) i)) := by
    unfold flipAt strG
    rw [List.toList_toArray, hai, get_flat c5 K i hK hi, set_flat c5 _ K i hK hi, hgK]
    rfl
  have w5 := len_set (K := K) c5 x5
  have wl : (gs.set K (flipL (gcrL v) i)).length = 2 * l.length := by rw [List.length_set, hgl]
  have wb : ∀ g ∈ gs.set K (flipL (gcrL v) i), allBits ⟨g.toArray⟩ = true := all_set (fun g hg => by
    obtain ⟨u, hu, rfl⟩ := cb g hg
    exact bits_code u hu) hb
  have y5 : (fixL (flipL (gcrL v) i)).length = 5 := by rw [hu]; exact gcrL_len hu16
  have f5 := len_set (K := K) c5 y5
  have fl : (gs.set K (fixL (flipL (gcrL v) i))).length = 2 * l.length := by rw [List.length_set, hgl]
  have fc : ∀ g ∈ gs.set K (fixL (flipL (gcrL v) i)), ∃ u, u < 16 ∧ g = gcrL u := all_set cb ⟨u, hu16, hu⟩
  have hgr := grps_str w5 wb (by omega)
  have hs := strG_size w5
  have hmap : (gs.set K (flipL (gcrL v) i)).map fixL = gs.set K (fixL (flipL (gcrL v) i)) := by
    rw [List.map_set]
    congr 1
    exact (List.map_congr_left (g := id) fun g hg => by
      obtain ⟨u, hu, rfl⟩ := cb g hg
      exact fix_code u hu).trans (List.map_id gs)
  have hF : repV (strG (gs.set K (flipL (gcrL v) i))) = strG (gs.set K (fixL (flipL (gcrL v) i))) := by
    unfold repV
    rw [if_pos hgr, hs, show 5 * (gs.set K (flipL (gcrL v) i)).length / 5 = (gs.set K (flipL (gcrL v) i)).length by omega]
    apply ByteArray.ext
    apply Array.toList_inj.1
    rw [rep_strG w5 _ (Nat.le_refl _), List.take_length, hmap, strG_list]
  have hD : repD (strG (gs.set K (flipL (gcrL v) i))) = [] ∨ repD (strG (gs.set K (flipL (gcrL v) i))) = [(K : Int)] := by
    unfold repD
    rw [if_pos hgr, hs, show 5 * (gs.set K (flipL (gcrL v) i)).length / 5 = (gs.set K (flipL (gcrL v) i)).length by omega]
    rcases doubt_one w5 K (fun j hj hne => by
      rw [List.getElem_set_ne (by omega)]
      obtain ⟨u, hu, he⟩ := cb _ (List.getElem_mem (show j < gs.length by rw [List.length_set] at hj; exact hj))
      rw [he, value_code u hu]
      omega) _ (Nat.le_refl _) with h | ⟨_, h⟩
    · exact .inl h
    · exact .inr h
  have sF := strG_size f5
  have sC := strG_size c5
  rw [hW, hF]
  refine ⟨hgr, by rw [sF, sC, fl, hgl], by rw [hs, sC, wl, hgl], hD, ?_, ?_, ?_, ?_⟩
  · unfold faults
    rw [if_pos (grps_str f5 (fun g hg => by
      obtain ⟨u, hu, rfl⟩ := fc g hg
      exact bits_code u hu) (by omega)), sF, show 5 * (gs.set K (fixL (flipL (gcrL v) i))).length / 5 = (gs.set K (fixL (flipL (gcrL v) i))).length by omega]
    exact faults_none f5 (fun g hg => by
      obtain ⟨u, hu, rfl⟩ := fc g hg
      rw [value_code u hu]
      omega) _ (Nat.le_refl _)
  · apply ByteArray.ext
    apply Array.toList_inj.1
    rw [extract_list, extract_list, strG_list, strG_list, List.drop_zero, List.drop_zero, Nat.sub_zero, take_flat f5 K (by omega), take_flat c5 K (by omega), List.take_set_of_le (by omega)]
  · apply ByteArray.ext
    apply Array.toList_inj.1
    rw [extract_list, extract_list, strG_list, strG_list, show 5 * K + 5 = 5 * (K + 1) by omega, drop_flat f5 (K + 1) (by omega), drop_flat c5 (K + 1) (by omega), sF, sC, fl, hgl, List.drop_set_of_lt (by omega)]
  · have e1 : (strG (gs.set K (fixL (flipL (gcrL v) i)))).extract (5 * K) (5 * K + 5) = ⟨(fixL (flipL (gcrL v) i)).toArray⟩ := by
      have := grp_strG f5 (j := K) (by omega)
      rw [List.getElem_set_self] at this
      exact this
    have e2 : (strG (gs.set K (flipL (gcrL v) i))).extract (5 * K) (5 * K + 5) = ⟨(flipL (gcrL v) i).toArray⟩ := by
      have := grp_strG w5 (j := K) (by omega)
      rw [List.getElem_set_self] at this
      exact this
    rw [e1, e2]
    unfold gcrDist
    split
    · omega
    · decide
end Go.Proofs.YtklaakhdpfgffaaDoor
