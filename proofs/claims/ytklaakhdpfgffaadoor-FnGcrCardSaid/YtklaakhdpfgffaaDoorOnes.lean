/- 'LongestOnes' of the program and of the reference: the longest run of cells that are 1. -/
import Derived.Test.YtklaakhdpfgffaaDoorCells
import Derived.Test.YtklaakhdpfgffaaDoorStrs
import Derived.Test.YtklaakhdpfgffaaDoorShelfS
import Derived.Test.YtklaakhdpfgffaaDoorRow
namespace Go.Proofs.YtklaakhdpfgffaaDoor
open Go.ChangeShapes Go.WideShapes Go.ChangeAt Go.RowKit
set_option linter.unusedSimpArgs false
set_option linter.unusedVariables false
set_option maxRecDepth 4000

def onesRun (st : Nat × Nat) (c : UInt8) : Nat × Nat := (max st.1 (if c = 48 then 0 else st.2 + 1), if c = 48 then 0 else st.2 + 1)
def loTo (s : ByteArray) (k : Nat) : Nat × Nat := (s.data.toList.take k).foldl onesRun (0, 0)
theorem loTo_next {s : ByteArray} {k : Nat} (h : k < s.size) {c : UInt8} (hc : s[k] = c) : loTo s (k + 1) = onesRun (loTo s k) c := by
  subst hc
  have hk : k < s.data.toList.length := by simpa using h
  unfold loTo
  rw [List.take_succ_eq_append_getElem hk, List.foldl_append]
  rfl
theorem onesRun_le (l : List UInt8) : ∀ st : Nat × Nat, (l.foldl onesRun st).1 ≤ max st.1 (st.2 + l.length) ∧ (l.foldl onesRun st).2 ≤ st.2 + l.length := by
  induction l with
  | nil => intro st; exact ⟨Nat.le_max_left _ _, Nat.le_refl _⟩
  | cons c l ih =>
    intro st
    have h := ih (onesRun st c)
    rw [List.foldl_cons, List.length_cons]
    have h1 : (onesRun st c).2 ≤ st.2 + 1 := by
      unfold onesRun
      show (if c = 48 then 0 else st.2 + 1) ≤ _
      split <;> omega
    have h2 : (onesRun st c).1 ≤ max st.1 (st.2 + 1) := by
      unfold onesRun
      show max st.1 (if c = 48 then 0 else st.2 + 1) ≤ _
      split <;> omega
    omega
theorem loTo_le (s : ByteArray) (k : Nat) : (loTo s k).1 ≤ k ∧ (loTo s k).2 ≤ k := by
  have h := onesRun_le (s.data.toList.take k) (0, 0)
  have h1 : (s.data.toList.take k).length ≤ k := by rw [List.length_take]; omega
  unfold loTo
  omega
theorem run_plain : ∀ (a : List UInt8), (∀ c ∈ a, c ≠ 48) → ∀ B n : Nat, n ≤ B → a.foldl onesRun (B, n) = (max B (n + a.length), n + a.length)
  | [], _, B, n, h => by
    show (B, n) = (max B n, n)
    rw [Nat.max_eq_left h]
  | c :: a, hc, B, n, h => by
    have h1 : onesRun (B, n) c = (max B (n + 1), n + 1) := by
      unfold onesRun
      rw [if_neg (hc c (List.mem_cons_self ..))]
    rw [List.foldl_cons, h1, run_plain a (fun x hx => hc x (List.mem_cons_of_mem _ hx)) _ _ (Nat.le_max_right _ _), List.length_cons]
    congr 1 <;> omega
theorem index_at : ∀ (a b : List UInt8), (∀ c ∈ a, c ≠ 48) → Lib.indexByte (a ++ 48 :: b) 48 = a.length
  | [], b, _ => rfl
  | c :: a, b, h => by
    show (if (c == 48) = true then (0 : Int) else if (Lib.indexByte (a ++ 48 :: b) 48 == -1) = true then -1 else Lib.indexByte (a ++ 48 :: b) 48 + 1) = _
    rw [index_at a b (fun x hx => h x (List.mem_cons_of_mem _ hx)), if_neg (by simpa using h c (List.mem_cons_self ..)), if_neg (by rw [beq_iff_eq]; omega), List.length_cons]
    omega
theorem split_runs : ∀ (k : Nat) (l : List UInt8), l.count 48 = k → ∀ B, (l.foldl onesRun (B, 0)).1 = (Lib.splitK [48] 0 k l).foldl (fun b p => max b p.length) B
  | 0, l, h, B => by
    have hn : ∀ c ∈ l, c ≠ 48 := fun c hc e => by
      subst e
      exact absurd h (Nat.ne_of_gt (List.count_pos_iff.2 hc))
    rw [run_plain l hn B 0 (Nat.zero_le _)]
    show max B (0 + l.length) = max B l.length
    rw [Nat.zero_add]
  | k + 1, l, h, B => by
    obtain ⟨a, b, rfl, hna⟩ := List.eq_append_cons_of_mem (List.count_pos_iff.1 (show 0 < l.count 48 by omega))
    have hn : ∀ c ∈ a, c ≠ 48 := fun c hc e => hna (by rw [← e]; exact hc)
    have hb : b.count 48 = k := by
      rw [List.count_append, List.count_cons_self, List.count_eq_zero.2 hna] at h
      omega
    have hs : Lib.splitK [48] 0 (k + 1) (a ++ 48 :: b) = a :: Lib.splitK [48] 0 k b := by
      have e1 : (a ++ 48 :: b).take (((a.length : Nat) : Int).toNat + 0) = a := by rw [Int.toNat_natCast, Nat.add_zero, List.take_left]
      have e2 : (a ++ 48 :: b).drop (((a.length : Nat) : Int).toNat + 1) = b := by
        rw [Int.toNat_natCast, ← List.drop_drop, List.drop_left]
        rfl
      show (if (Lib.index (a ++ 48 :: b) [48] == -1) = true then [a ++ 48 :: b] else (a ++ 48 :: b).take ((Lib.index (a ++ 48 :: b) [48]).toNat + 0) :: Lib.splitK [48] 0 k ((a ++ 48 :: b).drop ((Lib.index (a ++ 48 :: b) [48]).toNat + 1))) = _
      rw [Lib.index_one, index_at a b hn, if_neg (by rw [beq_iff_eq]; omega), e1, e2]
    rw [hs, List.foldl_cons, List.foldl_append, run_plain a hn B 0 (Nat.zero_le _), List.foldl_cons]
    have h1 : onesRun (max B (0 + a.length), 0 + a.length) 48 = (max B a.length, 0) := by
      unfold onesRun
      rw [if_pos rfl, Nat.zero_add]
      show (max (max B a.length) 0, 0) = _
      rw [Nat.max_eq_left (Nat.zero_le _)]
    rw [h1]
    exact split_runs k b hb _
def zeroB : ByteArray := ⟨#[48]⟩
def pieces (s : ByteArray) : List ByteArray := Lib.splitB zeroB 0 (Lib.countB s zeroB) s
def mostTo (s : ByteArray) (j : Nat) : Nat := ((pieces s).take j).foldl (fun b p => max b p.size) 0
theorem mostTo_next {s : ByteArray} {j : Nat} {p : ByteArray} (h : (pieces s)[j]? = some p) : mostTo s (j + 1) = max (mostTo s j) p.size := by
  unfold mostTo
  rw [take_snoc _ j p h, List.foldl_append]
  rfl
theorem fold_sizes : ∀ (l : List ByteArray) (B : Nat), l.foldl (fun b p => max b p.size) B = (l.map (·.data.toList)).foldl (fun b p => max b p.length) B
  | [], _ => rfl
  | p :: l, B => by
    rw [List.foldl_cons, List.map_cons, List.foldl_cons, fold_sizes l]
    congr 1
theorem most_all (s : ByteArray) : mostTo s (pieces s).length = (loTo s s.size).1 := by
  unfold mostTo
  rw [List.take_length, fold_sizes]
  unfold pieces
  rw [Lib.splitB_data]
  have hc : Lib.countB s zeroB = s.data.toList.count 48 := Lib.count_one 48 s.data.toList
  have hz : zeroB.data.toList = [48] := rfl
  unfold loTo
  rw [hc, hz, ← split_runs _ _ rfl 0, List.take_of_length_le (by simp)]
theorem pieces_len (s : ByteArray) : (pieces s).length = Lib.countB s zeroB + 1 := Lib.splitB_all zeroB (by decide) 0 _ s rfl
theorem mostTo_le (s : ByteArray) : ∀ j, mostTo s j ≤ (loTo s s.size).1 := by
  have mono : ∀ (l : List ByteArray) (B : Nat), B ≤ l.foldl (fun b p => max b p.size) B := by
    intro l
    induction l with
    | nil => intro B; exact Nat.le_refl _
    | cons p l ih => intro B; exact Nat.le_trans (Nat.le_max_left _ _) (ih _)
  intro j
  rw [← most_all]
  unfold mostTo
  have h : (pieces s).take (pieces s).length = (pieces s).take j ++ (pieces s).drop j := by rw [List.take_length, List.take_append_drop]
  rw [h, List.foldl_append]
  exact mono _ _
def longest (s : ByteArray) : Nat := if cellStr s = true then (loTo s s.size).1 else 0
theorem strings_Split_zero (s : ByteArray) (w : World) (hs : s.size ≤ 1048576) :
    Calls Tryd.prog 55 #[.string s, .string ⟨#[48]⟩] w fun e w' => e = .returned (.slice (some ⟨w.heap.size, 0, none⟩) (pieces s).length (pieces s).length) ∧ w' = w.alloc (.cells (Strs (pieces s)).toArray 9) := by
  have c := Any.strings_genSplit_core Tryd.lays221 (by kernel_rfl) s zeroB 0 (-1) (Lib.countB s zeroB + 1) w (by omega) (by decide) (Nat.zero_le _)
    (fun x c hx => by
      have h := Any.strings_Index_one { Tryd.lays221 with } x 48 (w.alloc (.cells c 9))
      rw [show Lib.indexByte x.data.toList 48 = Lib.indexB x zeroB from (Lib.index_one _ _).symm] at h
      exact h)
    (by
      have h := Any.strings_Count_one { Tryd.lays221 with } s 48 w
      rw [show ((Lib.countByte s.data.toList 48 : Nat) : Int) = ((Lib.countB s zeroB : Nat) : Int) from congrArg _ (Lib.count_one 48 s.data.toList).symm] at h
      exact h)
    (by decide) (by decide) (by
      have hle := Lib.countB_le zeroB (by decide) s.size s (Nat.le_refl _)
      rw [if_pos (by decide)]
      omega)
  have hlen := pieces_len s
  rw [Nat.add_sub_cancel] at c
  change Calls Tryd.prog 76 #[.string s, .string ⟨#[48]⟩, .int .i64 0, .int .i64 (-1)] w (fun e w' => e = .returned (.slice (some ⟨w.heap.size, 0, none⟩) (pieces s).length (Lib.countB s zeroB + 1)) ∧ w' = w.alloc (.cells (Lib.cellsOf (pieces s) (Lib.countB s zeroB + 1)) 9)) at c
  rw [← hlen, Lib.cellsOf_full] at c
  have HC := Hid.in_ c
  clear c hlen
  go_enter Tryd.func55, Tryd.ntmps55
  go_wp2_with (go_at_call 76; refine HC.out.mono ?_; rintro e w' ⟨rfl, hw⟩; rw [hw])
  go_ret
  exact ⟨rfl, rfl⟩
set_option maxHeartbeats 1000000 in
theorem impl_LongestOnes (s : ByteArray) (w : World) (hs : s.size ≤ 1048576) :
    Calls Tryd.prog 31 #[.string s] w fun e w' => e = .returned (.int .i64 (longest s : Nat)) ∧ Below w.heap.size w w' := by
  have HC := Hid.in_ (impl_isCellString s w (by omega))
  cases hcs : cellStr s
  · rw [hcs] at HC
    have HV := Hid.in_ (show longest s = 0 by unfold longest; rw [hcs]; rfl)
    go_enter Tryd.func31, Tryd.ntmps31
    go_wp2_with (go_at_call 49; refine HC.out.mono ?_; rintro e w' ⟨rfl, hb⟩)
    go_ret
    exact ⟨ret_int (by rw [HV.out]; rfl), hb⟩
  · rw [hcs] at HC
    have HV := Hid.in_ (show longest s = mostTo s (pieces s).length by unfold longest; rw [hcs, most_all]; rfl)
    have HSP := Hid.in_ (fun w => strings_Split_zero s w hs)
    have hbd := (loTo_le s s.size).1
    have hpl : (pieces s).length ≤ 1048577 := by
      rw [pieces_len]
      have := Lib.countB_le zeroB (by decide) s.size s (Nat.le_refl _)
      omega
    obtain ⟨P, hP⟩ : ∃ P, (pieces s).length = P := ⟨_, rfl⟩
    rw [hP] at HV hpl HSP
    have HP := Hid.in_ hP
    clear hP hcs
    go_enter Tryd.func31, Tryd.ntmps31
    go_wp2_with fail
    refine HC.out.mono ?_
    rintro e w1 ⟨rfl, hb1⟩
    go_wp2_with fail
    refine (HSP.out _).mono ?_
    rintro e w2 ⟨rfl, hw2⟩
    have HBX := Hid.in_ (show Box w2 w1.heap.size (Strs (pieces s)) by rw [hw2]; exact Box.new w1 _ _)
    have HB2 := Hid.in_ (show Below w.heap.size w w2 by rw [hw2]; exact balloc hb1 _)
    obtain ⟨G, hG⟩ : ∃ G, w1.heap.size = G := ⟨_, rfl⟩
    rw [hG] at HBX ⊢
    clear hw2 hb1 hG
    go_wp2_with fail
    go_loopg [3, 12] P (fun m b i wr => ∃ k : Nat, k + m = P ∧ i = .int .i64 k ∧ b = .int .i64 (mostTo s k : Nat) ∧ w2 = wr)
    case atStart => exact ⟨0, by omega, rfl, rfl, rfl⟩
    case round =>
      obtain ⟨k, hkm, rfl, rfl, rfl⟩ := hrel
      have HK := Hid.in_ hkm
      have hle := mostTo_le s k
      clear hkm
      by_cases hlt : k < P
      · obtain ⟨p, hp⟩ := get_lt (pieces s) k (by rw [HP.out]; exact hlt)
        have c0 := HBX.out k _ (Strs_get hp)
        have HN := Hid.in_ (mostTo_next hp)
        have hle2 := mostTo_le s (k + 1)
        rw [HN.out] at hle2
        have hps : p.size ≤ 1048576 := by omega
        clear hp
        generalize mostTo s k = X at *
        go_wp2
        have hk := HK.out
        go_roundg (gk - 1)
        case measure => omega
        case rel => exact ⟨k + 1, by omega, by go_num, by rw [HN.out]; congr 1; omega, rfl⟩
      · have hk := HK.out
        obtain rfl : k = P := by omega
        go_wp2
        go_ret
        exact ⟨ret_int (by rw [HV.out]), HB2.out⟩
end Go.Proofs.YtklaakhdpfgffaaDoor
