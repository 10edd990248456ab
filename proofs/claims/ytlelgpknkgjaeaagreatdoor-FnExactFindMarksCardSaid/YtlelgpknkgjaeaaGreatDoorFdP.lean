/- The marks of a track, plain law: lists with different places, put in order, are one list. No program in sight but for the imports. -/
import Derived.Test.YtlelgpknkgjaeaaGreatDoorMarkD
import Derived.Test.YtlelgpknkgjaeaaGreatDoorSync
import Derived.Test.YtlelgpknkgjaeaaGreatDoorFind
import Derived.Test.YtlelgpknkgjaeaaGreatDoorRecF
namespace Go.Proofs.YtlelgpknkgjaeaaGreatDoor
set_option linter.unusedSimpArgs false
set_option linter.unusedVariables false
set_option maxRecDepth 4000

def putM : List MarkR → MarkR → List MarkR
  | [], m => [m]
  | x :: l, m => if x.a < m.a then x :: putM l m else m :: x :: l
def insM (l : List MarkR) : List MarkR := l.foldl putM []
theorem putM_perm : ∀ (l : List MarkR) (m : MarkR), (putM l m).Perm (m :: l)
  | [], m => .refl _
  | x :: l, m => by
    unfold putM
    split
    · exact ((putM_perm l m).cons x).trans (.swap m x l)
    · exact .refl _
theorem insM_perm_aux : ∀ (l acc : List MarkR), (l.foldl putM acc).Perm (l ++ acc)
  | [], acc => .refl _
  | m :: l, acc => by
    show (l.foldl putM (putM acc m)).Perm _
    refine (insM_perm_aux l (putM acc m)).trans ?_
    refine ((putM_perm acc m).append_left l).trans ?_
    exact List.perm_middle
theorem insM_perm (l : List MarkR) : (insM l).Perm l := by
  have := insM_perm_aux l []
  rw [List.append_nil] at this
  exact this
theorem putM_sorted : ∀ (l : List MarkR) (m : MarkR), l.Pairwise (fun x y => x.a ≤ y.a) → (putM l m).Pairwise (fun x y => x.a ≤ y.a)
  | [], m, _ => by simp [putM]
  | x :: l, m, h => by
    obtain ⟨h1, h2⟩ := List.pairwise_cons.1 h
    unfold putM
    split
    · rename_i hlt
      refine List.pairwise_cons.2 ⟨fun y hy => ?_, putM_sorted l m h2⟩
      rcases List.mem_cons.1 ((putM_perm l m).mem_iff.1 hy) with rfl | hy
      · omega
      · exact h1 y hy
    · rename_i hge
      refine List.pairwise_cons.2 ⟨fun y hy => ?_, h⟩
      rcases List.mem_cons.1 hy with rfl | hy
      · omega
      · have := h1 y hy; omega
theorem insM_sorted_aux : ∀ (l acc : List MarkR), acc.Pairwise (fun x y => x.a ≤ y.a) → (l.foldl putM acc).Pairwise (fun x y => x.a ≤ y.a)
  | [], acc, h => h
  | m :: l, acc, h => insM_sorted_aux l (putM acc m) (putM_sorted acc m h)
theorem insM_sorted (l : List MarkR) : (insM l).Pairwise (fun x y => x.a ≤ y.a) := insM_sorted_aux l [] .nil
theorem sorted_eq : ∀ (m l : List MarkR), l.Perm m → l.Pairwise (fun x y => x.a ≤ y.a) → m.Pairwise (fun x y => x.a < y.a) → l = m
  | [], l, h, _, _ => h.eq_nil
  | x :: m, [], h, _, _ => h.symm.eq_nil.symm
  | x :: m, y :: l, h, hl, hm => by
    obtain ⟨l1, l2⟩ := List.pairwise_cons.1 hl
    obtain ⟨m1, m2⟩ := List.pairwise_cons.1 hm
    have hxy : y = x := by
      rcases List.mem_cons.1 (h.mem_iff.1 (List.mem_cons_self)) with e | hy
      · exact e
      · rcases List.mem_cons.1 (h.mem_iff.2 (List.mem_cons_self)) with e | hx
        · exact e.symm
        · have a := m1 y hy
          have b := l1 x hx
          omega
    subst hxy
    rw [sorted_eq m l h.cons_inv l2 m2]
theorem strict_of {l : List MarkR} (h : l.Pairwise (fun x y => x.a ≤ y.a)) (hd : l.Pairwise (fun x y => x.a ≠ y.a)) : l.Pairwise (fun x y => x.a < y.a) := by
  refine (h.and hd).imp ?_
  rintro x y ⟨a, b⟩
  omega
theorem insM_eq {l d : List MarkR} (hp : d.Perm l) (hs : d.Pairwise (fun x y => x.a ≤ y.a)) (hd : l.Pairwise (fun x y => x.a ≠ y.a)) : d = insM l := by
  have hd2 : (insM l).Pairwise (fun x y => x.a ≠ y.a) := ((insM_perm l).pairwise_iff (fun h => Ne.symm h)).2 hd
  exact sorted_eq _ _ (hp.trans (insM_perm l).symm) hs (strict_of (insM_sorted l) hd2)
theorem insM_len (l : List MarkR) : (insM l).length = l.length := (insM_perm l).length_eq

/- FM, MFM -/
def patM (f k : Int) : ByteArray := markS f (markByte f k).toNat
def mkAt (n : Nat) (p : ByteArray) (k a : Int) : MarkR := ⟨k, a, (a + p.size) % n⟩
def kindTo (s p : ByteArray) (k : Int) (j : Nat) : List MarkR := ((placesTo (fitsB s p) s.size).take j).map (mkAt s.size p k)
def kindL (s p : ByteArray) (k : Int) : List MarkR := if p.size ≤ s.size then (placesTo (fitsB s p) s.size).map (mkAt s.size p k) else []
theorem kindTo_all {s p : ByteArray} {k : Int} {j : Nat} (h : p.size ≤ s.size) (hj : (placesTo (fitsB s p) s.size).length ≤ j) : kindTo s p k j = kindL s p k := by
  unfold kindTo kindL; rw [if_pos h, List.take_of_length_le hj]
theorem kindL_long {s p : ByteArray} {k : Int} (h : s.size < p.size) : kindL s p k = [] := if_neg (by omega)
theorem kindTo_succ {s p : ByteArray} {k : Int} {j : Nat} {x : Int} (h : (placesTo (fitsB s p) s.size)[j]? = some x) : kindTo s p k (j + 1) = kindTo s p k j ++ [mkAt s.size p k x] := by
  unfold kindTo; rw [List.take_add_one, h, List.map_append]; rfl
def rawM (s : ByteArray) (f : Int) : List MarkR := kindL s (patM f 1) 1 ++ kindL s (patM f 2) 2 ++ kindL s (patM f 3) 3
theorem placesTo_mem {q : Nat → Bool} : ∀ {k : Nat} {x : Int}, x ∈ placesTo q k → ∃ j : Nat, x = j ∧ j < k ∧ q j = true
  | 0, x, h => by cases h
  | k + 1, x, h => by
    rcases List.mem_append.1 h with h | h
    · obtain ⟨j, a, b, c⟩ := placesTo_mem h
      exact ⟨j, a, by omega, c⟩
    · by_cases hq : q k = true
      · rw [if_pos hq, List.mem_singleton] at h
        exact ⟨k, h, by omega, hq⟩
      · rw [if_neg hq] at h; cases h
theorem placesTo_pair (q : Nat → Bool) : ∀ k : Nat, (placesTo q k).Pairwise (fun x y => x < y)
  | 0 => .nil
  | k + 1 => by
    refine List.pairwise_append.2 ⟨placesTo_pair q k, ?_, fun x hx y hy => ?_⟩
    · split
      · exact List.pairwise_singleton _ _
      · exact .nil
    · obtain ⟨j, rfl, hj, _⟩ := placesTo_mem hx
      by_cases hq : q k = true
      · rw [if_pos hq, List.mem_singleton] at hy; omega
      · rw [if_neg hq] at hy; cases hy
theorem kindL_mem {s p : ByteArray} {k : Int} {m : MarkR} (h : m ∈ kindL s p k) : ∃ j : Nat, m = mkAt s.size p k j ∧ j < s.size ∧ fitsB s p j = true := by
  unfold kindL at h
  split at h
  · obtain ⟨x, hx, rfl⟩ := List.mem_map.1 h
    obtain ⟨j, rfl, a, b⟩ := placesTo_mem hx
    exact ⟨j, rfl, a, b⟩
  · cases h
theorem kindL_pair (s p : ByteArray) (k : Int) : (kindL s p k).Pairwise (fun x y => x.a < y.a) := by
  unfold kindL
  split
  · refine List.pairwise_map.2 ((placesTo_pair _ _).imp ?_)
    intro x y h; exact h
  · exact .nil
theorem fits_one {s p q : ByteArray} {j : Nat} (hp : fitsB s p j = true) (hq : fitsB s q j = true) (hs : p.size = q.size) : p.data.toList = q.data.toList := by
  have a := of_decide_eq_true hp
  have b := of_decide_eq_true hq
  rw [← a, ← b, hs]
theorem kinds_apart {s p q : ByteArray} {i k : Int} (hs : p.size = q.size) (hne : p.data.toList ≠ q.data.toList) : ∀ x ∈ kindL s p i, ∀ y ∈ kindL s q k, x.a ≠ y.a := by
  intro x hx y hy e
  obtain ⟨j, rfl, _, a⟩ := kindL_mem hx
  obtain ⟨l, rfl, _, b⟩ := kindL_mem hy
  have : (j : Int) = l := e
  obtain rfl : j = l := by omega
  exact hne (fits_one a b hs)
def patFacts (f : Int) : Bool := let a := patM f 1; let b := patM f 2; let c := patM f 3
  decide (a.size = b.size) && decide (b.size = c.size) && decide (a.size ≤ 64) && !(a.data.toList == b.data.toList) && !(a.data.toList == c.data.toList) && !(b.data.toList == c.data.toList)
theorem patFacts_all : patFacts 1 = true ∧ patFacts 2 = true ∧ patFacts 3 = true := by decide +kernel
theorem pat_facts {f : Int} (h : inB f 1 3 = true) : (patM f 1).size = (patM f 2).size ∧ (patM f 2).size = (patM f 3).size ∧ (patM f 1).size ≤ 64 ∧ (patM f 1).data.toList ≠ (patM f 2).data.toList ∧ (patM f 1).data.toList ≠ (patM f 3).data.toList ∧ (patM f 2).data.toList ≠ (patM f 3).data.toList := by
  have hf : patFacts f = true := by
    have : f = 1 ∨ f = 2 ∨ f = 3 := by
      have := inB_t h
      omega
    rcases this with rfl | rfl | rfl
    · exact patFacts_all.1
    · exact patFacts_all.2.1
    · exact patFacts_all.2.2
  unfold patFacts at hf
  simp only [Bool.and_eq_true, decide_eq_true_eq, Bool.not_eq_true', beq_eq_false_iff_ne, ne_eq] at hf
  obtain ⟨⟨⟨⟨⟨a, b⟩, c⟩, d⟩, e⟩, g⟩ := hf
  exact ⟨a, b, c, d, e, g⟩
theorem rawM_apart {s : ByteArray} {f : Int} (h : inB f 1 3 = true) : (rawM s f).Pairwise (fun x y => x.a ≠ y.a) := by
  obtain ⟨h12, h23, _, n12, n13, n23⟩ := pat_facts h
  have P := fun p k => (kindL_pair s p k).imp (S := fun x y => x.a ≠ y.a) (fun hh => by omega)
  unfold rawM
  refine List.pairwise_append.2 ⟨List.pairwise_append.2 ⟨P _ _, P _ _, kinds_apart h12 n12⟩, P _ _, ?_⟩
  intro x hx y hy
  rcases List.mem_append.1 hx with hx | hx
  · exact kinds_apart (h12.trans h23) n13 x hx y hy
  · exact kinds_apart h23 n23 x hx y hy
theorem rawM_len (s : ByteArray) (f : Int) : (rawM s f).length ≤ s.size * 3 := by
  have h : ∀ p k, (kindL s p k).length ≤ s.size := by
    intro p k; unfold kindL; split
    · rw [List.length_map]; exact placesTo_len _ _
    · exact Nat.zero_le _
  unfold rawM
  rw [List.length_append, List.length_append]
  have := h (patM f 1) 1; have := h (patM f 2) 2; have := h (patM f 3) 3
  omega

/- the group code -/
def codeG (k : Int) : ByteArray := encode (oneB (9 - k).toNat)
def endG (r : RunR) : Nat := (r.a + r.c).toNat
def hitG (s : ByteArray) (r : RunR) (k : Int) : Bool := fitsB s (codeG k) (endG r)
def gcrOne (s : ByteArray) (r : RunR) (k : Int) : List MarkR := if hitG s r k = true then [⟨k, r.a, ((endG r : Nat) + 10) % s.size⟩] else []
def gcrAt (s : ByteArray) (r : RunR) : List MarkR := gcrOne s r 1 ++ gcrOne s r 2 ++ gcrOne s r 3
def gcrI (s : ByteArray) : List MarkR := (syncV s).flatMap (gcrAt s)
def gcrK (s : ByteArray) (k : Int) : List MarkR := (syncTo s s.size).flatMap (fun r => gcrOne s r k)
def gcrM (s : ByteArray) : List MarkR := gcrK s 1 ++ gcrK s 2 ++ gcrK s 3
def codeFacts : Bool := decide ((codeG 1).size = 10) && decide ((codeG 2).size = 10) && decide ((codeG 3).size = 10) && !((codeG 1).data.toList == (codeG 2).data.toList) && !((codeG 1).data.toList == (codeG 3).data.toList) && !((codeG 2).data.toList == (codeG 3).data.toList) && (codeG 1).data.toList.contains 48 && (codeG 2).data.toList.contains 48 && (codeG 3).data.toList.contains 48
theorem codeFacts_all : codeFacts = true := by decide +kernel
theorem code_facts : (∀ k : Int, (k = 1 ∨ k = 2 ∨ k = 3) → (codeG k).size = 10 ∧ 48 ∈ (codeG k).data.toList) ∧ (codeG 1).data.toList ≠ (codeG 2).data.toList ∧ (codeG 1).data.toList ≠ (codeG 3).data.toList ∧ (codeG 2).data.toList ≠ (codeG 3).data.toList := by
  have hf := codeFacts_all
  unfold codeFacts at hf
  simp only [Bool.and_eq_true, decide_eq_true_eq, Bool.not_eq_true', beq_eq_false_iff_ne, ne_eq, List.contains_iff_mem] at hf
  obtain ⟨⟨⟨⟨⟨⟨⟨⟨a, b⟩, c⟩, d⟩, e⟩, g⟩, x⟩, y⟩, z⟩ := hf
  refine ⟨?_, d, e, g⟩
  rintro k (rfl | rfl | rfl)
  · exact ⟨a, x⟩
  · exact ⟨b, y⟩
  · exact ⟨c, z⟩
theorem ones_no_hit {s : ByteArray} {r : RunR} {k : Int} (ho : allOnes s = true) (h0 : 0 < s.size) (hk : k = 1 ∨ k = 2 ∨ k = 3) : hitG s r k = false := by
  obtain ⟨hs, hm⟩ := code_facts.1 k hk
  refine decide_eq_false fun e => ?_
  obtain ⟨i, hi, hx⟩ := List.getElem_of_mem hm
  have hi' : i < (codeG k).size := by rw [← Array.size_eq_length_toList] at hi; exact hi
  have h1 := sliceL_get (s := s) (a := endG r) (n := (codeG k).size) hi'
  rw [e, List.getElem?_eq_getElem hi, hx, ones_at ho (Nat.mod_lt _ h0)] at h1
  cases h1
theorem gcrOne_no {s : ByteArray} {r : RunR} {k : Int} (h : hitG s r k = false) : gcrOne s r k = [] := by unfold gcrOne; rw [if_neg (by rw [h]; decide)]
theorem gcrOne_yes {s : ByteArray} {r : RunR} {k : Int} (h : hitG s r k = true) : gcrOne s r k = [⟨k, r.a, ((endG r : Nat) + 10) % s.size⟩] := if_pos h
theorem gcr_apart {s : ByteArray} {r : RunR} {i k : Int} (hi : i = 1 ∨ i = 2 ∨ i = 3) (hk : k = 1 ∨ k = 2 ∨ k = 3) (hne : (codeG i).data.toList ≠ (codeG k).data.toList) (h : hitG s r i = true) : hitG s r k = false := by
  cases h2 : hitG s r k
  · rfl
  · exact absurd (fits_one h h2 ((code_facts.1 i hi).1.trans (code_facts.1 k hk).1.symm)) hne
theorem gcrAt_len (s : ByteArray) (r : RunR) : gcrAt s r = [] ∨ ∃ m : MarkR, gcrAt s r = [m] ∧ m.a = r.a := by
  have n := code_facts.2
  unfold gcrAt
  cases h1 : hitG s r 1
  · rw [gcrOne_no h1]
    cases h2 : hitG s r 2
    · rw [gcrOne_no h2]
      cases h3 : hitG s r 3
      · rw [gcrOne_no h3]; exact .inl rfl
      · rw [gcrOne_yes h3]; exact .inr ⟨_, rfl, rfl⟩
    · rw [gcrOne_yes h2, gcrOne_no (gcr_apart (.inr (.inl rfl)) (.inr (.inr rfl)) n.2.2 h2)]; exact .inr ⟨_, rfl, rfl⟩
  · rw [gcrOne_yes h1, gcrOne_no (gcr_apart (.inl rfl) (.inr (.inl rfl)) n.1 h1), gcrOne_no (gcr_apart (.inl rfl) (.inr (.inr rfl)) n.2.1 h1)]; exact .inr ⟨_, rfl, rfl⟩
theorem gcr_flat_pair (s : ByteArray) : ∀ L : List RunR, L.Pairwise (fun x y => x.a < y.a) → (L.flatMap (gcrAt s)).Pairwise (fun x y => x.a < y.a) ∧ ∀ m ∈ L.flatMap (gcrAt s), ∃ r ∈ L, m.a = r.a
  | [], _ => ⟨.nil, fun m h => by cases h⟩
  | r :: L, h => by
    obtain ⟨h1, h2⟩ := List.pairwise_cons.1 h
    obtain ⟨i1, i2⟩ := gcr_flat_pair s L h2
    rw [List.flatMap_cons]
    rcases gcrAt_len s r with e | ⟨m, e, ha⟩
    · rw [e]
      exact ⟨i1, fun m hm => let ⟨q, hq, hx⟩ := i2 m hm; ⟨q, List.mem_cons_of_mem _ hq, hx⟩⟩
    · rw [e]
      refine ⟨List.pairwise_cons.2 ⟨fun y hy => ?_, i1⟩, fun y hy => ?_⟩
      · obtain ⟨q, hq, hx⟩ := i2 y hy
        rw [ha, hx]; exact h1 q hq
      · rcases List.mem_cons.1 hy with rfl | hy
        · exact ⟨r, List.mem_cons_self, ha⟩
        · obtain ⟨q, hq, hx⟩ := i2 y hy
          exact ⟨q, List.mem_cons_of_mem _ hq, hx⟩
theorem syncTo_mem {s : ByteArray} : ∀ {k : Nat} {r : RunR}, r ∈ syncTo s k → ∃ j : Nat, r = ⟨(j : Int), (cnt s j : Nat)⟩ ∧ j < k ∧ syncAt s j = true
  | 0, r, h => by cases h
  | k + 1, r, h => by
    rcases List.mem_append.1 h with h | h
    · obtain ⟨j, a, b, c⟩ := syncTo_mem h
      exact ⟨j, a, by omega, c⟩
    · by_cases hq : syncAt s k = true
      · rw [if_pos hq, List.mem_singleton] at h
        exact ⟨k, h, by omega, hq⟩
      · rw [if_neg hq] at h; cases h
theorem syncTo_pair (s : ByteArray) : ∀ k : Nat, (syncTo s k).Pairwise (fun x y => x.a < y.a)
  | 0 => .nil
  | k + 1 => by
    refine List.pairwise_append.2 ⟨syncTo_pair s k, ?_, fun x hx y hy => ?_⟩
    · split
      · exact List.pairwise_singleton _ _
      · exact .nil
    · obtain ⟨j, rfl, hj, _⟩ := syncTo_mem hx
      by_cases hq : syncAt s k = true
      · rw [if_pos hq, List.mem_singleton] at hy; subst hy; show (j : Int) < k; omega
      · rw [if_neg hq] at hy; cases hy
theorem perm4 (a A b B : List MarkR) : ((a ++ A) ++ (b ++ B)).Perm ((a ++ b) ++ (A ++ B)) := by
  rw [List.append_assoc, List.append_assoc]
  refine List.Perm.append_left a ?_
  rw [← List.append_assoc, ← List.append_assoc]
  exact (List.perm_append_comm).append_right B
theorem gcr_perm (s : ByteArray) : ∀ L : List RunR, ((L.flatMap (fun r => gcrOne s r 1) ++ L.flatMap (fun r => gcrOne s r 2)) ++ L.flatMap (fun r => gcrOne s r 3)).Perm (L.flatMap (gcrAt s))
  | [] => .refl _
  | r :: L => by
    rw [List.flatMap_cons, List.flatMap_cons, List.flatMap_cons, List.flatMap_cons]
    refine ((perm4 _ _ _ _).append_right _).trans ?_
    refine (perm4 _ _ _ _).trans ?_
    exact (gcr_perm s L).append_left _
theorem gcr_eq {s : ByteArray} (hv : validCells s = true) : gcrI s = insM (gcrM s) := by
  obtain ⟨v1, v2, v3⟩ := valid_size hv
  cases ho : allOnes s
  · have hV : syncV s = syncTo s s.size := by unfold syncV; rw [hv, ho]; rfl
    have hP := (gcr_flat_pair s _ (syncTo_pair s s.size)).1
    have h2 := gcr_perm s (syncTo s s.size)
    have hI : gcrI s = (syncTo s s.size).flatMap (gcrAt s) := by unfold gcrI; rw [hV]
    rw [hI]
    refine insM_eq h2.symm (hP.imp Int.le_of_lt) ?_
    exact (h2.pairwise_iff (fun h => Ne.symm h)).2 (hP.imp Int.ne_of_lt)
  · have hS : gcrM s = [] := by unfold gcrM gcrK; rw [ones_none ho s.size (Nat.le_refl _)]; rfl
    have hI : gcrI s = [] := by
      have hn : ∀ r, gcrAt s r = [] := fun r => by
        unfold gcrAt
        rw [gcrOne_no (ones_no_hit ho v1 (.inl rfl)), gcrOne_no (ones_no_hit ho v1 (.inr (.inl rfl))), gcrOne_no (ones_no_hit ho v1 (.inr (.inr rfl)))]; rfl
      unfold gcrI
      rw [List.flatMap_eq_nil_iff]
      exact fun r _ => hn r
    rw [hS, hI]; rfl
/- both -/
def marksV (s : ByteArray) (f : Int) : List MarkR := insM (if f = 3 then gcrM s else rawM s f)
theorem gcrM_len {s : ByteArray} (hv : validCells s = true) : (gcrM s).length ≤ 8000 := by
  have e : (gcrM s).length = (gcrI s).length := by rw [gcr_eq hv, insM_len]
  have h : ∀ L : List RunR, (L.flatMap (gcrAt s)).length ≤ L.length := by
    intro L
    induction L with
    | nil => exact Nat.le_refl _
    | cons r L ih =>
      rw [List.flatMap_cons, List.length_append, List.length_cons]
      rcases gcrAt_len s r with e | ⟨m, e, _⟩ <;> rw [e] <;> simp only [List.length_nil, List.length_singleton] <;> omega
  rw [e]
  exact Nat.le_trans (h _) (syncV_len s)
theorem marksV_len {s : ByteArray} {f : Int} (hv : validCells s = true) : (marksV s f).length ≤ 24000 := by
  obtain ⟨v1, v2, v3⟩ := valid_size hv
  unfold marksV
  rw [insM_len]
  split
  · have := gcrM_len hv; omega
  · have := rawM_len s f; omega
/- what FindMarks returns -/
def fmOk (s : ByteArray) (f : Int) : Bool := validCells s && inB f 1 3
def fmCode (s : ByteArray) (f : Int) : Int := if fmOk s f = true then (if (marksV s f).length ≤ 64 then 0 else 5) else 1
def fmVal (s : ByteArray) (f : Int) : List MarkR := if fmOk s f = true then (if (marksV s f).length ≤ 64 then marksV s f else []) else []
theorem fm_bad {s : ByteArray} {f : Int} (h : fmOk s f = false) : fmCode s f = 1 ∧ fmVal s f = [] := by
  unfold fmCode fmVal; rw [h]; exact ⟨rfl, rfl⟩
theorem fm_full {s : ByteArray} {f : Int} (h : fmOk s f = true) (h2 : ¬ (marksV s f).length ≤ 64) : fmCode s f = 5 ∧ fmVal s f = [] := by
  unfold fmCode fmVal; rw [if_pos h, if_pos h, if_neg h2, if_neg h2]; exact ⟨rfl, rfl⟩
theorem fm_good {s : ByteArray} {f : Int} (h : fmOk s f = true) (h2 : (marksV s f).length ≤ 64) : fmCode s f = 0 ∧ fmVal s f = marksV s f := by
  unfold fmCode fmVal; rw [if_pos h, if_pos h, if_pos h2, if_pos h2]; exact ⟨rfl, rfl⟩
theorem fmVal_len (s : ByteArray) (f : Int) : (fmVal s f).length ≤ 64 := by
  unfold fmVal
  split
  · split
    · assumption
    · exact Nat.zero_le _
  · exact Nat.zero_le _
end Go.Proofs.YtlelgpknkgjaeaaGreatDoor
