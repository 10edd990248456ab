/- The merging of found sectors: plain laws. Addresses in order, each once; what is merged at an address. No program in sight but for the imports. -/
import Derived.Test.YtlelgpknkgjaeaaFounds
import Derived.Test.YtlelgpknkgjaeaaVots
import Derived.Test.YtlelgpknkgjaeaaVoteP
namespace Go.Proofs.Ytlelgpknkgjaeaa
set_option linter.unusedSimpArgs false
set_option linter.unusedVariables false

/-- an address. -/
structure AdrR where
  c : Int
  h : Int
  n : Int
  s : Int
def AdrR.cells (a : AdrR) : List Value := [.int .i64 a.c, .int .i64 a.h, .int .i64 a.n, .int .i64 a.s]
theorem AdrR.len (a : AdrR) : a.cells.length = 4 := rfl
def FndR.adr (f : FndR) : AdrR := ⟨f.c, f.h, f.n, f.s⟩
def ltA (a b : AdrR) : Prop := a.c < b.c ∨ (a.c = b.c ∧ (a.h < b.h ∨ (a.h = b.h ∧ (a.n < b.n ∨ (a.n = b.n ∧ a.s < b.s)))))
instance (a b : AdrR) : Decidable (ltA a b) := by unfold ltA; infer_instance
def eqA (a b : AdrR) : Bool := decide (a.c = b.c ∧ a.h = b.h ∧ a.n = b.n ∧ a.s = b.s)
theorem eqA_yes {a b : AdrR} (h : eqA a b = true) : a = b := by
  unfold eqA at h
  obtain ⟨h1, h2, h3, h4⟩ := of_decide_eq_true h
  cases a; cases b; simp only at h1 h2 h3 h4; rw [h1, h2, h3, h4]
theorem eqA_self (a : AdrR) : eqA a a = true := decide_eq_true ⟨rfl, rfl, rfl, rfl⟩
instance : DecidableEq AdrR := fun a b => if h : eqA a b = true then .isTrue (eqA_yes h) else .isFalse (fun e => h (e ▸ eqA_self a))
theorem ltA_trans {a b c : AdrR} (h : ltA a b) (k : ltA b c) : ltA a c := by unfold ltA at *; omega
theorem ltA_irrefl (a : AdrR) : ¬ ltA a a := by unfold ltA; omega
theorem ltA_total {a b : AdrR} (h : ¬ ltA a b) (k : ¬ ltA b a) : a = b := by
  unfold ltA at *
  have : a.c = b.c ∧ a.h = b.h ∧ a.n = b.n ∧ a.s = b.s := by omega
  obtain ⟨h1, h2, h3, h4⟩ := this
  cases a; cases b; simp only at h1 h2 h3 h4; rw [h1, h2, h3, h4]
def putA : List AdrR → AdrR → List AdrR
  | [], v => [v]
  | x :: l, v => if ltA x v then x :: putA l v else if ltA v x then v :: x :: l else x :: l
theorem putA_pre {v : AdrR} : ∀ {A : List AdrR}, (∀ x ∈ A, ltA x v) → ∀ B, putA (A ++ B) v = A ++ putA B v
  | [], _, B => rfl
  | x :: A, h, B => by
    show (if ltA x v then x :: putA (A ++ B) v else _) = _
    rw [if_pos (h x List.mem_cons_self), putA_pre (fun y hy => h y (List.mem_cons_of_mem _ hy))]
    rfl
/-- the list with v at place k. -/
def putAt (l : List AdrR) (v : AdrR) (k : Nat) : List AdrR := l.take k ++ [v] ++ l.drop k
theorem putA_end {l : List AdrR} {v : AdrR} (h : ∀ j x, j < l.length → l[j]? = some x → ltA x v) : putA l v = putAt l v l.length := by
  have := putA_pre (A := l) (v := v) (fun x hx => by
    obtain ⟨j, hj, e⟩ := List.mem_iff_getElem.1 hx
    exact h j x hj (by rw [List.getElem?_eq_getElem hj, e])) []
  rw [List.append_nil] at this
  rw [this]
  unfold putAt
  rw [List.take_length, List.drop_length, List.append_nil]
  rfl
theorem putA_split {l : List AdrR} {v y : AdrR} {k : Nat} (h : ∀ j x, j < k → l[j]? = some x → ltA x v) (hy : l[k]? = some y) : putA l v = l.take k ++ putA (y :: l.drop (k + 1)) v := by
  have hk : k < l.length := (List.getElem?_eq_some_iff.1 hy).1
  have e : l = l.take k ++ (y :: l.drop (k + 1)) := by
    have e2 : l[k] = y := (List.getElem?_eq_some_iff.1 hy).2
    conv => lhs; rw [← List.take_append_drop k l, List.drop_eq_getElem_cons hk, e2]
  conv => lhs; rw [e]
  exact putA_pre (fun x hx => by
    obtain ⟨j, hj, e⟩ := List.mem_iff_getElem.1 hx
    rw [List.length_take] at hj
    refine h j x (by omega) ?_
    rw [List.getElem_take] at e
    rw [List.getElem?_eq_getElem (by omega), e]) _
theorem putA_new {l : List AdrR} {v y : AdrR} {k : Nat} (h : ∀ j x, j < k → l[j]? = some x → ltA x v) (hy : l[k]? = some y) (h1 : ¬ ltA y v) (h2 : ltA v y) : putA l v = putAt l v k := by
  have hk : k < l.length := (List.getElem?_eq_some_iff.1 hy).1
  have e2 : l[k] = y := (List.getElem?_eq_some_iff.1 hy).2
  rw [putA_split h hy]
  unfold putA putAt
  rw [if_neg h1, if_pos h2, List.drop_eq_getElem_cons hk, e2]
  simp
theorem putA_old {l : List AdrR} {v y : AdrR} {k : Nat} (h : ∀ j x, j < k → l[j]? = some x → ltA x v) (hy : l[k]? = some y) (h1 : ¬ ltA y v) (h2 : ¬ ltA v y) : putA l v = l := by
  have hk : k < l.length := (List.getElem?_eq_some_iff.1 hy).1
  have e2 : l[k] = y := (List.getElem?_eq_some_iff.1 hy).2
  rw [putA_split h hy]
  unfold putA
  rw [if_neg h1, if_neg h2]
  conv => rhs; rw [← List.take_append_drop k l, List.drop_eq_getElem_cons hk, e2]
theorem putA_mem {v x : AdrR} : ∀ {l : List AdrR}, x ∈ putA l v ↔ x = v ∨ x ∈ l
  | [] => by simp [putA]
  | y :: l => by
    unfold putA
    by_cases h1 : ltA y v
    · rw [if_pos h1, List.mem_cons, putA_mem, List.mem_cons]
      constructor
      · rintro (h | h | h)
        · exact .inr (.inl h)
        · exact .inl h
        · exact .inr (.inr h)
      · rintro (h | h | h)
        · exact .inr (.inl h)
        · exact .inl h
        · exact .inr (.inr h)
    · rw [if_neg h1]
      by_cases h2 : ltA v y
      · rw [if_pos h2, List.mem_cons]
      · rw [if_neg h2]
        have := ltA_total h1 h2
        subst this
        rw [List.mem_cons]
        constructor
        · exact fun h => .inr h
        · rintro (h | h)
          · exact .inl h
          · exact h
theorem putA_sorted : ∀ (l : List AdrR) (v : AdrR), l.Pairwise ltA → (putA l v).Pairwise ltA
  | [], v, _ => by simp [putA]
  | y :: l, v, h => by
    obtain ⟨h1, h2⟩ := List.pairwise_cons.1 h
    unfold putA
    by_cases a : ltA y v
    · rw [if_pos a]
      refine List.pairwise_cons.2 ⟨fun x hx => ?_, putA_sorted l v h2⟩
      rcases putA_mem.1 hx with rfl | hx
      · exact a
      · exact h1 x hx
    · rw [if_neg a]
      by_cases b : ltA v y
      · rw [if_pos b]
        refine List.pairwise_cons.2 ⟨fun x hx => ?_, h⟩
        rcases List.mem_cons.1 hx with rfl | hx
        · exact b
        · exact ltA_trans b (h1 x hx)
      · rw [if_neg b]; exact h
theorem sorted_one : ∀ (l m : List AdrR), l.Pairwise ltA → m.Pairwise ltA → (∀ x, x ∈ l ↔ x ∈ m) → l = m
  | [], [], _, _, _ => rfl
  | [], y :: m, _, _, h => by have := (h y).2 List.mem_cons_self; cases this
  | x :: l, [], _, _, h => by have := (h x).1 List.mem_cons_self; cases this
  | x :: l, y :: m, hl, hm, h => by
    obtain ⟨l1, l2⟩ := List.pairwise_cons.1 hl
    obtain ⟨m1, m2⟩ := List.pairwise_cons.1 hm
    have exy : x = y := by
      rcases List.mem_cons.1 ((h x).1 List.mem_cons_self) with e | e
      · exact e
      · rcases List.mem_cons.1 ((h y).2 List.mem_cons_self) with e2 | e2
        · exact e2.symm
        · exact absurd (ltA_trans (m1 x e) (l1 y e2)) (ltA_irrefl _)
    subst exy
    rw [sorted_one l m l2 m2 (fun z => ?_)]
    constructor
    · intro hz
      rcases List.mem_cons.1 ((h z).1 (List.mem_cons_of_mem _ hz)) with e | e
      · rw [e] at hz; exact absurd (l1 x hz) (ltA_irrefl _)
      · exact e
    · intro hz
      rcases List.mem_cons.1 ((h z).2 (List.mem_cons_of_mem _ hz)) with e | e
      · rw [e] at hz; exact absurd (m1 x hz) (ltA_irrefl _)
      · exact e

/-! ### 'slices.Compact' -/
/-- what the first j elements leave behind. -/
def cmpTo (l : List AdrR) : Nat → List AdrR
  | 0 => []
  | j + 1 => match l[j]? with
    | some x => if j ≠ 0 ∧ l[j - 1]? = some x then cmpTo l j else cmpTo l j ++ [x]
    | none => cmpTo l j
theorem cmpTo_same {l : List AdrR} {j : Nat} {x : AdrR} (h0 : l[j]? = some x) (h : l[j + 1]? = some x) : cmpTo l (j + 2) = cmpTo l (j + 1) := by
  conv => lhs; unfold cmpTo
  rw [h]
  show (if j + 1 ≠ 0 ∧ l[j + 1 - 1]? = some x then _ else _) = _
  rw [if_pos ⟨by omega, h0⟩]
theorem cmpTo_new {l : List AdrR} {j : Nat} {x y : AdrR} (h0 : l[j]? = some y) (h : l[j + 1]? = some x) (hne : y ≠ x) : cmpTo l (j + 2) = cmpTo l (j + 1) ++ [x] := by
  conv => lhs; unfold cmpTo
  rw [h]
  show (if j + 1 ≠ 0 ∧ l[j + 1 - 1]? = some x then _ else _) = _
  rw [if_neg (fun hh => by
    have := hh.2
    rw [Nat.add_sub_cancel, h0] at this
    injection this with this
    exact hne this)]
theorem cmpTo_one {l : List AdrR} {x : AdrR} (h : l[0]? = some x) : cmpTo l 1 = [x] := by
  unfold cmpTo
  rw [h]
  rfl
theorem cmpTo_len (l : List AdrR) : ∀ j, (cmpTo l j).length ≤ j
  | 0 => Nat.le_refl _
  | j + 1 => by
    have := cmpTo_len l j
    unfold cmpTo
    split
    · split
      · omega
      · rw [List.length_append]; show _ + 1 ≤ _; omega
    · omega
theorem cmpTo_mem {l : List AdrR} {x : AdrR} : ∀ {j : Nat}, x ∈ cmpTo l j ↔ x ∈ l.take j
  | 0 => by simp [cmpTo]
  | j + 1 => by
    unfold cmpTo
    rw [List.take_add_one, List.mem_append, ← cmpTo_mem]
    cases hx : l[j]? with
    | none => simp
    | some y =>
      show x ∈ (if j ≠ 0 ∧ l[j - 1]? = some y then cmpTo l j else cmpTo l j ++ [y]) ↔ _ ∨ x ∈ [y]
      split
      · rename_i h
        constructor
        · exact fun h => .inl h
        · rintro (a | a)
          · exact a
          · rw [List.mem_singleton] at a
            subst a
            rw [cmpTo_mem]
            refine List.mem_of_getElem? (i := j - 1) ?_
            rw [List.getElem?_take, if_pos (by omega)]
            exact h.2
      · rw [List.mem_append]
theorem cmpTo_sorted {l : List AdrR} (h : l.Pairwise (fun a b => ¬ ltA b a)) : ∀ j, (cmpTo l j).Pairwise ltA
  | 0 => List.Pairwise.nil
  | j + 1 => by
    unfold cmpTo
    cases hx : l[j]? with
    | none => exact cmpTo_sorted h j
    | some y =>
      show (if j ≠ 0 ∧ l[j - 1]? = some y then cmpTo l j else cmpTo l j ++ [y]).Pairwise ltA
      split
      · exact cmpTo_sorted h j
      · rename_i hn
        refine List.pairwise_append.2 ⟨cmpTo_sorted h j, List.pairwise_singleton _ _, fun a ha b hb => ?_⟩
        rw [List.mem_singleton] at hb
        subst hb
        have hj : j < l.length := (List.getElem?_eq_some_iff.1 hx).1
        obtain ⟨i, hi, e⟩ := List.mem_iff_getElem.1 (cmpTo_mem.1 ha)
        rw [List.length_take] at hi
        rw [List.getElem_take] at e
        have e2 : l[j] = b := (List.getElem?_eq_some_iff.1 hx).2
        have hij := List.pairwise_iff_getElem.1 h i j (by omega) hj (by omega)
        rw [e, e2] at hij
        by_cases hlt : ltA a b
        · exact hlt
        · have hab := ltA_total hlt hij
          subst hab
          exfalso
          apply hn
          refine ⟨by omega, ?_⟩
          have hk : j - 1 < l.length := by omega
          rw [List.getElem?_eq_getElem hk]
          rcases Nat.lt_or_ge i (j - 1) with h1 | h1
          · have p1 := List.pairwise_iff_getElem.1 h i (j - 1) (by omega) hk h1
            have p2 := List.pairwise_iff_getElem.1 h (j - 1) j hk hj (by omega)
            rw [e] at p1
            rw [e2] at p2
            rw [ltA_total p2 p1]
          · have : i = j - 1 := by omega
            subst this
            rw [e]

/-! ### the addresses of sectors -/
def adrsOf (fs : List FndR) : List AdrR := (fs.filter (fun f => decide (f.t ≠ 2))).map FndR.adr
theorem adrsOf_no {fs : List FndR} {f : FndR} (h : f.t = 2) : adrsOf (fs ++ [f]) = adrsOf fs := by
  unfold adrsOf
  rw [List.filter_append, List.filter_cons_of_neg (by rw [h]; decide)]
  simp
theorem adrsOf_yes {fs : List FndR} {f : FndR} (h : f.t ≠ 2) : adrsOf (fs ++ [f]) = adrsOf fs ++ [f.adr] := by
  unfold adrsOf
  rw [List.filter_append, List.filter_cons_of_pos (by exact decide_eq_true h), List.filter_nil, List.map_append]
  rfl
theorem adrsOf_len (fs : List FndR) : (adrsOf fs).length ≤ fs.length := by unfold adrsOf; rw [List.length_map]; exact List.length_filter_le _ _
def keysOf (fs : List FndR) : List AdrR := (adrsOf fs).foldl putA []
theorem keysOf_no {fs : List FndR} {f : FndR} (h : f.t = 2) : keysOf (fs ++ [f]) = keysOf fs := by unfold keysOf; rw [adrsOf_no h]
theorem keysOf_yes {fs : List FndR} {f : FndR} (h : f.t ≠ 2) : keysOf (fs ++ [f]) = putA (keysOf fs) f.adr := by unfold keysOf; rw [adrsOf_yes h, List.foldl_append]; rfl
theorem fold_sorted : ∀ (l acc : List AdrR), acc.Pairwise ltA → (l.foldl putA acc).Pairwise ltA
  | [], acc, h => h
  | x :: l, acc, h => fold_sorted l _ (putA_sorted acc x h)
theorem fold_mem {x : AdrR} : ∀ (l acc : List AdrR), x ∈ l.foldl putA acc ↔ x ∈ l ∨ x ∈ acc
  | [], acc => by simp
  | y :: l, acc => by
    show x ∈ l.foldl putA (putA acc y) ↔ _
    rw [fold_mem, putA_mem, List.mem_cons]
    constructor
    · rintro (h | h | h)
      · exact .inl (.inr h)
      · exact .inl (.inl h)
      · exact .inr h
    · rintro ((h | h) | h)
      · exact .inr (.inl h)
      · exact .inl h
      · exact .inr (.inr h)
theorem fold_len : ∀ (l acc : List AdrR), (l.foldl putA acc).length ≤ l.length + acc.length
  | [], acc => by simp
  | y :: l, acc => by
    have h := fold_len l (putA acc y)
    have hp : ∀ m : List AdrR, (putA m y).length ≤ m.length + 1 := by
      intro m
      induction m with
      | nil => exact Nat.le_refl _
      | cons z m ih =>
        unfold putA
        split
        · simp only [List.length_cons]; omega
        · split <;> simp only [List.length_cons] <;> omega
    have := hp acc
    show (l.foldl putA (putA acc y)).length ≤ _
    simp only [List.length_cons]
    omega
theorem keysOf_len (fs : List FndR) : (keysOf fs).length ≤ fs.length := by
  have := fold_len (adrsOf fs) []
  have := adrsOf_len fs
  unfold keysOf
  simp only [List.length_nil] at *
  omega
/-- sorting and striking gives the same. -/
theorem keys_same {fs : List FndR} {l : List AdrR} (hp : l.Perm (adrsOf fs)) (hs : l.Pairwise (fun a b => ¬ ltA b a)) : cmpTo l l.length = keysOf fs := by
  refine sorted_one _ _ (cmpTo_sorted hs _) (fold_sorted _ _ List.Pairwise.nil) (fun x => ?_)
  rw [cmpTo_mem, List.take_length]
  unfold keysOf
  rw [fold_mem, hp.mem_iff]
  simp

/-! ### what is merged at an address -/
def keyF (f : FndR) (a : AdrR) : Bool := decide (f.t ≠ 2) && eqA f.adr a
def pickF (fs : List FndR) (a : AdrR) (st : Int) : List FndR := fs.filter (fun f => keyF f a && decide (f.t = st))
def dataOf (fs : List FndR) (a : AdrR) (st : Int) : List ByteArray := (pickF fs a st).map FndR.d
def delOf (fs : List FndR) (a : AdrR) (st : Int) : Nat := ((pickF fs a st).filter FndR.l).length
def hasF (fs : List FndR) (a : AdrR) : Bool := fs.any (fun f => keyF f a)
def votesTo (ls : List (List FndR)) (a : AdrR) (i : Nat) : Nat := ((ls.take i).filter (fun l => hasF l a)).length
theorem pick_no {fs : List FndR} {f : FndR} {a : AdrR} {st : Int} (h : (keyF f a && decide (f.t = st)) = false) : pickF (fs ++ [f]) a st = pickF fs a st := by
  unfold pickF
  rw [List.filter_append, List.filter_cons_of_neg (by rw [h]; decide)]
  simp
theorem pick_yes {fs : List FndR} {f : FndR} {a : AdrR} {st : Int} (h : (keyF f a && decide (f.t = st)) = true) : pickF (fs ++ [f]) a st = pickF fs a st ++ [f] := by
  unfold pickF
  rw [List.filter_append, List.filter_cons_of_pos (by exact h), List.filter_nil]
theorem pick_len (fs : List FndR) (a : AdrR) (st : Int) : (pickF fs a st).length ≤ fs.length := List.length_filter_le _ _
theorem data_len (fs : List FndR) (a : AdrR) (st : Int) : (dataOf fs a st).length = (pickF fs a st).length := List.length_map _
theorem del_le (fs : List FndR) (a : AdrR) (st : Int) : delOf fs a st ≤ (pickF fs a st).length := List.length_filter_le _ _
theorem hasF_snoc (fs : List FndR) (f : FndR) (a : AdrR) : hasF (fs ++ [f]) a = (hasF fs a || keyF f a) := by
  unfold hasF; rw [List.any_append]; simp
theorem votesTo_next {ls : List (List FndR)} {a : AdrR} {i : Nat} {fs : List FndR} (h : ls[i]? = some fs) : votesTo ls a (i + 1) = votesTo ls a i + (if hasF fs a = true then 1 else 0) := by
  unfold votesTo
  rw [List.take_add_one, h, List.filter_append, List.length_append]
  show _ + (List.filter _ [fs]).length = _
  by_cases hh : hasF fs a = true
  · rw [if_pos hh, List.filter_cons_of_pos (by exact hh)]; rfl
  · rw [if_neg hh, List.filter_cons_of_neg (by exact hh)]; rfl
theorem votesTo_le (ls : List (List FndR)) (a : AdrR) (i : Nat) : votesTo ls a i ≤ i := by
  unfold votesTo
  have := List.length_filter_le (fun l => hasF l a) (ls.take i)
  rw [List.length_take] at this
  omega
def fillV (a : AdrR) (l : List ByteArray) (del : Nat) (st : Int) (vo : Nat) : VotR :=
  ⟨a.c, a.h, a.n, a.s, ⟨(voteTo l (revLen l)).toArray⟩, st, decide (l.length < 2 * del), placesTo (diffAt l) (revLen l), (vo : Nat)⟩
def mergeV (ls : List (List FndR)) (a : AdrR) : VotR :=
  if (dataOf ls.flatten a 1).length ≠ 0 then fillV a (dataOf ls.flatten a 1) (delOf ls.flatten a 1) (if (placesTo (diffAt (dataOf ls.flatten a 1)) (revLen (dataOf ls.flatten a 1))).length = 0 then 1 else 5) (votesTo ls a ls.length)
  else if (dataOf ls.flatten a 3).length ≠ 0 then fillV a (dataOf ls.flatten a 3) (delOf ls.flatten a 3) 3 (votesTo ls a ls.length)
  else ⟨a.c, a.h, a.n, a.s, ⟨#[]⟩, 4, false, [], (votesTo ls a ls.length : Nat)⟩
def mgV (ls : List (List FndR)) : List VotR := (keysOf ls.flatten).map (mergeV ls)
/-- the sectors before sector k of list i. -/
def preF (ls : List (List FndR)) (i k : Nat) : List FndR := (ls.take i).flatten ++ (ls.getD i []).take k
theorem preF_zero (ls : List (List FndR)) : preF ls 0 0 = [] := by simp [preF]
theorem preF_next {ls : List (List FndR)} {i k : Nat} {fs : List FndR} {f : FndR} (h : ls[i]? = some fs) (hf : fs[k]? = some f) : preF ls i (k + 1) = preF ls i k ++ [f] := by
  unfold preF
  rw [List.getD_eq_getElem?_getD, h]
  show _ ++ fs.take (k + 1) = _ ++ fs.take k ++ _
  rw [List.take_add_one, hf, List.append_assoc]
  rfl
theorem preF_turn {ls : List (List FndR)} {i : Nat} {fs : List FndR} (h : ls[i]? = some fs) : preF ls i fs.length = preF ls (i + 1) 0 := by
  unfold preF
  rw [List.getD_eq_getElem?_getD, h, List.take_add_one, h, List.flatten_append]
  show _ ++ fs.take fs.length = _
  rw [List.take_length]
  simp
theorem preF_all (ls : List (List FndR)) : preF ls ls.length 0 = ls.flatten := by
  unfold preF
  rw [List.take_length]
  simp
theorem preF_le {ls : List (List FndR)} {i k : Nat} {B : Nat} (h : ∀ fs ∈ ls, fs.length ≤ B) (hi : i < ls.length) (hk : k ≤ B) : (preF ls i k).length ≤ B * (i + 1) := by
  have key : ∀ m : List (List FndR), (∀ fs ∈ m, fs.length ≤ B) → m.flatten.length ≤ B * m.length := by
    intro m
    induction m with
    | nil => intro _; simp
    | cons x m ih =>
      intro hm
      have h1 := ih (fun y hy => hm y (List.mem_cons_of_mem _ hy))
      have h2 := hm x List.mem_cons_self
      rw [List.flatten_cons, List.length_append, List.length_cons, Nat.mul_add]
      omega
  have h1 := key (ls.take i) (fun y hy => h y (List.mem_of_mem_take hy))
  rw [List.length_take] at h1
  have h2 : ((ls.getD i []).take k).length ≤ k := by rw [List.length_take]; omega
  have h3 : min i ls.length = i := by omega
  rw [h3] at h1
  unfold preF
  rw [List.length_append, Nat.mul_add]
  omega
/-- the data of a good sector has the size of its address. -/
def goodF (f : FndR) : Prop := (f.t = 1 ∨ f.t = 3) → (f.d.size : Int) = sizeBytes f.s ∧ f.d.size ≤ 1024
theorem pick_mem {fs : List FndR} {a : AdrR} {st : Int} {f : FndR} (h : f ∈ pickF fs a st) : f ∈ fs ∧ f.t = st ∧ f.s = a.s := by
  obtain ⟨h1, h2⟩ := List.mem_filter.1 h
  rw [Bool.and_eq_true] at h2
  obtain ⟨h3, h4⟩ := h2
  unfold keyF at h3
  rw [Bool.and_eq_true] at h3
  have := eqA_yes h3.2
  exact ⟨h1, of_decide_eq_true h4, by rw [← this]; rfl⟩
theorem data_size {fs : List FndR} {a : AdrR} {st : Int} (hg : ∀ f ∈ fs, goodF f) (hst : st = 1 ∨ st = 3) : ∀ s ∈ dataOf fs a st, s.size = revLen (dataOf fs a st) ∧ s.size ≤ 1024 := by
  have key : ∀ s ∈ dataOf fs a st, (s.size : Int) = sizeBytes a.s ∧ s.size ≤ 1024 := by
    intro s hs
    obtain ⟨f, hf, rfl⟩ := List.mem_map.1 hs
    obtain ⟨h1, h2, h3⟩ := pick_mem hf
    rw [← h3]
    exact hg f h1 (by rw [h2]; exact hst)
  intro s hs
  refine ⟨?_, (key s hs).2⟩
  unfold revLen
  cases hd : dataOf fs a st with
  | nil => rw [hd] at hs; cases hs
  | cons x r =>
    show s.size = x.size
    have h1 := (key s hs).1
    have h2 := (key x (by rw [hd]; exact List.mem_cons_self)).1
    omega
end Go.Proofs.Ytlelgpknkgjaeaa
