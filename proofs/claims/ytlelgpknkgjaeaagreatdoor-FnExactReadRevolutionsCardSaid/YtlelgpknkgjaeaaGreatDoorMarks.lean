/- 'ValidMarks' and 'NextMark' of the program and of the reference. -/
import Derived.Test.YtlelgpknkgjaeaaGreatDoorRecF
import Derived.Test.YtlelgpknkgjaeaaGreatDoorMark
namespace Go.Proofs.YtlelgpknkgjaeaaGreatDoor
open Go.ChangeShapes Go.WideShapes Go.ChangeAt Go.RowKit
set_option linter.unusedSimpArgs false
set_option linter.unusedVariables false

/-- a test at every place below n. -/
def allTo (p : Nat → Bool) : Nat → Bool
  | 0 => true
  | n + 1 => allTo p n && p n
theorem allTo_no {p : Nat → Bool} {k : Nat} (h : p k = false) : ∀ {n : Nat}, k < n → allTo p n = false
  | 0, hk => by omega
  | n + 1, hk => by
    unfold allTo
    rcases Nat.lt_or_ge k n with hlt | hge
    · rw [allTo_no h hlt]; rfl
    · obtain rfl : k = n := by omega
      rw [h, Bool.and_false]
theorem allTo_yes {p : Nat → Bool} {k : Nat} (h : allTo p k = true) (hp : p k = true) : allTo p (k + 1) = true := by unfold allTo; rw [h, hp]; rfl
theorem allTo_at {p : Nat → Bool} {n : Nat} (h : allTo p n = true) : ∀ k, k < n → p k = true := by
  induction n with
  | zero => intro k hk; omega
  | succ n ih =>
    intro k hk
    unfold allTo at h
    rw [Bool.and_eq_true] at h
    rcases Nat.lt_or_ge k n with hlt | hge
    · exact ih h.1 k hlt
    · obtain rfl : k = n := by omega
      exact h.2

def markOk (l : List MarkR) (t : Int) (i : Nat) : Bool :=
  match l[i]? with
  | some m => inB m.k 1 3 && inB m.a 0 (t - 1) && inB m.b 0 (t - 1) && (i == 0 || decide (((l[i - 1]?).map MarkR.a).getD 0 < m.a))
  | none => true
def validMarks (l : List MarkR) (t : Int) : Bool := inB t 1 8000 && (decide (l.length ≤ 64) && allTo (markOk l t) l.length)

theorem markOk_cases {l : List MarkR} {t : Int} {i : Nat} {m : MarkR} (hm : l[i]? = some m) :
    (inB m.k 1 3 = false ∧ Hid (markOk l t i = false)) ∨
    (inB m.k 1 3 = true ∧ inB m.a 0 (t - 1) = false ∧ Hid (markOk l t i = false)) ∨
    (inB m.k 1 3 = true ∧ inB m.a 0 (t - 1) = true ∧ inB m.b 0 (t - 1) = false ∧ Hid (markOk l t i = false)) ∨
    (inB m.k 1 3 = true ∧ inB m.a 0 (t - 1) = true ∧ inB m.b 0 (t - 1) = true ∧ i = 0 ∧ Hid (markOk l t i = true)) ∨
    (inB m.k 1 3 = true ∧ inB m.a 0 (t - 1) = true ∧ inB m.b 0 (t - 1) = true ∧ ∃ j q, i = j + 1 ∧ l[j]? = some q ∧ ((m.a ≤ q.a ∧ Hid (markOk l t i = false)) ∨ (q.a < m.a ∧ Hid (markOk l t i = true)))) := by
  have hv : markOk l t i = (inB m.k 1 3 && inB m.a 0 (t - 1) && inB m.b 0 (t - 1) && (i == 0 || decide (((l[i - 1]?).map MarkR.a).getD 0 < m.a))) := by unfold markOk; rw [hm]
  unfold Hid
  rw [hv]
  cases inB m.k 1 3 <;> cases inB m.a 0 (t - 1) <;> cases inB m.b 0 (t - 1) <;> simp
  rcases i with _ | j
  · exact .inl (by simp)
  · right
    have hj : j < l.length := by have := (List.getElem?_eq_some_iff.1 hm).1; omega
    refine ⟨j, rfl, l[j], List.getElem?_eq_getElem hj, ?_⟩
    simp [List.getElem?_eq_getElem hj]
    omega

set_option maxHeartbeats 2000000 in
theorem impl_ValidMarks {v : Value} {n b : Nat} {l : List MarkR} (t : Int) (w : World) (h : w.ownsRow b 51 3 v n (l.flatMap MarkR.cells)) :
    Calls Tryz.prog 29 #[v, .int .i64 t] w fun e w' => e = .returned (.bool (validMarks l t)) ∧ Below w.heap.size w w' := by
  have hlx : l.length = n := by have := h.1; rw [flat_len MarkR.len] at this; omega
  obtain ⟨A, c, rfl, _, hn, hA⟩ := own_shape h
  have HL := Hid.in_ hlx
  have H1 := Hid.in_ hA
  clear hA h hlx
  cases ht : inB t 1 8000
  · have HV : Hid (validMarks l t = false) := by unfold Hid validMarks; rw [ht]; rfl
    go_enter Tryz.func29, Tryz.ntmps29
    go_wp2_with (go_at_call 56; refine (bool_is (impl_within _ _ _ _) (by assumption)).mono ?_; rintro e w' ⟨rfl, rfl⟩)
    go_ret
    exact ⟨ret_bool HV.out.symm, Below.refl _ _⟩
  · obtain ⟨t1, t2⟩ := inB_t ht
    by_cases h64 : 64 < n
    · have HV : Hid (validMarks l t = false) := by unfold Hid validMarks; rw [ht, HL.out, decide_eq_false (by omega)]; rfl
      have h64' : (64 : Int) < (n : Int) := by omega
      go_enter Tryz.func29, Tryz.ntmps29
      go_wp2_with (go_at_call 56; refine (bool_is (impl_within _ _ _ _) (by assumption)).mono ?_; rintro e w' ⟨rfl, rfl⟩)
      go_ret
      exact ⟨ret_bool HV.out.symm, Below.refl _ _⟩
    · have HV : Hid (validMarks l t = allTo (markOk l t) n) := by unfold Hid validMarks; rw [ht, HL.out, decide_eq_true (by omega)]; simp
      have h64' : (n : Int) ≤ 64 := by omega
      go_enter Tryz.func29, Tryz.ntmps29
      go_wp2_with (go_at_call 56; refine (bool_is (impl_within _ _ _ _) (by assumption)).mono ?_; rintro e w' ⟨rfl, rfl⟩)
      go_loopg [17] n (fun m i wr => ∃ k : Nat, k + m = n ∧ i = .int .i64 k ∧ Hid (allTo (markOk l t) k = true ∧ Below w.heap.size w wr))
      case atStart => exact ⟨0, by omega, rfl, rfl, Below.refl _ _⟩
      case round =>
        obtain ⟨k, hkm, rfl, HB⟩ := hrel
        have HK := Hid.in_ hkm
        clear hkm
        by_cases hlt : k < n
        · obtain ⟨g, rfl, _, hg, hx, _⟩ := H1.out (by omega)
          obtain ⟨m, hm⟩ := get_lt l k (by rw [HL.out]; exact hlt)
          obtain ⟨c0, c1, c2⟩ := boxAt3 ((Box.elem MarkR.len hx hm).step HB.out.2)
          have hgw : g < wr.heap.size := Nat.lt_of_lt_of_le hg HB.out.2.size
          have HX := Hid.in_ hx
          have hcs := markOk_cases (t := t) hm
          clear hx hm
          obtain ⟨h1, HO⟩ | ⟨h1, h2, HO⟩ | ⟨h1, h2, h3, HO⟩ | ⟨h1, h2, h3, rfl, HO⟩ | ⟨h1, h2, h3, j, q, rfl, hq, ⟨h4, HO⟩ | ⟨h4, HO⟩⟩ := hcs
          case' inr.inr.inr.inr.inl | inr.inr.inr.inr.inr =>
            obtain ⟨d0, d1, d2⟩ := boxAt3 ((Box.elem MarkR.len HX.out hq).step HB.out.2)
            clear hq
          all_goals
            go_wp2_with fail
            go_quiet ((first | (go_at_call 57; first | exact quiet_left (bool_is (impl_isMarkKind _ _) (by assumption)) | exact quiet_add_left (bool_is (impl_isMarkKind _ _) (by assumption))) | (go_at_call 56; first | exact quiet_left (bool_is (impl_within _ _ _ _) (by assumption)) | exact quiet_add_left (bool_is (impl_within _ _ _ _) (by assumption)))))
            go_wp2
          all_goals
            first
            | (go_ret; exact ⟨ret_bool (by rw [HV.out, allTo_no HO.out hlt]), below_drewN (balloc HB.out.2 _) _⟩)
            | (have hk := HK.out
               go_roundg (gk - 1)
               case measure => omega
               case rel => exact ⟨_, by omega, by go_num, allTo_yes HB.out.1 HO.out, below_drewN (balloc HB.out.2 _) _⟩)
        · have hk := HK.out
          obtain rfl : k = n := by omega
          go_wp2
          go_ret
          exact ⟨ret_bool (by rw [HV.out, HB.out.1]), HB.out.2⟩

def before (l : List MarkR) (a : Int) (i : Nat) : Bool := match l[i]? with | some m => decide (m.a < a) | none => true
def firstNo (p : Nat → Bool) (n : Nat) : Nat := ((List.range n).find? fun i => !p i).getD 0
theorem firstNo_at {p : Nat → Bool} {n k : Nat} (h : allTo p k = true) (hp : p k = false) (hk : k < n) : firstNo p n = k := by
  unfold firstNo
  have : (List.range n).find? (fun i => !p i) = some k := by
    rw [List.find?_range_eq_some]
    exact ⟨by rw [hp]; rfl, List.mem_range.2 hk, fun j hj => by rw [allTo_at h j hj]; rfl⟩
  rw [this]; rfl
theorem firstNo_none {p : Nat → Bool} {n : Nat} (h : allTo p n = true) : firstNo p n = 0 := by
  unfold firstNo
  have : (List.range n).find? (fun i => !p i) = none := by
    rw [List.find?_eq_none]
    intro x hx
    rw [allTo_at h x (List.mem_range.1 hx)]
    decide
  rw [this]; rfl
def nextOk (l : List MarkR) (a : Int) : Bool := !(l.length == 0) && validMarks l 8000 && inB a 0 7999
def nextIdx (l : List MarkR) (a : Int) : Int := if nextOk l a = true then (firstNo (before l a) l.length : Int) else 0
theorem next_cases (l : List MarkR) (a : Int) :
    (l.length = 0 ∧ Hid (nextOk l a = false ∧ nextIdx l a = 0)) ∨
    (0 < l.length ∧ validMarks l 8000 = false ∧ Hid (nextOk l a = false ∧ nextIdx l a = 0)) ∨
    (0 < l.length ∧ validMarks l 8000 = true ∧ inB a 0 7999 = false ∧ Hid (nextOk l a = false ∧ nextIdx l a = 0)) ∨
    (0 < l.length ∧ validMarks l 8000 = true ∧ inB a 0 7999 = true ∧ Hid (nextOk l a = true ∧ nextIdx l a = (firstNo (before l a) l.length : Int))) := by
  unfold Hid nextIdx nextOk
  rcases Nat.eq_zero_or_pos l.length with h | h
  · left; simp [h]
  · right
    have h0 : (l.length == 0) = false := beq_eq_false_iff_ne.2 (by omega)
    rw [h0]
    cases validMarks l 8000 <;> cases inB a 0 7999 <;> simp [h]
theorem before_cases {l : List MarkR} {a : Int} {i : Nat} {m : MarkR} (hm : l[i]? = some m) : (a ≤ m.a ∧ Hid (before l a i = false)) ∨ (m.a < a ∧ Hid (before l a i = true)) := by
  unfold Hid before
  rw [hm]
  simp
  omega
theorem ret2_ib {k : IntKind} {a b : Int} {c d : Bool} (h : a = b) (h' : c = d) : Ending.returned (.tuple #[.int k a, .bool c]) = .returned (.tuple #[.int k b, .bool d]) := by rw [h, h']
theorem bool_isB {P : Program} {f : FuncId} {args : Array Value} {w : World} {b c : Bool} (h : Calls P f args w fun e w' => e = .returned (.bool b) ∧ Below w.heap.size w w') (hb : b = c) :
    Calls P f args w fun e w' => e = .returned (.bool c) ∧ Below w.heap.size w w' := by subst hb; exact h

end Go.Proofs.YtlelgpknkgjaeaaGreatDoor
