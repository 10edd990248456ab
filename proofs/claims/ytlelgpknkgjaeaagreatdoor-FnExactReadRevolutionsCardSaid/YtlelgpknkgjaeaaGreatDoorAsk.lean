/- 'DataMarkOf' of the program and of the reference: which mark of a list bears the data of an id mark. -/
import Derived.Test.YtlelgpknkgjaeaaGreatDoorValid
import Derived.Test.YtlelgpknkgjaeaaGreatDoorMarks
namespace Go.Proofs.YtlelgpknkgjaeaaGreatDoor
open Go.ChangeShapes Go.WideShapes Go.ChangeAt Go.RowKit
set_option linter.unusedSimpArgs false
set_option linter.unusedVariables false
set_option maxRecDepth 4000

def kindAt (l : List MarkR) (k : Nat) : Int := ((l[k]?).map MarkR.k).getD 0
def askBad (s : ByteArray) (f : Int) (l : List MarkR) : Bool := !(validCells s && (inB f 1 3 && validMarks l s.size))
def askCode (s : ByteArray) (f : Int) (l : List MarkR) (k : Int) : Int :=
  if askBad s f l = true then 1 else if inB k 0 ((l.length : Int) - 1) = false then 3 else if kindAt l k.toNat = 1 then 0 else 6
theorem ask_cases (s : ByteArray) (f : Int) (l : List MarkR) (k : Int) :
    (validCells s = false ∧ Hid (askCode s f l k = 1)) ∨ (validCells s = true ∧ inB f 1 3 = false ∧ Hid (askCode s f l k = 1)) ∨
    (validCells s = true ∧ inB f 1 3 = true ∧ validMarks l s.size = false ∧ Hid (askCode s f l k = 1)) ∨
    (validCells s = true ∧ inB f 1 3 = true ∧ validMarks l s.size = true ∧ inB k 0 ((l.length : Int) - 1) = false ∧ Hid (askCode s f l k = 3)) ∨
    (validCells s = true ∧ inB f 1 3 = true ∧ validMarks l s.size = true ∧ inB k 0 ((l.length : Int) - 1) = true ∧ ∃ (j : Nat) (m : MarkR), k = j ∧ j < l.length ∧ l[j]? = some m ∧ ((m.k = 1 ∧ Hid (askCode s f l k = 0)) ∨ (m.k ≠ 1 ∧ Hid (askCode s f l k = 6)))) := by
  unfold Hid askCode askBad
  cases h1 : validCells s
  · exact .inl ⟨rfl, rfl⟩
  cases h2 : inB f 1 3
  · exact .inr (.inl ⟨rfl, rfl, rfl⟩)
  cases h3 : validMarks l s.size
  · exact .inr (.inr (.inl ⟨rfl, rfl, rfl, rfl⟩))
  cases h4 : inB k 0 ((l.length : Int) - 1)
  · exact .inr (.inr (.inr (.inl ⟨rfl, rfl, rfl, rfl, rfl⟩)))
  · obtain ⟨a1, a2⟩ := inB_t h4
    obtain ⟨j, rfl⟩ := Int.eq_ofNat_of_zero_le a1
    have hj : j < l.length := by omega
    obtain ⟨m, hm⟩ := get_lt l j hj
    refine .inr (.inr (.inr (.inr ⟨rfl, rfl, rfl, rfl, j, m, rfl, hj, hm, ?_⟩)))
    have hk : kindAt l ((j : Int)).toNat = m.k := by
      show ((l[j]?).map MarkR.k).getD 0 = m.k
      rw [hm]
      rfl
    by_cases h5 : m.k = 1
    · exact .inl ⟨h5, by rw [hk, h5]; rfl⟩
    · exact .inr ⟨h5, by rw [hk]; simp [h5]⟩
theorem marks_t {l : List MarkR} {t : Int} (h1 : 1 ≤ t) (h2 : t ≤ 8000) : (decide (l.length ≤ 64) && allTo (markOk l t) l.length) = validMarks l t := by
  unfold validMarks
  rw [inB_mk h1 h2, Bool.true_and]
theorem mark_in {l : List MarkR} {t : Int} (h : validMarks l t = true) {k : Nat} {m : MarkR} (hm : l[k]? = some m) : 0 ≤ m.a ∧ m.a < t ∧ 0 ≤ m.b ∧ m.b < t := by
  unfold validMarks at h
  simp only [Bool.and_eq_true] at h
  have hk := allTo_at h.2.2 k (List.getElem?_eq_some_iff.1 hm).1
  unfold markOk at hk
  rw [hm] at hk
  simp only [Bool.and_eq_true] at hk
  obtain ⟨a1, a2⟩ := inB_t hk.1.1.2
  obtain ⟨b1, b2⟩ := inB_t hk.1.2
  omega
theorem box3' {w : World} {b k : Nat} {m : MarkR} (h : BoxAt w b (k * 3) m.cells) : w.cell? ⟨b, k * 3, none⟩ = some (.int .i64 m.k) ∧ w.cell? ⟨b, k * 3 + 1, none⟩ = some (.int .i64 m.a) ∧ w.cell? ⟨b, k * 3 + 2, none⟩ = some (.int .i64 m.b) := boxAt3 h
theorem impl_sizeMark (A : Option Addr) (n c : Nat) (w : World) (hn : n ≤ 9223372036854775807) :
    Calls Tryz.prog 111 #[.slice A n c] w fun e w' => e = .returned (.int .i64 n) ∧ w = w' := by
  go_enter Tryz.func111, Tryz.ntmps111
  go_wp2
  go_ret
  exact ⟨rfl, rfl⟩
def dmNext (l : List MarkR) (k : Nat) : Nat := (k + 1) % l.length
def dmNo (l : List MarkR) (n k : Nat) : Bool :=
  match l[dmNext l k]?, l[k]? with
  | some q, some m => q.k == 1 || decide (320 < (q.a - m.b) % (n : Int))
  | _, _ => true
theorem dm_cases {l : List MarkR} {n k : Nat} {q m : MarkR} (hq : l[dmNext l k]? = some q) (hm : l[k]? = some m) :
    (q.k = 1 ∧ Hid (dmNo l n k = true)) ∨ ((q.k == 1) = false ∧ 320 < (q.a - m.b) % (n : Int) ∧ Hid (dmNo l n k = true)) ∨ ((q.k == 1) = false ∧ (q.a - m.b) % (n : Int) ≤ 320 ∧ Hid (dmNo l n k = false)) := by
  have hv : dmNo l n k = (q.k == 1 || decide (320 < (q.a - m.b) % (n : Int))) := by unfold dmNo; rw [hq, hm]
  unfold Hid
  rw [hv]
  by_cases h1 : q.k = 1
  · exact .inl ⟨h1, by rw [h1]; rfl⟩
  · by_cases h2 : 320 < (q.a - m.b) % (n : Int)
    · exact .inr (.inl ⟨beq_eq_false_iff_ne.2 h1, h2, by rw [decide_eq_true h2, Bool.or_true]⟩)
    · exact .inr (.inr ⟨beq_eq_false_iff_ne.2 h1, by omega, by rw [decide_eq_false h2, Bool.or_false]; exact beq_eq_false_iff_ne.2 h1⟩)
theorem next_mod (k n : Nat) : ((k : Int) + 1) % (n : Int) = (((k + 1) % n : Nat) : Int) := by simp
theorem between_eq {t : Nat} {b a : Int} (h1 : 1 ≤ t) (h2 : t ≤ 8000) (hb0 : 0 ≤ b) (hb1 : b < t) (ha0 : 0 ≤ a) (ha1 : a < t) : cellsBetween t b a = (a - b) % (t : Int) := by
  unfold cellsBetween
  rw [if_pos ⟨inB_mk (by omega) (by omega), inB_mk hb0 (by omega), inB_mk ha0 (by omega)⟩, Int.add_emod_right]
def dmInt (l : List MarkR) (n k : Nat) : Int := if dmNo l n k = true then -1 else (dmNext l k : Nat)
def dmVal (l : List MarkR) (n k : Nat) : Int := if dmNo l n k = true then 0 else (dmNext l k : Nat)
theorem dm_yes {l : List MarkR} {n k : Nat} (h : dmNo l n k = true) : dmInt l n k = -1 ∧ dmVal l n k = 0 := ⟨if_pos h, if_pos h⟩
theorem dm_no {l : List MarkR} {n k : Nat} (h : dmNo l n k = false) : dmInt l n k = (dmNext l k : Nat) ∧ dmVal l n k = (dmNext l k : Nat) := ⟨if_neg (by rw [h]; decide), if_neg (by rw [h]; decide)⟩
set_option maxHeartbeats 2000000 in
theorem spec_l09DataMark {v : Value} {n b : Nat} {l : List MarkR} (t k : Nat) (w : World) (h : w.ownsRow b 51 3 v n (l.flatMap MarkR.cells)) (hv : validMarks l t = true) (h1 : 1 ≤ t) (h2 : t ≤ 8000) (hk : k < l.length) (hn2 : n ≤ 1048576) :
    Calls Tryz.prog 107 #[.int .i64 t, v, .int .i64 k] w fun e w' => e = .returned (.int .i64 (dmInt l t k)) ∧ Below w.heap.size w w' := by
  have hlx : l.length = n := by have := h.1; rw [flat_len MarkR.len] at this; omega
  obtain ⟨A, c, rfl, _, hn, hA⟩ := own_shape h
  have hx1 : dmNext l k < l.length := Nat.mod_lt _ (by omega)
  obtain ⟨q, hq⟩ := get_lt l _ hx1
  obtain ⟨m, hm⟩ := get_lt l k hk
  have q1 := mark_in hv hq
  have m1 := mark_in hv hm
  have hcs := dm_cases (n := t) hq hm
  have hNX : ((k : Int) + 1) % (n : Int) = (dmNext l k : Nat) := by rw [next_mod, ← hlx]; rfl
  have HCB := Hid.in_ (fun w => show Calls Tryz.prog 147 #[.int .i64 t, .int .i64 m.b, .int .i64 q.a] w fun e w' => e = .returned (.int .i64 ((q.a - m.b) % (t : Int))) ∧ w = w' from by
    have := spec_CellsBetween (t : Int) m.b q.a w
    rw [between_eq h1 h2 (by omega) (by omega) (by omega) (by omega)] at this
    exact this)
  have HD := Hid.in_ (And.intro (dm_yes (l := l) (n := t) (k := k)) (dm_no (l := l) (n := t) (k := k)))
  rw [hlx] at hx1 hk
  obtain ⟨g, rfl, _, hg, hx, _⟩ := hA (by omega)
  obtain ⟨c0, c1, c2⟩ := box3' (Box.elem MarkR.len hx hq)
  obtain ⟨d0, d1, d2⟩ := box3' (Box.elem MarkR.len hx hm)
  generalize dmNext l k = nx at *
  generalize (q.a - m.b) % (t : Int) = X at *
  generalize q.k = qk at *
  generalize q.a = qa at *
  generalize m.b = mb at *
  clear c2 d0 d1
  clear hA hx hq hm h hlx hv
  obtain ⟨h5, HV⟩ | ⟨h5, h6, HV⟩ | ⟨h5, h6, HV⟩ := hcs
  all_goals
    go_enter Tryz.func107, Tryz.ntmps107
    go_wp2_with fail
    go_quiet ((go_at_call 147; first | exact quiet_left (HCB.out _) | exact quiet_add_left (HCB.out _)))
    go_wp2
    go_ret
  · exact ⟨ret_int (HD.out.1 HV.out).1.symm, below_drewN (Below.refl _ _) _⟩
  · exact ⟨ret_int (HD.out.1 HV.out).1.symm, below_drewN (Below.refl _ _) _⟩
  · exact ⟨ret_int (hNX.trans (HD.out.2 HV.out).1.symm), below_drewN (Below.refl _ _) _⟩
set_option maxHeartbeats 2000000 in
theorem impl_dataMark {v : Value} {n b : Nat} {l : List MarkR} (s : ByteArray) (k : Nat) (w : World) (h : w.ownsRow b 51 3 v n (l.flatMap MarkR.cells)) (hv : validMarks l s.size = true) (h1 : 1 ≤ s.size) (h2 : s.size ≤ 8000) (hk : k < l.length) (hn2 : n ≤ 1048576) :
    Calls Tryz.prog 73 #[.string s, v, .int .i64 k] w fun e w' => e = .returned (.tuple #[.int .i64 (dmVal l s.size k), .bool (!dmNo l s.size k)]) ∧ Below w.heap.size w w' := by
  have hlx : l.length = n := by have := h.1; rw [flat_len MarkR.len] at this; omega
  obtain ⟨A, c, rfl, _, hn, hA⟩ := own_shape h
  have hx1 : dmNext l k < l.length := Nat.mod_lt _ (by omega)
  obtain ⟨q, hq⟩ := get_lt l _ hx1
  obtain ⟨m, hm⟩ := get_lt l k hk
  have q1 := mark_in hv hq
  have m1 := mark_in hv hm
  have hcs := dm_cases (n := s.size) hq hm
  have hNX : ((k : Int) + 1) % (n : Int) = (dmNext l k : Nat) := by rw [next_mod, ← hlx]; rfl
  have HCB := Hid.in_ (fun w => impl_modulo (q.a - m.b) (s.size : Int) w (by omega) (by omega))
  have HD := Hid.in_ (And.intro (dm_yes (l := l) (n := s.size) (k := k)) (dm_no (l := l) (n := s.size) (k := k)))
  rw [hlx] at hx1 hk
  obtain ⟨g, rfl, _, hg, hx, _⟩ := hA (by omega)
  obtain ⟨c0, c1, c2⟩ := box3' (Box.elem MarkR.len hx hq)
  obtain ⟨d0, d1, d2⟩ := box3' (Box.elem MarkR.len hx hm)
  generalize dmNext l k = nx at *
  generalize (q.a - m.b) % (s.size : Int) = X at *
  generalize q.k = qk at *
  generalize q.a = qa at *
  generalize m.b = mb at *
  clear c2 d0 d1
  clear hA hx hq hm h hlx hv
  obtain ⟨h5, HV⟩ | ⟨h5, h6, HV⟩ | ⟨h5, h6, HV⟩ := hcs
  all_goals
    go_enter Tryz.func73, Tryz.ntmps73
    go_wp2_with (go_at_call 111; refine (impl_sizeMark _ _ _ _ hn).mono ?_; rintro e w' ⟨rfl, rfl⟩)
    go_quiet ((go_at_call 112; first | exact quiet_left (HCB.out _) | exact quiet_add_left (HCB.out _)))
    go_wp2
    go_ret2
  · exact ⟨ret2_ib (HD.out.1 HV.out).2.symm (by rw [HV.out]; rfl), below_drewN (Below.refl _ _) _⟩
  · exact ⟨ret2_ib (HD.out.1 HV.out).2.symm (by rw [HV.out]; rfl), below_drewN (Below.refl _ _) _⟩
  · exact ⟨ret2_ib (hNX.trans (HD.out.2 HV.out).2.symm) (by rw [HV.out]; rfl), below_drewN (Below.refl _ _) _⟩
def dmOk (s : ByteArray) (f : Int) (l : List MarkR) (k : Int) : Bool := decide (askCode s f l k = 0) && !dmNo l s.size k.toNat
def dmRes (s : ByteArray) (f : Int) (l : List MarkR) (k : Int) : Int := if askCode s f l k = 0 then dmVal l s.size k.toNat else 0
theorem dmo_cases (s : ByteArray) (f : Int) (l : List MarkR) (k : Int) :
    (askCode s f l k ≠ 0 ∧ Hid (dmOk s f l k = false ∧ dmRes s f l k = 0)) ∨ (askCode s f l k = 0 ∧ validCells s = true ∧ validMarks l s.size = true ∧ ∃ j : Nat, k = j ∧ j < l.length ∧ Hid (dmOk s f l k = !dmNo l s.size j ∧ dmRes s f l k = dmVal l s.size j)) := by
  unfold Hid
  by_cases h : askCode s f l k = 0
  · obtain ⟨h1, HV⟩ | ⟨h1, h2, HV⟩ | ⟨h1, h2, h3, HV⟩ | ⟨h1, h2, h3, h4, HV⟩ | ⟨h1, h2, h3, h4, j, m, rfl, hj, hm, hq⟩ := ask_cases s f l k
    case inr.inr.inr.inr => exact .inr ⟨h, h1, h3, j, rfl, hj, by unfold dmOk; rw [decide_eq_true h, Bool.true_and]; rfl, if_pos h⟩
    all_goals
      have := HV.out
      omega
  · exact .inl ⟨h, by unfold dmOk; rw [decide_eq_false h, Bool.false_and], if_neg h⟩
end Go.Proofs.YtlelgpknkgjaeaaGreatDoor
