/- Two slices of records held one against the other; the sizes of slices of records. -/
import Derived.Test.YtlelgpknkgjaeaaRow
import Derived.Test.YtlelgpknkgjaeaaRec1
import Derived.StillTailTactics
import Derived.Laws.StructEq
import Derived.ChangeKeysEq
namespace Go.Proofs.Ytlelgpknkgjaeaa
open Go.ChangeShapes Go.WideShapes Go.ChangeAt Go.RowKit
set_option linter.unusedVariables false
set_option linter.unusedSimpArgs false
set_option maxRecDepth 4000

def sameAt {α : Type} (f : α → α → Bool) (l1 l2 : List α) (j : Nat) : Bool := match l1[j]?, l2[j]? with
  | some a, some b => f a b
  | _, _ => false
def listSame {α : Type} (f : α → α → Bool) (l1 l2 : List α) : Bool := decide (l1.length = l2.length) && (List.range l1.length).all (sameAt f l1 l2)
theorem listSame_len {α : Type} {f : α → α → Bool} {l1 l2 : List α} (h : ¬ l1.length = l2.length) : listSame f l1 l2 = false := by simp [listSame, h]
theorem listSame_no {α : Type} {f : α → α → Bool} {l1 l2 : List α} {k : Nat} (hk : k < l1.length) (h : sameAt f l1 l2 k = false) : listSame f l1 l2 = false := by
  unfold listSame
  rw [Bool.and_eq_false_iff]
  refine .inr ?_
  rw [← Bool.not_eq_true]
  intro ha
  rw [List.all_eq_true.1 ha k (List.mem_range.2 hk)] at h
  cases h
theorem listSame_all {α : Type} {f : α → α → Bool} {l1 l2 : List α} (hl : l1.length = l2.length) (h : ∀ j, j < l1.length → sameAt f l1 l2 j = true) : listSame f l1 l2 = true := by
  unfold listSame
  rw [Bool.and_eq_true]
  exact ⟨decide_eq_true hl, List.all_eq_true.2 fun j hj => h j (List.mem_range.1 hj)⟩
theorem sameAt_of {α : Type} {f : α → α → Bool} {l1 l2 : List α} {k : Nat} {a b : α} (h1 : l1[k]? = some a) (h2 : l2[k]? = some b) : sameAt f l1 l2 k = f a b := by simp [sameAt, h1, h2]
theorem all_next {p : Nat → Prop} {k : Nat} (h : ∀ j, j < k → p j) (hk : p k) : ∀ j, j < k + 1 → p j := fun j hj => by
  rcases Nat.lt_or_ge j k with h1 | h1
  · exact h j h1
  · obtain rfl : j = k := by omega
    exact hk
theorem eqF_step {P : Program} {w : World} {d : Nat} {xs ys : Array Value} {f : Field} {fs : List Field} {a b : Value} {r R : Bool} (hn : (f.name != "_") = true) (hk : P.plainKey f.type = true) (ha : xs[f.offset]? = some a) (hb : ys[f.offset]? = some b)
    (he : (Op.equalIn d f.type a b).run P w = .ok r w) (hr : (Op.eqFields d xs ys fs).run P w = .ok R w) : (Op.eqFields d xs ys (f :: fs)).run P w = .ok (r && R) w := by
  have hn' : f.name ≠ "_" := by simpa using hn
  simp only [Op.eqFields, hn', ne_eq, not_false_eq_true, if_true, Sem.run_bind, run_part_plain _ hk ha, run_part_plain _ hk hb, Result.andThen_ok, he]
  cases r
  · simp [Sem.run_pure]
  · simpa using hr

def SecR.same (a b : SecR) : Bool := (a.c == b.c) && ((a.h == b.h) && ((a.n == b.n) && ((a.s == b.s) && ((a.d.toList == b.d.toList) && ((a.x == b.x) && ((a.y == b.y) && ((a.z == b.z) && true)))))))
theorem bt_SecR (a b : ByteArray) (h : a.toList = b.toList) : a = b := by rw [ByteArray.toList_eq, ByteArray.toList_eq] at h; exact ByteArray.ext (Array.toList_inj.1 h)
theorem SecR.same_refl (a : SecR) : a.same a = true := by simp [SecR.same]
theorem Try.guard_SecR (a b : SecR) (op : BinOp) (x y : Operand) (w : World) : (eqGuard op 85 x y (.agg #[.int .i64 a.c, .int .i64 a.h, .int .i64 a.n, .int .i64 a.s, .string a.d, .bool a.x, .bool a.y, .bool a.z]) (.agg #[.int .i64 b.c, .int .i64 b.h, .int .i64 b.n, .int .i64 b.s, .string b.d, .bool b.x, .bool b.y, .bool b.z])).run Try.prog w = .ok () w := run_eqGuard_agg w op 85 x y _ _ (by kernel_rfl)
theorem Try.neq_SecR (a b : SecR) (w : World) : (binOp .neq 85 (.agg #[.int .i64 a.c, .int .i64 a.h, .int .i64 a.n, .int .i64 a.s, .string a.d, .bool a.x, .bool a.y, .bool a.z]) (.agg #[.int .i64 b.c, .int .i64 b.h, .int .i64 b.n, .int .i64 b.s, .string b.d, .bool b.x, .bool b.y, .bool b.z])).run Try.prog w = .ok (.bool (!SecR.same a b)) w := by
  have hE : (Op.equalIn 10000 85 (.agg #[.int .i64 a.c, .int .i64 a.h, .int .i64 a.n, .int .i64 a.s, .string a.d, .bool a.x, .bool a.y, .bool a.z]) (.agg #[.int .i64 b.c, .int .i64 b.h, .int .i64 b.n, .int .i64 b.s, .string b.d, .bool b.x, .bool b.y, .bool b.z])).run Try.prog w = .ok (SecR.same a b) w := by
    refine (run_equalIn_agg w 9999 85 _ _ (by kernel_rfl) (by kernel_rfl)).trans ?_
    simp only [Program.fieldsOf, Try.underlying85]
    refine eqF_step (by kernel_rfl) (by kernel_rfl) rfl rfl (run_equalIn_int w 9998 2 .i64 .i64 _ _ Try.underlying2) ?_
    refine eqF_step (by kernel_rfl) (by kernel_rfl) rfl rfl (run_equalIn_int w 9998 2 .i64 .i64 _ _ Try.underlying2) ?_
    refine eqF_step (by kernel_rfl) (by kernel_rfl) rfl rfl (run_equalIn_int w 9998 2 .i64 .i64 _ _ Try.underlying2) ?_
    refine eqF_step (by kernel_rfl) (by kernel_rfl) rfl rfl (run_equalIn_int w 9998 2 .i64 .i64 _ _ Try.underlying2) ?_
    refine eqF_step (by kernel_rfl) (by kernel_rfl) rfl rfl (run_equalIn_string w 9998 9 _ _ Try.underlying9) ?_
    refine eqF_step (by kernel_rfl) (by kernel_rfl) rfl rfl (run_equalIn_bool w 9998 4 _ _ Try.underlying4) ?_
    refine eqF_step (by kernel_rfl) (by kernel_rfl) rfl rfl (run_equalIn_bool w 9998 4 _ _ Try.underlying4) ?_
    refine eqF_step (by kernel_rfl) (by kernel_rfl) rfl rfl (run_equalIn_bool w 9998 4 _ _ Try.underlying4) ?_
    rfl
  rw [run_neq_struct, hE]
  rfl
set_option maxHeartbeats 1000000 in
theorem laws_szSectorSpecS {A : Option Addr} {cap n : Nat} {l : List SecR} (left : Int) (w : World) (hA : ArgS w A n cap 8 (l.flatMap SecR.cells)) (hl : l.length = n) (hk : ∀ r ∈ l, r.ok) (h0 : 0 ≤ left) (h1 : left ≤ 1048576) :
    Calls Try.prog 56 #[.slice A n cap, .int .i64 left] w fun e w' => (e = .returned (.int .i64 (-1)) ∨ ∃ r : Int, e = .returned (.int .i64 r) ∧ 0 ≤ r ∧ r ≤ left - n ∧ ∀ x ∈ l, (x.d.size : Int) ≤ left) ∧ Below w.heap.size w w' := by
  have hm : n ≤ 9223372036854775807 := Nat.le_trans hA.2.1 hA.2.2.1
  have HN := Hid.in_ hl
  have HA := Hid.in_ hA
  have HO := Hid.in_ hk
  clear hA hl hk
  by_cases hlt : left < n
  · go_enter Try.func56, Try.ntmps56
    go_wp2
    go_ret
    exact ⟨.inl rfl, Below.refl _ _⟩
  · go_enter Try.func56, Try.ntmps56
    go_wp2
    go_loopg [1, 5] n (fun m t i wr => ∃ (k : Nat) (t' : Int), k + m = n ∧ i = .int .i64 k ∧ t = .int .i64 t' ∧ 0 ≤ t' ∧ t' ≤ left - n ∧ Hid (∀ j x, j < k → l[j]? = some x → (x.d.size : Int) ≤ left) ∧ Hid (Below w.heap.size w wr))
    case atStart => exact ⟨0, left - n, by omega, rfl, rfl, by omega, by omega, fun j x hj => by omega, Below.refl _ _⟩
    case round =>
      obtain ⟨k, t', hkm, rfl, rfl, ht0, ht1, HD, HB⟩ := hrel
      have HK := Hid.in_ hkm
      clear hkm
      by_cases hlk : k < n
      · obtain ⟨b, o, rfl, hb, hc⟩ := HA.out.2.2.2 (by omega) (by omega)
        obtain ⟨m, hm'⟩ := get_lt l k (by rw [HN.out]; exact hlk)
        obtain ⟨c0, c1, c2, c3, c4, c5, c6, c7⟩ := boxAt8 ((BoxAt.elem SecR.len hc hm').step HB.out)
        have hd := (HO.out m (List.mem_of_getElem? hm')).2.2.2.2
        have HM := Hid.in_ hm'
        have HC := Hid.in_ hc
        clear hc hm'
        go_wp2_with fail
        refine (laws_szSectorSpec _ _ _ _ _ _ _ _ _ _ hd ht0 (by omega)).mono ?_
        rintro e w2 ⟨rfl, hb2⟩
        have HB2 := Hid.in_ (HB.out.trans (hb2.mono HB.out.size))
        clear c0 c1 c2 c3 c4 c5 c6 c7 hb2
        by_cases hneg : t' < m.d.size
        · rw [szLeft_neg hneg]
          go_wp2
          go_ret
          exact ⟨.inl rfl, HB2.out⟩
        · rw [szLeft_pos (left := t') (n := m.d.size) (by omega)]
          have HD2 := Hid.in_ (show ∀ j x, j < k + 1 → l[j]? = some x → (x.d.size : Int) ≤ left from fun j x hj hx => by
            rcases Nat.lt_or_ge j k with h | h
            · exact HD.out j x h hx
            · obtain rfl : j = k := by omega
              rw [HM.out] at hx
              injection hx with hx
              subst hx
              omega)
          go_wp2
          have hk := HK.out
          go_roundg (gk - 1)
          case measure => omega
          case rel => exact ⟨k + 1, t' - m.d.size, by omega, by go_num, rfl, by omega, by omega, HD2, HB2⟩
      · have hk := HK.out
        obtain rfl : k = n := by omega
        have HF := Hid.in_ (show ∀ x ∈ l, (x.d.size : Int) ≤ left from fun x hx => by
          obtain ⟨j, hj, hx'⟩ := List.getElem_of_mem hx
          exact HD.out j x (by rw [HN.out] at hj; exact hj) (by rw [List.getElem?_eq_getElem hj, hx']))
        go_wp2
        go_ret
        exact ⟨.inr ⟨t', rfl, ht0, ht1, HF.out⟩, HB.out⟩

def FndR.same (a b : FndR) : Bool := (a.c == b.c) && ((a.h == b.h) && ((a.n == b.n) && ((a.s == b.s) && ((a.d.toList == b.d.toList) && ((a.t == b.t) && ((a.l == b.l) && ((a.p == b.p) && true)))))))
theorem bt_FndR (a b : ByteArray) (h : a.toList = b.toList) : a = b := by rw [ByteArray.toList_eq, ByteArray.toList_eq] at h; exact ByteArray.ext (Array.toList_inj.1 h)
theorem FndR.same_refl (a : FndR) : a.same a = true := by simp [FndR.same]
theorem Try.guard_FndR (a b : FndR) (op : BinOp) (x y : Operand) (w : World) : (eqGuard op 128 x y (.agg #[.int .i64 a.c, .int .i64 a.h, .int .i64 a.n, .int .i64 a.s, .string a.d, .int .i64 a.t, .bool a.l, .int .i64 a.p]) (.agg #[.int .i64 b.c, .int .i64 b.h, .int .i64 b.n, .int .i64 b.s, .string b.d, .int .i64 b.t, .bool b.l, .int .i64 b.p])).run Try.prog w = .ok () w := run_eqGuard_agg w op 128 x y _ _ (by kernel_rfl)
theorem Try.neq_FndR (a b : FndR) (w : World) : (binOp .neq 128 (.agg #[.int .i64 a.c, .int .i64 a.h, .int .i64 a.n, .int .i64 a.s, .string a.d, .int .i64 a.t, .bool a.l, .int .i64 a.p]) (.agg #[.int .i64 b.c, .int .i64 b.h, .int .i64 b.n, .int .i64 b.s, .string b.d, .int .i64 b.t, .bool b.l, .int .i64 b.p])).run Try.prog w = .ok (.bool (!FndR.same a b)) w := by
  have hE : (Op.equalIn 10000 128 (.agg #[.int .i64 a.c, .int .i64 a.h, .int .i64 a.n, .int .i64 a.s, .string a.d, .int .i64 a.t, .bool a.l, .int .i64 a.p]) (.agg #[.int .i64 b.c, .int .i64 b.h, .int .i64 b.n, .int .i64 b.s, .string b.d, .int .i64 b.t, .bool b.l, .int .i64 b.p])).run Try.prog w = .ok (FndR.same a b) w := by
    refine (run_equalIn_agg w 9999 128 _ _ (by kernel_rfl) (by kernel_rfl)).trans ?_
    simp only [Program.fieldsOf, Try.underlying128]
    refine eqF_step (by kernel_rfl) (by kernel_rfl) rfl rfl (run_equalIn_int w 9998 2 .i64 .i64 _ _ Try.underlying2) ?_
    refine eqF_step (by kernel_rfl) (by kernel_rfl) rfl rfl (run_equalIn_int w 9998 2 .i64 .i64 _ _ Try.underlying2) ?_
    refine eqF_step (by kernel_rfl) (by kernel_rfl) rfl rfl (run_equalIn_int w 9998 2 .i64 .i64 _ _ Try.underlying2) ?_
    refine eqF_step (by kernel_rfl) (by kernel_rfl) rfl rfl (run_equalIn_int w 9998 2 .i64 .i64 _ _ Try.underlying2) ?_
    refine eqF_step (by kernel_rfl) (by kernel_rfl) rfl rfl (run_equalIn_string w 9998 9 _ _ Try.underlying9) ?_
    refine eqF_step (by kernel_rfl) (by kernel_rfl) rfl rfl (run_equalIn_int w 9998 2 .i64 .i64 _ _ Try.underlying2) ?_
    refine eqF_step (by kernel_rfl) (by kernel_rfl) rfl rfl (run_equalIn_bool w 9998 4 _ _ Try.underlying4) ?_
    refine eqF_step (by kernel_rfl) (by kernel_rfl) rfl rfl (run_equalIn_int w 9998 2 .i64 .i64 _ _ Try.underlying2) ?_
    rfl
  rw [run_neq_struct, hE]
  rfl
set_option maxHeartbeats 1000000 in
theorem laws_szFoundS {A : Option Addr} {cap n : Nat} {l : List FndR} (left : Int) (w : World) (hA : ArgS w A n cap 8 (l.flatMap FndR.cells)) (hl : l.length = n) (hk : ∀ r ∈ l, r.ok) (h0 : 0 ≤ left) (h1 : left ≤ 1048576) :
    Calls Try.prog 71 #[.slice A n cap, .int .i64 left] w fun e w' => (e = .returned (.int .i64 (-1)) ∨ ∃ r : Int, e = .returned (.int .i64 r) ∧ 0 ≤ r ∧ r ≤ left - n ∧ ∀ x ∈ l, (x.d.size : Int) ≤ left) ∧ Below w.heap.size w w' := by
  have hm : n ≤ 9223372036854775807 := Nat.le_trans hA.2.1 hA.2.2.1
  have HN := Hid.in_ hl
  have HA := Hid.in_ hA
  have HO := Hid.in_ hk
  clear hA hl hk
  by_cases hlt : left < n
  · go_enter Try.func71, Try.ntmps71
    go_wp2
    go_ret
    exact ⟨.inl rfl, Below.refl _ _⟩
  · go_enter Try.func71, Try.ntmps71
    go_wp2
    go_loopg [1, 5] n (fun m t i wr => ∃ (k : Nat) (t' : Int), k + m = n ∧ i = .int .i64 k ∧ t = .int .i64 t' ∧ 0 ≤ t' ∧ t' ≤ left - n ∧ Hid (∀ j x, j < k → l[j]? = some x → (x.d.size : Int) ≤ left) ∧ Hid (Below w.heap.size w wr))
    case atStart => exact ⟨0, left - n, by omega, rfl, rfl, by omega, by omega, fun j x hj => by omega, Below.refl _ _⟩
    case round =>
      obtain ⟨k, t', hkm, rfl, rfl, ht0, ht1, HD, HB⟩ := hrel
      have HK := Hid.in_ hkm
      clear hkm
      by_cases hlk : k < n
      · obtain ⟨b, o, rfl, hb, hc⟩ := HA.out.2.2.2 (by omega) (by omega)
        obtain ⟨m, hm'⟩ := get_lt l k (by rw [HN.out]; exact hlk)
        obtain ⟨c0, c1, c2, c3, c4, c5, c6, c7⟩ := boxAt8 ((BoxAt.elem FndR.len hc hm').step HB.out)
        have hd := (HO.out m (List.mem_of_getElem? hm')).2.2.2.2.1
        have HM := Hid.in_ hm'
        have HC := Hid.in_ hc
        clear hc hm'
        go_wp2_with fail
        refine (laws_szFound _ _ _ _ _ _ _ _ _ _ hd ht0 (by omega)).mono ?_
        rintro e w2 ⟨rfl, hb2⟩
        have HB2 := Hid.in_ (HB.out.trans (hb2.mono HB.out.size))
        clear c0 c1 c2 c3 c4 c5 c6 c7 hb2
        by_cases hneg : t' < m.d.size
        · rw [szLeft_neg hneg]
          go_wp2
          go_ret
          exact ⟨.inl rfl, HB2.out⟩
        · rw [szLeft_pos (left := t') (n := m.d.size) (by omega)]
          have HD2 := Hid.in_ (show ∀ j x, j < k + 1 → l[j]? = some x → (x.d.size : Int) ≤ left from fun j x hj hx => by
            rcases Nat.lt_or_ge j k with h | h
            · exact HD.out j x h hx
            · obtain rfl : j = k := by omega
              rw [HM.out] at hx
              injection hx with hx
              subst hx
              omega)
          go_wp2
          have hk := HK.out
          go_roundg (gk - 1)
          case measure => omega
          case rel => exact ⟨k + 1, t' - m.d.size, by omega, by go_num, rfl, by omega, by omega, HD2, HB2⟩
      · have hk := HK.out
        obtain rfl : k = n := by omega
        have HF := Hid.in_ (show ∀ x ∈ l, (x.d.size : Int) ≤ left from fun x hx => by
          obtain ⟨j, hj, hx'⟩ := List.getElem_of_mem hx
          exact HD.out j x (by rw [HN.out] at hj; exact hj) (by rw [List.getElem?_eq_getElem hj, hx']))
        go_wp2
        go_ret
        exact ⟨.inr ⟨t', rfl, ht0, ht1, HF.out⟩, HB.out⟩

end Go.Proofs.Ytlelgpknkgjaeaa
