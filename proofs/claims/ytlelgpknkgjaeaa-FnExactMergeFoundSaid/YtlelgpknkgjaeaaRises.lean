/- Rising numbers: 'rises' of the program, 'l00Rises' of the reference; 'toInt64S' and 'szInt64S' of the laws. -/
import Derived.Test.YtlelgpknkgjaeaaI64
import Derived.Test.YtlelgpknkgjaeaaRow
namespace Go.Proofs.Ytlelgpknkgjaeaa
open Go.ChangeShapes Go.WideShapes Go.ChangeAt Go.RowKit
set_option linter.unusedSimpArgs false
set_option linter.unusedVariables false
set_option maxRecDepth 4000

theorem Try.infoI64r : (Try.prog.info? 2).map (fun i => (i.zero, i.size, i.bytes)) = some (some (.int .i64 0), 1, 8) := by kernel_rfl
theorem I64_set' (l : List Int) (k : Nat) (x : Int) : (I64 l).set k (.int .i64 x) = I64 (l.set k x) := by simp [I64, List.map_set]
def IntC (x : Int) : List Value := [.int .i64 x]
theorem IntC.len (x : Int) : (IntC x).length = 1 := rfl
theorem ints_flat (l : List Int) : l.flatMap IntC = I64 l := by
  induction l with
  | nil => rfl
  | cons x l ih => rw [List.flatMap_cons, ih]; rfl
def riseOk (l : List Int) (lo hi : Int) (i : Nat) : Bool :=
  match l[i]? with
  | some x => inB x lo hi && (i == 0 || decide ((l[i - 1]?).getD 0 < x))
  | none => true
def rises (l : List Int) (lo hi : Int) : Bool := (List.range l.length).all (riseOk l lo hi)
theorem rises_no {l : List Int} {lo hi : Int} {k : Nat} (hk : k < l.length) (h : riseOk l lo hi k = false) : rises l lo hi = false := by
  unfold rises
  rw [List.all_eq_false]
  exact ⟨k, List.mem_range.2 hk, by rw [h]; decide⟩
theorem rises_yes {l : List Int} {lo hi : Int} (h : ∀ k, k < l.length → riseOk l lo hi k = true) : rises l lo hi = true := by
  unfold rises
  rw [List.all_eq_true]
  exact fun k hk => h k (List.mem_range.1 hk)
theorem rises_none {l : List Int} : rises l 0 (-1) = decide (l.length = 0) := by
  cases l with
  | nil => rfl
  | cons x l =>
    rw [rises_no (k := 0) (by simp) (by unfold riseOk; simp only [List.getElem?_cons_zero]; rw [inB_no (by omega)]; rfl)]
    simp
theorem rise_cases {l : List Int} {lo hi : Int} {i : Nat} {x : Int} (hx : l[i]? = some x) :
    (inB x lo hi = false ∧ Hid (riseOk l lo hi i = false)) ∨ (inB x lo hi = true ∧ i = 0 ∧ Hid (riseOk l lo hi i = true)) ∨
    (inB x lo hi = true ∧ ∃ j q, i = j + 1 ∧ l[j]? = some q ∧ ((x ≤ q ∧ Hid (riseOk l lo hi i = false)) ∨ (q < x ∧ Hid (riseOk l lo hi i = true)))) := by
  have hv : riseOk l lo hi i = (inB x lo hi && (i == 0 || decide ((l[i - 1]?).getD 0 < x))) := by unfold riseOk; rw [hx]
  unfold Hid
  rw [hv]
  cases inB x lo hi
  · exact .inl ⟨rfl, rfl⟩
  rcases i with _ | j
  · exact .inr (.inl ⟨rfl, rfl, rfl⟩)
  · have hj : j < l.length := by have := (List.getElem?_eq_some_iff.1 hx).1; omega
    refine .inr (.inr ⟨rfl, j, l[j], rfl, List.getElem?_eq_getElem hj, ?_⟩)
    have hg : (l[j + 1 - 1]?).getD 0 = l[j] := by rw [Nat.add_sub_cancel, List.getElem?_eq_getElem hj]; rfl
    rw [hg]
    by_cases h : l[j] < x
    · exact .inr ⟨h, by rw [decide_eq_true h]; rfl⟩
    · exact .inl ⟨by omega, by rw [decide_eq_false h]; rfl⟩
theorem rise_next {l : List Int} {lo hi : Int} {k : Nat} (H : ∀ j, j < k → riseOk l lo hi j = true) (h : riseOk l lo hi k = true) : ∀ j, j < k + 1 → riseOk l lo hi j = true := fun j hj => by
  rcases Nat.lt_or_ge j k with h1 | h1
  · exact H j h1
  · obtain rfl : j = k := by omega
    exact h
theorem drewN_sum (w : World) (a b : Nat) : (w.drewN a).drewN b = w.drewN (a + b) := by simp [World.drewN, Nat.add_assoc]
set_option maxHeartbeats 2000000 in
theorem impl_rises {v : Value} {n b : Nat} {l : List Int} (lo hi : Int) (w : World) (h : w.ownsRow b 2 1 v n (I64 l)) :
    Calls Try.prog 92 #[v, .int .i64 lo, .int .i64 hi] w fun e w' => e = .returned (.bool (rises l lo hi)) ∧ w = w' := by
  have hlx : l.length = n := by have := h.1; rw [I64_len] at this; omega
  obtain ⟨A, c, rfl, _, hn, hA⟩ := own_shape h
  have HL := Hid.in_ hlx
  have H1 := Hid.in_ hA
  clear hA h hlx
  go_enter Try.func92, Try.ntmps92
  go_wp2
  go_loopg [11] n (fun m i wr => ∃ k : Nat, k + m = n ∧ i = .int .i64 k ∧ Hid (∀ j, j < k → riseOk l lo hi j = true) ∧ w = wr)
  case atStart => exact ⟨0, by omega, rfl, fun j hj => by omega, rfl⟩
  case round =>
    obtain ⟨k, hkm, rfl, HR, rfl⟩ := hrel
    have HK := Hid.in_ hkm
    clear hkm
    by_cases hlt : k < n
    · obtain ⟨g, rfl, _, hg, hx, _⟩ := H1.out (by omega)
      obtain ⟨x, hxk⟩ := get_lt l k (by rw [HL.out]; exact hlt)
      have c0 := hx k _ (I64_get hxk)
      have hcs := rise_cases (lo := lo) (hi := hi) hxk
      clear hxk
      obtain ⟨h1, HO⟩ | ⟨h1, rfl, HO⟩ | ⟨h1, j, q, rfl, hq, ⟨h4, HO⟩ | ⟨h4, HO⟩⟩ := hcs
      case' inr.inr.inl | inr.inr.inr =>
        have d0 := hx j _ (I64_get hq)
        clear hq
      all_goals
        clear hx
        go_wp2_with (go_at_call 44; refine (bool_is (impl_within _ _ _ _) (by assumption)).mono ?_; rintro e w' ⟨rfl, rfl⟩)
      all_goals
        first
        | (go_ret; exact ⟨ret_bool (rises_no (by rw [HL.out]; exact hlt) HO.out).symm, rfl⟩)
        | (have hk := HK.out
           go_roundg (gk - 1)
           case measure => omega
           case rel => exact ⟨_, by omega, by go_num, rise_next HR.out HO.out, rfl⟩)
    · have hk := HK.out
      obtain rfl : k = n := by omega
      go_wp2
      go_ret
      exact ⟨ret_bool (rises_yes fun j hj => HR.out j (by rw [← HL.out]; exact hj)).symm, rfl⟩
set_option maxHeartbeats 2000000 in
theorem spec_l00Rises {v : Value} {n b : Nat} {l : List Int} (lo hi : Int) (w : World) (h : w.ownsRow b 2 1 v n (I64 l)) :
    Calls Try.prog 111 #[v, .int .i64 lo, .int .i64 hi] w fun e w' => e = .returned (.bool (rises l lo hi)) ∧ ∃ m, w' = w.drewN m := by
  have hlx : l.length = n := by have := h.1; rw [I64_len] at this; omega
  obtain ⟨A, c, rfl, _, hn, hA⟩ := own_shape h
  have HL := Hid.in_ hlx
  have H1 := Hid.in_ hA
  clear hA h hlx
  go_enter Try.func111, Try.ntmps111
  go_wp2
  go_loopg [7] n (fun m i wr => ∃ k : Nat, k + m = n ∧ i = .int .i64 k ∧ Hid (∀ j, j < k → riseOk l lo hi j = true) ∧ ∃ qd, wr = w.drewN qd)
  case atStart => exact ⟨0, by omega, rfl, fun j hj => by omega, 0, rfl⟩
  case round =>
    obtain ⟨k, hkm, rfl, HR, qd, rfl⟩ := hrel
    have HK := Hid.in_ hkm
    clear hkm
    by_cases hlt : k < n
    · obtain ⟨g, rfl, _, hg, hx, _⟩ := H1.out (by omega)
      obtain ⟨x, hxk⟩ := get_lt l k (by rw [HL.out]; exact hlt)
      have c0 := hx k _ (I64_get hxk)
      have hcs := rise_cases (lo := lo) (hi := hi) hxk
      clear hxk
      obtain ⟨h1, HO⟩ | ⟨h1, rfl, HO⟩ | ⟨h1, j, q, rfl, hq, ⟨h4, HO⟩ | ⟨h4, HO⟩⟩ := hcs
      case' inr.inr.inl | inr.inr.inr =>
        have d0 := hx j _ (I64_get hq)
        clear hq
      all_goals
        clear hx
        go_wp2_with fail
        go_quiet ((go_at_call 42; first | exact quiet_left (bool_is (spec_l00In _ _ _ _) (by assumption)) | exact quiet_add_left (bool_is (spec_l00In _ _ _ _) (by assumption))))
        go_wp2
      all_goals
        first
        | (go_ret; exact ⟨ret_bool (rises_no (by rw [HL.out]; exact hlt) HO.out).symm, by first | exact ⟨_, rfl⟩ | exact ⟨_, drewN_sum _ _ _⟩⟩)
        | (have hk := HK.out
           go_roundg (gk - 1)
           case measure => omega
           case rel => exact ⟨_, by omega, by go_num, rise_next HR.out HO.out, by first | exact ⟨_, rfl⟩ | exact ⟨_, drewN_sum _ _ _⟩⟩)
    · have hk := HK.out
      obtain rfl : k = n := by omega
      go_wp2
      go_ret
      exact ⟨ret_bool (rises_yes fun j hj => HR.out j (by rw [← HL.out]; exact hj)).symm, _, rfl⟩
set_option maxHeartbeats 1000000 in
theorem laws_toInt64S {A : Option Addr} {cap n : Nat} {l : List Int} (w : World) (hA : ArgS w A n cap 1 (I64 l)) (hl : l.length = n) (hn : n ≤ 1048576) :
    Calls Try.prog 82 #[.slice A n cap] w fun e w' => ∃ v, e = .returned v ∧ w'.ownsRow w.heap.size 2 1 v n (I64 l) ∧ Below w.heap.size w w' := by
  obtain ⟨i0, hi0, hz0, hz1, hz2⟩ := info_parts Try.infoI64r
  have HN := Hid.in_ hl
  have HA := Hid.in_ hA
  clear hA hl
  go_enter Try.func82, Try.ntmps82
  go_wp2_with (at_make; refine wpList_make_full _ rfl _ _ _ rfl w.heap.size 2 i0 _ 1 Try.underlying24 hi0 hz0 hz1 _ _ _ _ n rfl rfl rfl rfl (by rw [hz2]; omega) (by unfold maxLen; omega) (Nat.le_refl _) ?_; intro w1 hown hgrow)
  have HO : Hid (w1.ownsRow w.heap.size 2 1 (.slice (some ⟨w.heap.size, 0, none⟩) n n) n (I64 (fillR l 0 0)) ∧ Below w.heap.size w w1) := by
    refine ⟨?_, (Below.refl _ _).grown hgrow (Nat.le_refl _) (by simp)⟩
    rw [fillR_none, HN.out, ← ints_flat, ← made_flat IntC.len 0 n]
    exact hown
  clear hown hgrow
  go_loopg [4] n (fun m i wr => ∃ k : Nat, k + m = n ∧ i = .int .i64 k ∧ Hid (wr.ownsRow w.heap.size 2 1 (.slice (some ⟨w.heap.size, 0, none⟩) n n) n (I64 (fillR l 0 k)) ∧ Below w.heap.size w wr))
  case atStart => exact ⟨0, by omega, rfl, HO⟩
  case round =>
    clear HO
    obtain ⟨k, hkm, rfl, HO⟩ := hrel
    have HK := Hid.in_ hkm
    clear hkm
    by_cases hlt : k < n
    · obtain ⟨b, o, rfl, hb, hc⟩ := HA.out.2.2.2 (by omega) (by omega)
      obtain ⟨m, hm⟩ := get_lt l k (by rw [HN.out]; exact hlt)
      have c0 := hc.step HO.out.2 k _ (I64_get hm)
      have hlen : k < (fillR l (0 : Int) k).length := by rw [fillR_len _ _ _ (by rw [HN.out]; omega), HN.out]; exact hlt
      obtain ⟨y, hy⟩ := get_lt _ k hlen
      have f1 := HO.out.1.cellAt k (by omega)
      rw [I64_get hy] at f1
      have f2 := HO.out.1.frozenAt k
      have HO2 : Hid ((wr.setCell ⟨w.heap.size, k, none⟩ (.int .i64 m)).ownsRow w.heap.size 2 1 (.slice (some ⟨w.heap.size, 0, none⟩) n n) n (I64 (fillR l 0 (k + 1))) ∧ Below w.heap.size w (wr.setCell ⟨w.heap.size, k, none⟩ (.int .i64 m))) := by
        have h1 := HO.out.1.stored k (.int .i64 m)
        rw [I64_set', fillR_set hm] at h1
        exact ⟨h1.1, HO.out.2.setCell (Nat.le_refl _) _⟩
      clear HO hc hm hy hlen
      go_wp2
      have hk := HK.out
      go_roundg (gk - 1)
      case measure => omega
      case rel => exact ⟨k + 1, by omega, by go_num, HO2⟩
    · have hk := HK.out
      obtain rfl : k = n := by omega
      have hO := HO.out
      rw [← HN.out, fillR_all] at hO
      have HO3 := Hid.in_ hO
      clear hO
      go_wp2
      go_ret
      rw [← HN.out]
      exact ⟨_, rfl, HO3.out.1, HO3.out.2⟩
theorem laws_szInt64S {A : Option Addr} {cap n : Nat} (left : Int) (w : World) (hn : n ≤ 9223372036854775807) (h0 : 0 ≤ left) (h1 : left ≤ 1048576) :
    Calls Try.prog 81 #[.slice A n cap, .int .i64 left] w fun e w' => e = .returned (.int .i64 (szLeft left n)) ∧ w = w' := by
  by_cases hlt : left < n
  · have HV := Hid.in_ (szLeft_neg hlt)
    go_enter Try.func81, Try.ntmps81
    go_wp2
    go_ret
    exact ⟨ret_int HV.out.symm, rfl⟩
  · have HV := Hid.in_ (szLeft_pos (left := left) (n := n) (by omega))
    go_enter Try.func81, Try.ntmps81
    go_wp2
    go_ret
    exact ⟨ret_int HV.out.symm, rfl⟩
end Go.Proofs.Ytlelgpknkgjaeaa
