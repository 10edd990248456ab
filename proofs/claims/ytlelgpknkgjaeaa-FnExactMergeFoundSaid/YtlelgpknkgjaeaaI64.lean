/- Rows of int64: 'eqInt64S', 'markInt64S', 'heldInt64S' of the laws over rows of the calls' own. -/
import Derived.Test.YtlelgpknkgjaeaaMem
namespace Go.Proofs.Ytlelgpknkgjaeaa
open Go.ChangeShapes Go.WideShapes Go.ChangeAt Go.RowKit
set_option linter.unusedSimpArgs false
set_option linter.unusedVariables false

def I64 (xs : List Int) : List Value := xs.map (Value.int .i64)
theorem I64_len (xs : List Int) : (I64 xs).length = xs.length := by simp [I64]
theorem I64_get {xs : List Int} {i : Nat} {x : Int} (h : xs[i]? = some x) : (I64 xs)[i]? = some (.int .i64 x) := by simp [I64, h]

/-- the marks k, k + 1, .. -/
def marks (k : Int) (n : Nat) : List Int := (List.range n).map fun (i : Nat) => k + (i : Int)
theorem marks_len (k : Int) (n : Nat) : (marks k n).length = n := by simp [marks]
theorem marks_get (k : Int) (n i : Nat) (h : i < n) : (marks k n)[i]? = some (k + i) := by simp [marks, h]

theorem laws_eqInt64S {v1 v2 : Value} {n b1 b2 : Nat} {xs : List Int} (w : World) (h1 : w.ownsRow b1 2 1 v1 n (I64 xs)) (h2 : w.ownsRow b2 2 1 v2 n (I64 xs)) :
    Calls Try.prog 12 #[v1, v2] w fun e w' => e = .returned (.bool true) ∧ Below w.heap.size w w' := by
  obtain ⟨A1, c1, rfl, hl1, hn, hA1⟩ := own_shape h1
  obtain ⟨A2, c2, rfl, hl2, _, hA2⟩ := own_shape h2
  have HL : Hid (xs.length = n) := by rw [I64_len] at hl1; unfold Hid; omega
  have H1 := Hid.in_ hA1
  have H2 := Hid.in_ hA2
  clear hA1 hA2 hl1 hl2 h1 h2
  go_enter Try.func12, Try.ntmps12
  go_wp2
  go_loopw [5] (fun i wr => ∃ k : Nat, k ≤ n ∧ i = .int .i64 k ∧ ∃ q, wr = w.drewN q) (fun i _ => n - (intOf i).toNat)
  case atStart => exact ⟨0, Nat.zero_le _, rfl, 0, rfl⟩
  case round =>
    obtain ⟨k, hk, rfl, q, rfl⟩ := hrel
    by_cases hlt : k < n
    · obtain ⟨g1, rfl, _, _, hc1, _⟩ := H1.out (by omega)
      obtain ⟨g2, rfl, _, _, hc2, _⟩ := H2.out (by omega)
      obtain ⟨x, hx⟩ := get_lt xs k (by rw [HL.out]; exact hlt)
      have f1 := hc1 k _ (I64_get hx)
      have f2 := hc2 k _ (I64_get hx)
      clear hc1 hc2 hx
      go_wp2
      go_quiet (fail)
      go_wp2
      go_roundw
      case rel => exact ⟨k + 1, by omega, by go_num, _, rfl⟩
      case measure => simp [intOf]; omega
    · go_wp2
      go_ret
      exact ⟨rfl, below_drewN (Below.refl _ _) _⟩
theorem laws_heldInt64S {v : Value} {n b : Nat} (m : Int) (w : World) (h : w.ownsRow b 2 1 v n (I64 (marks m n))) (hm : 0 ≤ m) (hm2 : m ≤ 4294967296) (hn2 : n ≤ 4294967296) :
    Calls Try.prog 16 #[v, .int .i64 m] w fun e w' => e = .returned (.int .i64 (m + n)) ∧ w = w' := by
  obtain ⟨A, c, rfl, hl, hn, hA⟩ := own_shape h
  have H1 := Hid.in_ hA
  clear hA hl h
  go_enter Try.func16, Try.ntmps16
  go_wp2
  go_loop [1, 5] (fun m' i => ∃ k : Nat, k ≤ n ∧ i = .int .i64 k ∧ m' = .int .i64 (m + k)) (fun _ i => n - (intOf i).toNat)
  case atStart => exact ⟨0, Nat.zero_le _, rfl, by simp⟩
  case round =>
    obtain ⟨k, hk, rfl, rfl⟩ := hrel
    by_cases hlt : k < n
    · obtain ⟨g, rfl, _, _, hc, _⟩ := H1.out (by omega)
      have f1 := hc k _ (I64_get (marks_get m n k hlt))
      clear hc
      go_wp2
      go_round
      case rel => exact ⟨k + 1, by omega, by go_num, by go_num⟩
      case measure => simp [intOf]; omega
    · obtain rfl : k = n := by omega
      go_wp2
      go_ret
      exact ⟨rfl, rfl⟩
theorem marked_step (m : Int) (n k : Nat) (xs : List Int) (hl : xs.length = n) (hk : k < n) : (I64 (marks m k ++ xs.drop k)).set k (.int .i64 (m + k)) = I64 (marks m (k + 1) ++ xs.drop (k + 1)) := by
  have h1 : marks m (k + 1) = marks m k ++ [m + (k : Int)] := by simp [marks, List.range_succ]
  have h3 : xs.drop k = xs[k] :: xs.drop (k + 1) := List.drop_eq_getElem_cons (by omega)
  have h2 : (I64 (marks m k)).length = k := by rw [I64_len, marks_len]
  rw [h1, h3]
  have e : I64 (marks m k ++ xs[k] :: xs.drop (k + 1)) = I64 (marks m k) ++ Value.int .i64 xs[k] :: I64 (xs.drop (k + 1)) := by simp only [I64, List.map_append, List.map_cons]
  rw [e, List.set_append_right _ _ (by omega), h2, Nat.sub_self, List.set_cons_zero]
  simp only [I64, List.map_append, List.map_cons, List.map_nil, List.append_assoc, List.cons_append, List.nil_append]
theorem laws_markInt64S {v : Value} {n b : Nat} {xs : List Int} (m : Int) (w : World) (h : w.ownsRow b 2 1 v n (I64 xs)) (hm : 0 ≤ m) (hm2 : m ≤ 4294967296) (hn2 : n ≤ 4294967296) :
    Calls Try.prog 15 #[v, .int .i64 m] w fun e w' => e = .returned (.int .i64 (m + n)) ∧ w'.ownsRow b 2 1 v n (I64 (marks m n)) ∧ w.grownBy w' v.ownBlock := by
  have hlx : xs.length = n := by have := h.1; rw [I64_len] at this; omega
  obtain ⟨A, c, rfl, hl, hn, hA⟩ := own_shape h
  have HX := Hid.in_ hlx
  have H0 := Hid.in_ h
  clear hA hl h hlx
  go_enter Try.func15, Try.ntmps15
  go_wp2
  go_loopw [1, 5] (fun m' i wr => ∃ k : Nat, k ≤ n ∧ i = .int .i64 k ∧ m' = .int .i64 (m + k) ∧ Hid (wr.ownsRow b 2 1 (.slice A n c) n (I64 (marks m k ++ xs.drop k)) ∧ w.grownBy wr (Value.slice A n c).ownBlock)) (fun _ i _ => n - (intOf i).toNat)
  case atStart => exact ⟨0, Nat.zero_le _, rfl, by simp, by simpa [marks] using H0.out, World.grownBy.refl _ _⟩
  case round =>
    obtain ⟨k, hk, rfl, rfl, HO⟩ := hrel
    by_cases hlt : k < n
    · obtain ⟨A', c', hv, hl', _, hA'⟩ := own_shape HO.out.1
      obtain ⟨g, hg, _, _, hc, hf⟩ := hA' (by omega)
      obtain ⟨rfl, rfl⟩ : A = A' ∧ c = c' := by injection hv with h1 h2 h3; exact ⟨h1, h3⟩
      subst hg
      obtain ⟨u, hu⟩ := get_lt (I64 (marks m k ++ xs.drop k)) k (by rw [I64_len, List.length_append, marks_len, List.length_drop, HX.out]; omega)
      have f1 := hc k _ hu
      have f2 := hf k
      have HO2 : Hid ((wr.setCell ⟨g, k, none⟩ (.int .i64 (m + k))).ownsRow b 2 1 (.slice (some ⟨g, 0, none⟩) n c) n (I64 (marks m (k + 1) ++ xs.drop (k + 1))) ∧ w.grownBy (wr.setCell ⟨g, k, none⟩ (.int .i64 (m + k))) (some g)) := by
        have h1 := (HO.out.1.stored k (.int .i64 (m + k)))
        rw [marked_step m n k xs HX.out hlt] at h1
        refine ⟨h1.1, World.grownBy.trans ?_ h1.2⟩
        exact HO.out.2
      clear hc hf hu hv hl' HO
      go_wp2
      go_roundw
      case rel => exact ⟨k + 1, by omega, by go_num, by go_num, HO2⟩
      case measure => simp [intOf]; omega
    · obtain rfl : k = n := by omega
      have HE : Hid (wr.ownsRow b 2 1 (.slice A k c) k (I64 (marks m k)) ∧ w.grownBy wr (Value.slice A k c).ownBlock) := by
        have := HO.out
        rw [List.drop_of_length_le (by rw [HX.out]; exact Nat.le_refl _), List.append_nil] at this
        exact this
      clear HO
      go_wp2
      go_ret
      exact ⟨rfl, HE.out⟩
end Go.Proofs.Ytlelgpknkgjaeaa
