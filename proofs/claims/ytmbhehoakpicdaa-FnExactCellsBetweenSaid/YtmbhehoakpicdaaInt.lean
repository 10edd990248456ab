/- Small integer functions of the program and of the reference: one contract each. Conditions: none beyond those typed. -/
import Derived.Test.YtmbhehoakpicdaaRows
import Derived.WalkKit
import Derived.ProofKit
import Derived.OpenShut
import Derived.Lib.Hide
namespace Go.Proofs.Ytmbhehoakpicdaa
open Go.ChangeShapes Go.WideShapes Go.ChangeAt Go.RowKit

/-- A number in its bounds; kept closed to the walk. -/
def inB (x lo hi : Int) : Bool := decide (lo ≤ x ∧ x ≤ hi)
theorem inB_t {x lo hi : Int} (h : inB x lo hi = true) : lo ≤ x ∧ x ≤ hi := of_decide_eq_true h
theorem inB_f {x lo hi : Int} (h : inB x lo hi = false) : ¬ (lo ≤ x ∧ x ≤ hi) := of_decide_eq_false h
theorem inB_mk {x lo hi : Int} (h1 : lo ≤ x) (h2 : x ≤ hi) : inB x lo hi = true := decide_eq_true ⟨h1, h2⟩
theorem inB_no {x lo hi : Int} (h : ¬ (lo ≤ x ∧ x ≤ hi)) : inB x lo hi = false := decide_eq_false h
theorem Hid.in_ {p : Prop} (h : p) : Hid p := h
theorem ret_int {k : IntKind} {a b : Int} (h : a = b) : Ending.returned (.int k a) = .returned (.int k b) := by rw [h]
theorem ret_bool {a b : Bool} (h : a = b) : Ending.returned (.bool a) = .returned (.bool b) := by rw [h]

theorem impl_within (x lo hi : Int) (w : World) :
    Calls Try.prog 42 #[.int .i64 x, .int .i64 lo, .int .i64 hi] w fun e w' => e = .returned (.bool (inB x lo hi)) ∧ w = w' := by
  by_cases h1 : lo ≤ x
  · by_cases h2 : x ≤ hi
    · go_enter Try.func42, Try.ntmps42
      go_wp2
      go_ret
      exact ⟨ret_bool (inB_mk h1 h2).symm, rfl⟩
    · go_enter Try.func42, Try.ntmps42
      go_wp2
      go_ret
      exact ⟨ret_bool (inB_no (by omega)).symm, rfl⟩
  · go_enter Try.func42, Try.ntmps42
    go_wp2
    go_ret
    exact ⟨ret_bool (inB_no (by omega)).symm, rfl⟩

theorem spec_l00In (x lo hi : Int) (w : World) :
    Calls Try.prog 41 #[.int .i64 x, .int .i64 lo, .int .i64 hi] w fun e w' => e = .returned (.bool (inB x lo hi)) ∧ w = w' := by
  by_cases h1 : lo ≤ x
  · by_cases h2 : x ≤ hi
    · go_enter Try.func41, Try.ntmps41
      go_wp2
      go_ret
      exact ⟨ret_bool (inB_mk h1 h2).symm, rfl⟩
    · go_enter Try.func41, Try.ntmps41
      go_wp2
      go_ret
      exact ⟨ret_bool (inB_no (by omega)).symm, rfl⟩
  · go_enter Try.func41, Try.ntmps41
    go_wp2
    go_ret
    exact ⟨ret_bool (inB_no (by omega)).symm, rfl⟩

theorem impl_modulo (x n : Int) (w : World) (hn : 1 ≤ n) (hn2 : n ≤ 1000000) :
    Calls Try.prog 43 #[.int .i64 x, .int .i64 n] w fun e w' => e = .returned (.int .i64 (x % n)) ∧ w = w' := by
  have hb1 : -n < x.tmod n := by have := Int.lt_tmod_of_pos x (show 0 < n by omega); omega
  have hb2 : x.tmod n < n := Int.tmod_lt_of_pos x (by omega)
  have hE : Hid ((x.tmod n + n) % n = x % n) := by
    have h1 := Int.emod_emod_of_dvd (x.tmod n + n) (Int.dvd_refl n)
    have h2 : x = n * x.tdiv n + x.tmod n := (Int.mul_tdiv_add_tmod x n).symm
    show (x.tmod n + n) % n = x % n
    conv => rhs; rw [h2]
    rw [Int.add_emod_right, Int.mul_add_emod_self_left]
  go_enter Try.func43, Try.ntmps43
  go_wp2

  go_ret
  exact ⟨ret_int hE.out, rfl⟩

theorem impl_isFormat (x : Int) (w : World) :
    Calls Try.prog 46 #[.int .i64 x] w fun e w' => e = .returned (.bool (inB x 1 3)) ∧ w = w' := by
  go_enter Try.func46, Try.ntmps46
  go_wp2_with (go_at_call 42; refine (impl_within _ _ _ _).mono ?_; rintro e w' ⟨rfl, rfl⟩)
  go_ret
  exact ⟨rfl, rfl⟩
theorem spec_l07Format (x : Int) (w : World) :
    Calls Try.prog 44 #[.int .i64 x] w fun e w' => e = .returned (.bool (inB x 1 3)) ∧ w = w' := by
  go_enter Try.func44, Try.ntmps44
  go_wp2_with (go_at_call 41; refine (spec_l00In _ _ _ _).mono ?_; rintro e w' ⟨rfl, rfl⟩)
  go_ret
  exact ⟨rfl, rfl⟩
theorem impl_isMarkKind (x : Int) (w : World) :
    Calls Try.prog 47 #[.int .i64 x] w fun e w' => e = .returned (.bool (inB x 1 3)) ∧ w = w' := by
  go_enter Try.func47, Try.ntmps47
  go_wp2_with (go_at_call 42; refine (impl_within _ _ _ _).mono ?_; rintro e w' ⟨rfl, rfl⟩)
  go_ret
  exact ⟨rfl, rfl⟩
theorem impl_isByte (x : Int) (w : World) :
    Calls Try.prog 49 #[.int .i64 x] w fun e w' => e = .returned (.bool (inB x 0 255)) ∧ w = w' := by
  go_enter Try.func49, Try.ntmps49
  go_wp2_with (go_at_call 42; refine (impl_within _ _ _ _).mono ?_; rintro e w' ⟨rfl, rfl⟩)
  go_ret
  exact ⟨rfl, rfl⟩

def cellsBetween (t f o : Int) : Int := if inB t 1 8000 = true ∧ inB f 0 (t - 1) = true ∧ inB o 0 (t - 1) = true then (o - f + t) % t else 0

theorem impl_CellsBetween (t f o : Int) (w : World) :
    Calls Try.prog 13 #[.int .i64 t, .int .i64 f, .int .i64 o] w fun e w' => e = .returned (.int .i64 (cellsBetween t f o)) ∧ w = w' := by
  cases h1 : inB t 1 8000
  · go_enter Try.func13, Try.ntmps13
    go_wp2_with (go_at_call 42; refine (impl_within _ _ _ _).mono ?_; rintro e w' ⟨rfl, rfl⟩)
    go_ret
    exact ⟨ret_int (by simp [cellsBetween, h1]), rfl⟩
  · have b1 := inB_t h1
    obtain ⟨b1, b2⟩ := b1
    cases h2 : inB f 0 (t - 1)
    · go_enter Try.func13, Try.ntmps13
      go_wp2_with (go_at_call 42; refine (impl_within _ _ _ _).mono ?_; rintro e w' ⟨rfl, rfl⟩)
      go_ret
      exact ⟨ret_int (by simp [cellsBetween, h2]), rfl⟩
    · obtain ⟨b3, b4⟩ := inB_t h2
      cases h3 : inB o 0 (t - 1)
      · go_enter Try.func13, Try.ntmps13
        go_wp2_with (go_at_call 42; refine (impl_within _ _ _ _).mono ?_; rintro e w' ⟨rfl, rfl⟩)
        go_ret
        exact ⟨ret_int (by simp [cellsBetween, h3]), rfl⟩
      · obtain ⟨b5, b6⟩ := inB_t h3
        go_enter Try.func13, Try.ntmps13
        go_wp2_with (first | (go_at_call 42; refine (impl_within _ _ _ _).mono ?_; rintro e w' ⟨rfl, rfl⟩) | (go_at_call 43; refine (impl_modulo _ _ _ (by omega) (by omega)).mono ?_; rintro e w' ⟨rfl, rfl⟩))
        go_ret
        exact ⟨ret_int (by simp [cellsBetween, h1, h2, h3]), rfl⟩

theorem spec_CellsBetween (t f o : Int) (w : World) :
    Calls Try.prog 12 #[.int .i64 t, .int .i64 f, .int .i64 o] w fun e w' => e = .returned (.int .i64 (cellsBetween t f o)) ∧ w = w' := by
  cases h1 : inB t 1 8000
  · go_enter Try.func12, Try.ntmps12
    go_wp2_with (go_at_call 41; refine (spec_l00In _ _ _ _).mono ?_; rintro e w' ⟨rfl, rfl⟩)
    go_ret
    exact ⟨ret_int (by simp [cellsBetween, h1]), rfl⟩
  · have b1 := inB_t h1
    obtain ⟨b1, b2⟩ := b1
    cases h2 : inB f 0 (t - 1)
    · go_enter Try.func12, Try.ntmps12
      go_wp2_with (go_at_call 41; refine (spec_l00In _ _ _ _).mono ?_; rintro e w' ⟨rfl, rfl⟩)
      go_ret
      exact ⟨ret_int (by simp [cellsBetween, h2]), rfl⟩
    · obtain ⟨b3, b4⟩ := inB_t h2
      cases h3 : inB o 0 (t - 1)
      · go_enter Try.func12, Try.ntmps12
        go_wp2_with (go_at_call 41; refine (spec_l00In _ _ _ _).mono ?_; rintro e w' ⟨rfl, rfl⟩)
        go_ret
        exact ⟨ret_int (by simp [cellsBetween, h3]), rfl⟩
      · obtain ⟨b5, b6⟩ := inB_t h3
        go_enter Try.func12, Try.ntmps12
        go_wp2_with (go_at_call 41; refine (spec_l00In _ _ _ _).mono ?_; rintro e w' ⟨rfl, rfl⟩)
        go_ret
        exact ⟨ret_int (by simp [cellsBetween, h1, h2, h3]), rfl⟩
end Go.Proofs.Ytmbhehoakpicdaa
