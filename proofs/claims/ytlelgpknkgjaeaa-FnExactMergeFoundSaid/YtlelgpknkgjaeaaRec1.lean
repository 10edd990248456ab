/- The laws' helpers over one record: 'to..', 'sz..'. -/
import Derived.Test.YtlelgpknkgjaeaaInt
namespace Go.Proofs.Ytlelgpknkgjaeaa
open Go.ChangeShapes Go.WideShapes Go.ChangeAt Go.RowKit
set_option linter.unusedVariables false
set_option linter.unusedSimpArgs false

theorem laws_toSectorSpec (c : Int) (h : Int) (n : Int) (s : Int) (d : ByteArray) (x : Bool) (y : Bool) (z : Bool) (w : World) :
    Calls Try.prog 85 #[.agg #[.int .i64 c, .int .i64 h, .int .i64 n, .int .i64 s, .string d, .bool x, .bool y, .bool z]] w fun e w' => e = .returned (.agg #[.int .i64 c, .int .i64 h, .int .i64 n, .int .i64 s, .string d, .bool x, .bool y, .bool z]) ∧ Below w.heap.size w w' := by
  go_enter Try.func85, Try.ntmps85
  go_wp2
  go_returns
  exact ⟨rfl, by go_grown⟩
theorem laws_szSectorSpec (c : Int) (h : Int) (n : Int) (s : Int) (d : ByteArray) (x : Bool) (y : Bool) (z : Bool) (left : Int) (w : World) (hd : d.size ≤ maxLen) (hl : 0 ≤ left) (hl2 : left ≤ 1048576) :
    Calls Try.prog 83 #[.agg #[.int .i64 c, .int .i64 h, .int .i64 n, .int .i64 s, .string d, .bool x, .bool y, .bool z], .int .i64 left] w fun e w' => e = .returned (.int .i64 (szLeft left d.size)) ∧ Below w.heap.size w w' := by
  unfold maxLen at hd
  by_cases hlt : left < d.size
  · have HV := Hid.in_ (szLeft_neg hlt)
    go_enter Try.func83, Try.ntmps83
    go_wp2
    go_ret
    exact ⟨ret_int HV.out.symm, by go_grown⟩
  · have HV := Hid.in_ (szLeft_pos (left := left) (n := d.size) (by omega))
    go_enter Try.func83, Try.ntmps83
    go_wp2
    go_ret
    exact ⟨ret_int HV.out.symm, by go_grown⟩
theorem laws_toFound (c : Int) (h : Int) (n : Int) (s : Int) (d : ByteArray) (t : Int) (l : Bool) (p : Int) (w : World) :
    Calls Try.prog 99 #[.agg #[.int .i64 c, .int .i64 h, .int .i64 n, .int .i64 s, .string d, .int .i64 t, .bool l, .int .i64 p]] w fun e w' => e = .returned (.agg #[.int .i64 c, .int .i64 h, .int .i64 n, .int .i64 s, .string d, .int .i64 t, .bool l, .int .i64 p]) ∧ Below w.heap.size w w' := by
  go_enter Try.func99, Try.ntmps99
  go_wp2
  go_returns
  exact ⟨rfl, by go_grown⟩
theorem laws_szFound (c : Int) (h : Int) (n : Int) (s : Int) (d : ByteArray) (t : Int) (l : Bool) (p : Int) (left : Int) (w : World) (hd : d.size ≤ maxLen) (hl : 0 ≤ left) (hl2 : left ≤ 1048576) :
    Calls Try.prog 93 #[.agg #[.int .i64 c, .int .i64 h, .int .i64 n, .int .i64 s, .string d, .int .i64 t, .bool l, .int .i64 p], .int .i64 left] w fun e w' => e = .returned (.int .i64 (szLeft left d.size)) ∧ Below w.heap.size w w' := by
  unfold maxLen at hd
  by_cases hlt : left < d.size
  · have HV := Hid.in_ (szLeft_neg hlt)
    go_enter Try.func93, Try.ntmps93
    go_wp2
    go_ret
    exact ⟨ret_int HV.out.symm, by go_grown⟩
  · have HV := Hid.in_ (szLeft_pos (left := left) (n := d.size) (by omega))
    go_enter Try.func93, Try.ntmps93
    go_wp2
    go_ret
    exact ⟨ret_int HV.out.symm, by go_grown⟩
end Go.Proofs.Ytlelgpknkgjaeaa
