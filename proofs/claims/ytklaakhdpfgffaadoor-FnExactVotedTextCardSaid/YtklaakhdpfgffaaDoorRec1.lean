/- The laws' helpers over one record: 'to..', 'sz..'. -/
import Derived.Test.YtklaakhdpfgffaaDoorInt
namespace Go.Proofs.YtklaakhdpfgffaaDoor
open Go.ChangeShapes Go.WideShapes Go.ChangeAt Go.RowKit
set_option linter.unusedVariables false
set_option linter.unusedSimpArgs false

theorem laws_toFeature (k : Int) (s : Int) (v : Int) (w : World) :
    Calls Tryd.prog 9 #[.agg #[.int .i64 k, .int .i64 s, .int .i64 v]] w fun e w' => e = .returned (.agg #[.int .i64 k, .int .i64 s, .int .i64 v]) ∧ Below w.heap.size w w' := by
  go_enter Tryd.func9, Tryd.ntmps9
  go_wp2
  go_returns
  exact ⟨rfl, by go_grown⟩
theorem laws_toFound (c : Int) (h : Int) (n : Int) (s : Int) (d : ByteArray) (t : Int) (l : Bool) (p : Int) (w : World) :
    Calls Tryd.prog 13 #[.agg #[.int .i64 c, .int .i64 h, .int .i64 n, .int .i64 s, .string d, .int .i64 t, .bool l, .int .i64 p]] w fun e w' => e = .returned (.agg #[.int .i64 c, .int .i64 h, .int .i64 n, .int .i64 s, .string d, .int .i64 t, .bool l, .int .i64 p]) ∧ Below w.heap.size w w' := by
  go_enter Tryd.func13, Tryd.ntmps13
  go_wp2
  go_returns
  exact ⟨rfl, by go_grown⟩
theorem laws_szFound (c : Int) (h : Int) (n : Int) (s : Int) (d : ByteArray) (t : Int) (l : Bool) (p : Int) (left : Int) (w : World) (hd : d.size ≤ maxLen) (hl : 0 ≤ left) (hl2 : left ≤ 1048576) :
    Calls Tryd.prog 11 #[.agg #[.int .i64 c, .int .i64 h, .int .i64 n, .int .i64 s, .string d, .int .i64 t, .bool l, .int .i64 p], .int .i64 left] w fun e w' => e = .returned (.int .i64 (szLeft left d.size)) ∧ Below w.heap.size w w' := by
  unfold maxLen at hd
  by_cases hlt : left < d.size
  · have HV := Hid.in_ (szLeft_neg hlt)
    go_enter Tryd.func11, Tryd.ntmps11
    go_wp2
    go_ret
    exact ⟨ret_int HV.out.symm, by go_grown⟩
  · have HV := Hid.in_ (szLeft_pos (left := left) (n := d.size) (by omega))
    go_enter Tryd.func11, Tryd.ntmps11
    go_wp2
    go_ret
    exact ⟨ret_int HV.out.symm, by go_grown⟩
end Go.Proofs.YtklaakhdpfgffaaDoor
