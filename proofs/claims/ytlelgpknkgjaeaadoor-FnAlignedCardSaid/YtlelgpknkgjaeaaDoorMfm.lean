/- The cells of bytes: 'fmCells', 'mfmCells' of the program, 'l05Encode' of the reference. -/
import Derived.Test.YtlelgpknkgjaeaaDoorBits
import Derived.StillTailTactics
namespace Go.Proofs.YtlelgpknkgjaeaaDoor
open Go.ChangeShapes Go.WideShapes Go.ChangeAt Go.RowKit
set_option linter.unusedSimpArgs false
set_option linter.unusedVariables false
set_option maxRecDepth 4000

/-- The cell of the clock: what 'mfm' says, the bit before and the bit. -/
def clk (mfm last b : Bool) : Bool := !mfm || (!last && !b)
def encL (mfm : Bool) : Bool → List Bool → List Bool
  | _, [] => []
  | last, b :: bs => clk mfm last b :: b :: encL mfm b bs
def lastOf : Bool → List Bool → Bool
  | last, [] => last
  | _, b :: bs => lastOf b bs
theorem encL_snoc (mfm : Bool) (b : Bool) : ∀ (last : Bool) (bs : List Bool), encL mfm last (bs ++ [b]) = encL mfm last bs ++ [clk mfm (lastOf last bs) b, b]
  | last, [] => rfl
  | last, c :: bs => by
    show clk mfm last c :: c :: encL mfm c (bs ++ [b]) = _
    rw [encL_snoc mfm b c bs]
    rfl
theorem lastOf_snoc (b : Bool) : ∀ (last : Bool) (bs : List Bool), lastOf last (bs ++ [b]) = b
  | last, [] => rfl
  | last, c :: bs => lastOf_snoc b c bs
theorem encL_len (mfm : Bool) : ∀ (last : Bool) (bs : List Bool), (encL mfm last bs).length = 2 * bs.length
  | last, [] => rfl
  | last, c :: bs => by
    show (encL mfm c bs).length + 1 + 1 = _
    rw [encL_len mfm c bs, List.length_cons]
    omega
def encS (mfm last : Bool) (s : ByteArray) : ByteArray := ⟨((encL mfm last (bitsN s s.size)).map chr).toArray⟩
theorem bitsS_size (s : ByteArray) : (bitsS s).size = 8 * s.size := by
  show (((bitsN s s.size).map chr).toArray).size = _
  rw [List.size_toArray, List.length_map, bitsN_len (Nat.le_refl _)]
theorem bitsS_get {s : ByteArray} {k : Nat} (h : k < (bitsS s).size) : ∃ b, (bitsN s s.size)[k]? = some b ∧ (bitsS s)[k] = chr b := by
  have hk : k < (bitsN s s.size).length := by rw [bitsN_len (Nat.le_refl _)]; rw [bitsS_size] at h; omega
  refine ⟨(bitsN s s.size)[k], List.getElem?_eq_getElem hk, ?_⟩
  show ((bitsN s s.size).map chr)[k]'(by rw [List.length_map]; exact hk) = _
  rw [List.getElem_map]
theorem ret_strX {a b : ByteArray} (h : a = b) : Ending.returned (.string a) = .returned (.string b) := by rw [h]
theorem take_next {l : List Bool} {k : Nat} {b : Bool} (h : l[k]? = some b) : l.take (k + 1) = l.take k ++ [b] := by
  have hk : k < l.length := (List.getElem?_eq_some_iff.1 h).1
  rw [List.take_succ_eq_append_getElem hk]
  rw [List.getElem?_eq_getElem hk] at h
  injection h with h
  rw [h]
theorem two_cells (a b : Bool) : [Value.int .u8 ((chr a).toNat : Int), Value.int .u8 ((chr b).toNat : Int)] = bitCells [a, b] := rfl
theorem cell_two (w : World) (x y : Value) (t : TypeId) : ∀ j u, [x, y][j]? = some u → (w.alloc (.cells #[x, y] t)).cell? ((⟨w.heap.size, 0, none⟩ : Addr).add j) = some u := fun j u hu => by
  have h := Box.new w [x, y] t j u hu
  rw [addr_add, Nat.zero_add]
  exact h
end Go.Proofs.YtlelgpknkgjaeaaDoor
