/- Rows of strings: as lists of byte strings, as arguments that came in; 'szStringS', 'toStringS', 'eqStringS' of the laws. -/
import Derived.Test.YtlelgpknkgjaeaaDoorRow
namespace Go.Proofs.YtlelgpknkgjaeaaDoor
open Go.ChangeShapes Go.WideShapes Go.ChangeAt Go.RowKit
set_option linter.unusedSimpArgs false
set_option linter.unusedVariables false
set_option maxRecDepth 4000

def StrC (s : ByteArray) : List Value := [.string s]
theorem StrC.len (s : ByteArray) : (StrC s).length = 1 := rfl
def Strs (l : List ByteArray) : List Value := l.map Value.string
theorem strs_flat (l : List ByteArray) : l.flatMap StrC = Strs l := by
  induction l with
  | nil => rfl
  | cons x l ih => rw [List.flatMap_cons, ih]; rfl
theorem Strs_len (l : List ByteArray) : (Strs l).length = l.length := by simp [Strs]
theorem Strs_get {l : List ByteArray} {i : Nat} {x : ByteArray} (h : l[i]? = some x) : (Strs l)[i]? = some (.string x) := by simp [Strs, h]
theorem Strs_set (l : List ByteArray) (k : Nat) (x : ByteArray) : (Strs l).set k (.string x) = Strs (l.set k x) := by simp [Strs, List.map_set]
theorem Strs_append (a b : List ByteArray) : Strs (a ++ b) = Strs a ++ Strs b := by unfold Strs; exact List.map_append
section
variable {H : Type} {enc : TypeId × Value → H} {w : World} {base : Nat} {held : Bool}
theorem open_StrC {spare : Nat → Bool} {m : Nat} {cs : List Value} {y : DataW H × List MemPlace} (h : DataW.trod enc Tryd.prog w base spare held m 9 cs = some y) : ∃ s : ByteArray, cs = StrC s ∧ s.size ≤ maxLen := by
  obtain ⟨b, g, _, wf⟩ := DataW.trod_string Tryd.underlying9 h
  exact ⟨b, g, wf⟩
theorem slice_Strs {r0 : Reach} {b0 : Nat} {v : Value} {d : DataW H} {p : List MemPlace} (hv : Value.okWide Tryd.prog w r0 b0 25 v) (h : DataW.Trod enc Tryd.prog w base (fun _ => true) held 25 v d p) :
    ∃ (A : Option Addr) (cap : Nat) (l : List ByteArray), v = .slice A l.length cap ∧ ArgS w A l.length cap 1 (Strs l) ∧ ∀ s ∈ l, s.size ≤ maxLen := by
  obtain ⟨A, n, cap, rfl⟩ := okWide_slice Tryd.underlying25 hv
  obtain ⟨fuel, hf⟩ := h
  obtain ⟨A', cap', l, hcs, hA, hok⟩ := open_rows StrC.len Tryd.underlying25 (by kernel_rfl) (fun _ _ _ h => open_StrC h) hf
  obtain ⟨rfl, rfl, rfl⟩ : A = A' ∧ n = l.length ∧ cap = cap' := by simpa [Value.cells] using hcs
  rw [strs_flat] at hA
  exact ⟨_, _, l, rfl, hA, hok⟩
end
theorem Tryd.info_Str : (Tryd.prog.info? 9).map (fun i => (i.zero, i.size, i.bytes)) = some (some (.string ⟨#[]⟩), 1, 16) := by kernel_rfl
end Go.Proofs.YtlelgpknkgjaeaaDoor
