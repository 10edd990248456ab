/- 'RunsOf' of the program: what its numbers are. -/
import Derived.Test.YtdnkjbgfaniafaaDoorCells
import Derived.Test.YtdnkjbgfaniafaaDoorI64
import Derived.Test.YtdnkjbgfaniafaaDoorRow
import Derived.Test.YtdnkjbgfaniafaaDoorShelfK
import Derived.Lib.IndexLaws
import Derived.Lib.Builder
import Derived.Deep.LoopGhost
namespace Go.Proofs.YtdnkjbgfaniafaaDoor
open Go.ChangeShapes Go.WideShapes Go.ChangeAt Go.RowKit
set_option linter.unusedSimpArgs false
set_option linter.unusedVariables false
set_option maxRecDepth 4000

/-- r is the distance of two neighbouring cells that are 1. -/
def OneGap (s : ByteArray) (r : Int) : Prop := ∃ p n : Nat, r = (n : Int) + 1 ∧ s.data.toList[p]? = some 49 ∧ s.data.toList[p + n + 1]? = some 49 ∧ ∀ j, p < j → j < p + n + 1 → s.data.toList[j]? ≠ some 49
theorem extract_from (s : ByteArray) (b : Nat) : (s.extract b s.size).data.toList = s.data.toList.drop b := by
  rw [ByteArray.data_extract, Array.toList_extract, List.extract_eq_take_drop]
  exact List.take_of_length_le (by rw [List.length_drop]; simp)
theorem Tryd.infoI64q : (Tryd.prog.info? 2).map (fun i => (i.zero, i.size, i.bytes)) = some (some (.int .i64 0), 1, 8) := by kernel_rfl
theorem I64_one (l : List Int) (x : Int) : I64 l ++ [.int .i64 x] = I64 (l ++ [x]) := by unfold I64; rw [List.map_append]; rfl
set_option maxHeartbeats 4000000 in
theorem impl_RunsOf (s : ByteArray) (w : World) (hs : s.size ≤ 1048576) :
    Calls Tryd.prog 15 #[.string s] w fun e w' => ∃ v rs, e = .returned v ∧ w'.ownsRow w.heap.size 2 1 v rs.length (I64 rs) ∧ (∀ r ∈ rs, OneGap s r) ∧ Below w.heap.size w w' := by
  obtain ⟨i0, hti, hz0, hz1, hz2⟩ := info_parts Tryd.infoI64q
  have HC := Hid.in_ (impl_isCellString s w (by omega))
  have HX := Hid.in_ (fun (t : ByteArray) (w : World) => show Calls Tryd.prog 25 #[.string t, .int .u8 49] w fun e w' => e = .returned (.int .i64 (Lib.indexByte t.data.toList 49)) ∧ w' = w from Any.strings_IndexByte Tryd.lays137 t 49 w)
  have hge := Lib.indexByte_ge s.data.toList 49
  cases hcs : cellStr s
  · rw [hcs] at HC
    go_enter Tryd.func15, Tryd.ntmps15
    go_wp2_with fail
    refine HC.out.mono ?_
    rintro e w1 ⟨rfl, hb1⟩
    go_wp2
    go_ret
    exact ⟨_, [], rfl, ⟨rfl, .inl ⟨rfl, rfl⟩⟩, (by simp), hb1⟩
  · rw [hcs] at HC
    go_enter Tryd.func15, Tryd.ntmps15
    go_wp2_with fail
    refine HC.out.mono ?_
    rintro e w1 ⟨rfl, hb1⟩
    have HB1 := Hid.in_ hb1
    clear hb1
    go_wp2_with fail
    refine (HX.out _ _).mono ?_
    rintro e w2 ⟨rfl, rfl⟩
    obtain ⟨z, hz⟩ : ∃ z, Lib.indexByte s.data.toList 49 = z := ⟨_, rfl⟩
    have HZ := Hid.in_ hz
    rw [hz] at hge ⊢
    clear hz
    go_wp2_with fail
    go_loopg [3, 4] (s.size + 1) (fun m v i wr => ∃ l : List Int, Hid (wr.ownsRow w.heap.size 2 1 v l.length (I64 l)) ∧ Hid (∀ r ∈ l, OneGap s r) ∧ Hid (Below w.heap.size w wr) ∧ Hid (l.length + m ≤ s.size + 1) ∧ (i = .int .i64 (-1) ∨ ∃ a : Nat, i = .int .i64 a ∧ a < s.size ∧ Hid (s.data.toList[a]? = some 49) ∧ s.size ≤ a + m))
    case atStart =>
      refine ⟨[], ⟨rfl, .inl ⟨rfl, rfl⟩⟩, (by simp : ∀ r ∈ ([] : List Int), OneGap s r), HB1.out, (by simp : ([] : List Int).length + (s.size + 1) ≤ s.size + 1), ?_⟩
      rcases Int.lt_or_le z 0 with h0 | h0
      · exact .inl (by rw [show z = -1 by omega])
      · obtain ⟨a, rfl⟩ := Int.eq_ofNat_of_zero_le h0
        have h1 := (Lib.indexByte_some HZ.out).1
        have h2 := (List.getElem?_eq_some_iff.1 h1).1
        exact .inr ⟨a, rfl, by simpa using h2, h1, by omega⟩
    case round =>
      clear HZ HB1 HC hge
      obtain ⟨l, HI, HG, HB, HLm, hi⟩ := hrel
      rcases hi with rfl | ⟨a, rfl, ha, HA1, ham⟩
      · go_wp2
        go_ret
        exact ⟨_, l, rfl, HI.out, HG.out, HB.out⟩
      · obtain ⟨b, hb⟩ : ∃ b, a + 1 = b := ⟨_, rfl⟩
        have hb1 : (a : Int) + 1 = (b : Int) := by omega
        have hb2 : IntKind.i64.wrap (b : Int) = (b : Int) := IntWalk.i64_in _ (by omega)
        have hb3 : (0 : Int) ≤ (b : Int) := by omega
        have hb4 : (b : Int) ≤ (s.size : Int) := by omega
        have hm0 : 0 < gk := by omega
        go_wp2_with fail
        refine (HX.out _ _).mono ?_
        rintro e w3 ⟨rfl, rfl⟩
        obtain ⟨y, hy⟩ : ∃ y, Lib.indexByte (s.extract b s.size).data.toList 49 = y := ⟨_, rfl⟩
        have hge2 := Lib.indexByte_ge (s.extract b s.size).data.toList 49
        rw [hy] at hge2 ⊢
        have HY := Hid.in_ hy
        clear hy
        rcases Int.lt_or_le y 0 with h0 | h0
        · obtain rfl : y = -1 := by omega
          clear h0 hge2
          go_wp2
          go_ret
          exact ⟨_, l, rfl, HI.out, HG.out, HB.out⟩
        · obtain ⟨n, rfl⟩ := Int.eq_ofNat_of_zero_le h0
          obtain ⟨h1, h2⟩ := Lib.indexByte_some HY.out
          rw [extract_from, List.getElem?_drop] at h1
          have h3 := (List.getElem?_eq_some_iff.1 h1).1
          have h3' : b + n < s.size := by simpa using h3
          have HA2 := Hid.in_ (show s.data.toList[a + n + 1]? = some 49 by rw [show a + n + 1 = b + n by omega]; exact h1)
          have HGP := Hid.in_ (show OneGap s ((n : Int) + 1) from ⟨a, n, rfl, HA1.out, HA2.out, fun j j1 j2 hj => by
            refine h2 (j - b) (by omega) ?_
            rw [extract_from, List.getElem?_drop, show b + (j - b) = j by omega]
            exact hj⟩)
          have n1 : IntKind.i64.wrap ((n : Int) + 1) = (n : Int) + 1 := IntWalk.i64_in _ (by omega)
          have n2 : IntKind.i64.wrap ((a : Int) + ((n : Int) + 1)) = (a : Int) + ((n : Int) + 1) := IntWalk.i64_in _ (by omega)
          have hl := HLm.out
          have hln : l.length ≤ 1048577 := by omega
          clear h1 h2 h3 h0 hge2 hl
          go_wp2_with (at_builtin; refine wpList_append_own _ rfl _ _ 28 rfl w.heap.size 2 i0 (.int .i64 0) 1 8 Tryd.underlying28 hti hz0 hz1 hz2 rfl (by decide) _ _ _ rfl (HI.out.alloc _) ⟨w3.heap.size, 0, none⟩ 1 1 [.int .i64 ((n : Int) + 1)] rfl rfl (cell_one_new _ _ _) (fun x hx => by simp at hx; subst hx; rfl) (by unfold maxLen; omega) (by omega) (balloc HB.out _).size ?_; intro v6 w6 ho6 hg6 _)
          have HB6 := Hid.in_ (bgrown (balloc HB.out _) (HI.out.alloc _) (Nat.le_refl _) hg6)
          rw [I64_one] at ho6
          have HO6 := Hid.in_ ho6
          clear ho6 hg6
          have hl := HLm.out
          go_roundg (gk - 1)
          case measure => omega
          case rel =>
            refine ⟨l ++ [(n : Int) + 1], ?_, ?_, HB6, ?_, .inr ⟨a + n + 1, by go_num, by omega, HA2, by omega⟩⟩
            · have h := HO6.out
              rw [show l.length + 1 = (l ++ [(n : Int) + 1]).length by simp] at h
              exact h
            · intro r hr
              rw [List.mem_append, List.mem_singleton] at hr
              rcases hr with hr | rfl
              · exact HG.out r hr
              · exact HGP.out
            · show (l ++ [(n : Int) + 1]).length + (gk - 1) ≤ s.size + 1
              rw [List.length_append]
              simp
              omega
end Go.Proofs.YtdnkjbgfaniafaaDoor
