/- 'EncodeFm', 'DecodeFm', 'FmMarkOf' of the program; the marks of FM, all 256 of them. -/
import Derived.Test.YtdnkjbgfaniafaaDoorFm
import Derived.Test.YtdnkjbgfaniafaaDoorMarkO
import Derived.Test.YtdnkjbgfaniafaaDoorEncP
namespace Go.Proofs.YtdnkjbgfaniafaaDoor
open Go.ChangeShapes Go.WideShapes Go.ChangeAt Go.RowKit
set_option linter.unusedSimpArgs false
set_option linter.unusedVariables false
set_option maxRecDepth 20000

theorem fm_marks : ∀ b : Fin 256, cellStr (fmMarkS b.val) = true ∧ (fmMarkS b.val).size = 16 ∧ (clkTo (fmMarkS b.val) false false 8).1 = [4, 6, 8] ∧ (bytesS (dataS (fmMarkS b.val))).data.toList = [UInt8.ofNat b.val] ∧ (fmMarkS b.val).data.toList ≠ (encS false false (oneB b.val)).data.toList := by decide +kernel
structure FmMk (b : Nat) (M : ByteArray) : Prop where
  cells : cellStr M = true
  size : M.size = 16
  faults : (clkTo M false false 8).1 = [4, 6, 8]
  data : bytesS (dataS M) = oneB b
  plain : M ≠ encS false false (oneB b)
theorem fm_mk {b : Nat} (h : b ≤ 255) : FmMk b (fmMarkS b) := by
  obtain ⟨h1, h2, h3, h4, h5⟩ := fm_marks ⟨b, by omega⟩
  refine ⟨h1, h2, h3, ?_, fun h => h5 (congrArg (fun x : ByteArray => x.data.toList) h)⟩
  apply ByteArray.ext
  apply Array.toList_inj.1
  exact h4
theorem impl_EncodeFm (s : ByteArray) (w : World) (hs : 16 * s.size ≤ 8000) :
    Calls Tryd.prog 7 #[.string s] w fun e w' => e = .returned (.string (encS false false s)) ∧ Below w.heap.size w w' := by
  have HF := Hid.in_ (show Calls Tryd.prog 20 #[.string s, .string ⟨#[49, 49, 49, 49, 49, 49, 49, 49]⟩] w fun e w' => e = .returned (.string (encS false false s)) ∧ Below w.heap.size w w' from impl_fmCells s w (by omega))
  have h1 : IntKind.i64.wrap (16 * (s.size : Int)) = 16 * (s.size : Int) := IntWalk.i64_in _ (by omega)
  have h2 : ¬ ((8000 : Int) < 16 * (s.size : Int)) := by omega
  go_enter Tryd.func7, Tryd.ntmps7
  go_wp2_with fail
  refine HF.out.mono ?_
  rintro e w1 ⟨rfl, hb1⟩
  go_wp2
  go_ret
  exact ⟨rfl, hb1⟩
theorem impl_DecodeFm (s : ByteArray) (w : World) (hc : cellStr s = true) (h16 : s.size % 16 = 0) :
    Calls Tryd.prog 8 #[.string s] w fun e w' => e = .returned (.tuple #[.string (bytesS (dataS s)), .bool true]) ∧ Below w.heap.size w w' := by
  have HF := Hid.in_ (impl_dataCells s w hc h16)
  go_enter Tryd.func8, Tryd.ntmps8
  go_wp2_with fail
  refine HF.out.mono ?_
  rintro e w1 ⟨rfl, hb1⟩
  go_wp2
  go_ret2
  exact ⟨rfl, hb1⟩
theorem list_ne {a b : ByteArray} (h : a ≠ b) : (a.toList == b.toList) = false := by
  rw [beq_eq_false_iff_ne]
  intro he
  refine h (ByteArray.ext (Array.toList_inj.1 ?_))
  rw [show a.toList = a.data.toList from by cases a; exact Lib.toList_data _, show b.toList = b.data.toList from by cases b; exact Lib.toList_data _] at he
  exact he
theorem oneB_at {b : Nat} (h : b ≤ 255) (hk : 0 < (oneB b).size) : (((oneB b)[0]'hk).toNat : Int) = (b : Int) := by
  show ((UInt8.ofNat b).toNat : Int) = _
  rw [UInt8.toNat_ofNat']
  omega
theorem impl_FmMarkOf_yes (C : ByteArray) (b : Nat) (w : World) (hb : b ≤ 255) (hc : cellStr C = true) (h16 : C.size % 16 = 0) (hd : bytesS (dataS C) = oneB b) (h : fmMarkS b = C) :
    Calls Tryd.prog 12 #[.string C] w fun e w' => e = .returned (.tuple #[.int .i64 b, .bool true]) ∧ Below w.heap.size w w' := by
  have HF := Hid.in_ (impl_dataCells C w hc h16)
  rw [hd] at HF
  have HM0 := (fun w => impl_FmMark b w hb)
  have hz : (oneB b).size = 1 := rfl
  have hp : 0 < (oneB b).size := Nat.lt_of_lt_of_eq (by decide) hz.symm
  have ho := oneB_at hb hp
  obtain ⟨c, hcc⟩ : ∃ c : UInt8, (oneB b)[0]'hp = c := ⟨_, rfl⟩
  rw [hcc] at ho
  rw [← ho] at HM0
  have HM := Hid.in_ HM0
  have HO := Hid.in_ ho
  have hc8 := c.toNat_lt
  have hw : IntKind.i64.wrap (c.toNat : Int) = (c.toNat : Int) := IntWalk.i64_in _ (by omega)
  clear hd hc h16 ho HM0
  generalize fmMarkS b = M at *
  generalize oneB b = S at *
  subst h
  go_enter Tryd.func12, Tryd.ntmps12
  go_wp2_with fail
  refine HF.out.mono ?_
  rintro e w1 ⟨rfl, hb1⟩
  have HB1 := Hid.in_ hb1
  clear hb1
  go_wp2_with fail
  refine (HM.out _).mono ?_
  rintro e w2 ⟨rfl, hb2⟩
  have HB2 := Hid.in_ (bstep HB1.out hb2)
  clear hb2
  go_wp2
  go_ret2
  exact ⟨show Ending.returned (.tuple #[.int .i64 (c.toNat : Int), .bool true]) = _ by rw [HO.out], HB2.out⟩
theorem impl_FmMarkOf_no (C : ByteArray) (b : Nat) (w : World) (hb : b ≤ 255) (hc : cellStr C = true) (h16 : C.size % 16 = 0) (hd : bytesS (dataS C) = oneB b) (h : fmMarkS b ≠ C) :
    Calls Tryd.prog 12 #[.string C] w fun e w' => e = .returned (.tuple #[.int .i64 0, .bool false]) ∧ Below w.heap.size w w' := by
  have HF := Hid.in_ (impl_dataCells C w hc h16)
  rw [hd] at HF
  have HM0 := (fun w => impl_FmMark b w hb)
  have hz : (oneB b).size = 1 := rfl
  have hp : 0 < (oneB b).size := Nat.lt_of_lt_of_eq (by decide) hz.symm
  have ho := oneB_at hb hp
  obtain ⟨c, hcc⟩ : ∃ c : UInt8, (oneB b)[0]'hp = c := ⟨_, rfl⟩
  rw [hcc] at ho
  rw [← ho] at HM0
  have HM := Hid.in_ HM0
  have HO := Hid.in_ ho
  have hc8 := c.toNat_lt
  have hw : IntKind.i64.wrap (c.toNat : Int) = (c.toNat : Int) := IntWalk.i64_in _ (by omega)
  clear hd hc h16 ho HM0
  generalize fmMarkS b = M at *
  generalize oneB b = S at *
  have hne := list_ne h
  clear h
  go_enter Tryd.func12, Tryd.ntmps12
  go_wp2_with fail
  refine HF.out.mono ?_
  rintro e w1 ⟨rfl, hb1⟩
  have HB1 := Hid.in_ hb1
  clear hb1
  go_wp2_with fail
  refine (HM.out _).mono ?_
  rintro e w2 ⟨rfl, hb2⟩
  have HB2 := Hid.in_ (bstep HB1.out hb2)
  clear hb2
  go_wp2
  go_ret2
  exact ⟨rfl, HB2.out⟩
set_option maxHeartbeats 1000000 in
theorem laws_a2Same (g h : Nat) (c1 c2 n : Nat) (w : World) (l : List Int) (hl : l.length = n) (hn : n ≤ 1048576) (hA : ∀ j u, (I64 l)[j]? = some u → w.cell? ⟨g, j, none⟩ = some u) (hB : ∀ j u, (I64 l)[j]? = some u → w.cell? ⟨h, j, none⟩ = some u) :
    Calls Tryd.prog 13 #[.slice (some ⟨g, 0, none⟩) n c1, .slice (some ⟨h, 0, none⟩) n c2] w fun e w' => e = .returned (.bool true) ∧ Below w.heap.size w w' := by
  have HL := Hid.in_ hl
  have HA := Hid.in_ hA
  have HB := Hid.in_ hB
  clear hA hB hl
  go_enter Tryd.func13, Tryd.ntmps13
  go_wp2
  go_loopw [5] (fun i wr => ∃ k : Nat, k ≤ n ∧ i = .int .i64 k ∧ ∃ q, wr = w.drewN q) (fun i _ => n - (intOf i).toNat)
  case atStart => exact ⟨0, Nat.zero_le _, rfl, 0, rfl⟩
  case round =>
    obtain ⟨k, hk, rfl, q, rfl⟩ := hrel
    by_cases hlt : k < n
    · obtain ⟨x, hx⟩ := get_lt l k (by rw [HL.out]; exact hlt)
      have f1 := HA.out k _ (I64_get hx)
      have f2 := HB.out k _ (I64_get hx)
      clear hx
      go_wp2
      go_quiet (fail)
      go_wp2
      go_roundw
      case rel => exact ⟨k + 1, by omega, by go_num, _, rfl⟩
      case measure => simp [intOf]; omega
    · go_wp2
      go_ret
      exact ⟨rfl, below_drewN (Below.refl _ _) _⟩
end Go.Proofs.YtdnkjbgfaniafaaDoor
