/- 'joinNumbers' of the program. -/
import Derived.Test.YtklaakhdpfgffaaDoorDec
import Derived.Test.YtklaakhdpfgffaaDoorWr
import Derived.Test.YtklaakhdpfgffaaDoorShelfJ
import Derived.Test.YtklaakhdpfgffaaDoorI64
import Derived.Deep.LoopGhost
namespace Go.Proofs.YtklaakhdpfgffaaDoor
open Go.ChangeShapes Go.WideShapes Go.ChangeAt Go.RowKit
set_option linter.unusedSimpArgs false
set_option linter.unusedVariables false
set_option maxRecDepth 4000

def decI (x : Int) : ByteArray := decS x.toNat
def joinS (l : List Int) (sep : ByteArray) : ByteArray := ⟨(Lib.join ((l.map decI).map (·.data.toList)) sep.data.toList).toArray⟩
/-- The first k words are written, the others still empty. -/
def wordsTo (l : List Int) (k : Nat) : List ByteArray := (l.take k).map decI ++ List.replicate (l.length - k) ⟨#[]⟩
theorem wordsTo_len (l : List Int) {k : Nat} (h : k ≤ l.length) : (wordsTo l k).length = l.length := by
  unfold wordsTo
  rw [List.length_append, List.length_map, List.length_take, List.length_replicate]
  omega
theorem wordsTo_zero (l : List Int) : wordsTo l 0 = List.replicate l.length ⟨#[]⟩ := by
  unfold wordsTo
  simp
theorem wordsTo_all (l : List Int) : wordsTo l l.length = l.map decI := by
  unfold wordsTo
  simp
theorem wordsTo_succ {l : List Int} {k : Nat} {x : Int} (h : l[k]? = some x) : (wordsTo l k).set k (decI x) = wordsTo l (k + 1) := by
  have hk : k < l.length := (List.getElem?_eq_some_iff.1 h).1
  have e : List.take (k + 1) l = List.take k l ++ [x] := by
    rw [List.take_add_one, h]
    rfl
  unfold wordsTo
  have hln : ((List.take k l).map decI).length = k := by rw [List.length_map, List.length_take]; omega
  rw [e, List.map_append, show l.length - k = (l.length - (k + 1)) + 1 by omega, List.replicate_succ, List.set_append_right _ _ (by omega), hln, Nat.sub_self]
  simp
theorem join_len (xs : List (List UInt8)) (sep : List UInt8) : ∀ (N : Nat), (∀ x ∈ xs, x.length ≤ N) → (Lib.join xs sep).length ≤ xs.length * (N + sep.length) := by
  intro N
  induction xs with
  | nil => intro _; simp [Lib.join]
  | cons x r ih =>
    intro h
    have h1 := h x (List.mem_cons_self ..)
    have h2 := ih (fun y hy => h y (List.mem_cons_of_mem _ hy))
    cases r with
    | nil => rw [Lib.join_one]; simp; omega
    | cons y r =>
      have : (Lib.join (x :: y :: r) sep).length = x.length + sep.length + (Lib.join (y :: r) sep).length := by simp [Lib.join]; try omega
      rw [this, List.length_cons, Nat.succ_mul]
      omega
theorem decI_size {x : Int} (h : x ≤ 1048576) : (decI x).size ≤ 1048577 := by
  have := decS_size x.toNat
  unfold decI
  omega
def strV (xs : List ByteArray) : List Value := xs.map .string
theorem strV_set (xs : List ByteArray) (k : Nat) (x : ByteArray) : (strV xs).set k (.string x) = strV (xs.set k x) := by unfold strV; rw [List.map_set]
theorem strV_len (xs : List ByteArray) : (strV xs).length = xs.length := by simp [strV]
theorem wordsTo_at {l : List Int} {k : Nat} (h : k < l.length) : (strV (wordsTo l k))[k]? = some (.string ⟨#[]⟩) := by
  have hln : ((List.take k l).map decI).length = k := by rw [List.length_map, List.length_take]; omega
  unfold strV wordsTo
  rw [List.getElem?_map, List.getElem?_append_right (by omega), hln, Nat.sub_self, List.getElem?_replicate, if_pos (by omega)]
  rfl
theorem Tryd.infoStr : (Tryd.prog.info? 9).map (fun i => (i.zero, i.size, i.bytes)) = some (some (.string ⟨#[]⟩), 1, 16) := by kernel_rfl
set_option maxHeartbeats 4000000 in
theorem impl_joinNumbers {v : Value} {n b : Nat} {l : List Int} (sep : ByteArray) (w : World) (h : w.ownsRow b 2 1 v n (I64 l)) (hl : ∀ x ∈ l, 0 ≤ x ∧ x ≤ 1048576) (hn2 : n ≤ 1024) (hs : sep.size ≤ 1024) (hP : PowT w) :
    Calls Tryd.prog 44 #[v, .string sep] w fun e w' => e = .returned (.string (joinS l sep)) ∧ Below w.heap.size w w' := by
  have hlx : l.length = n := by have := h.1; rw [I64_len] at this; omega
  have HO := Hid.in_ h
  obtain ⟨A, c, rfl, _, hn, hA⟩ := own_shape h
  have HL := Hid.in_ hlx
  have HD := Hid.in_ hl
  have HP := Hid.in_ hP
  have H1 := Hid.in_ hA
  obtain ⟨i0, hti, hz0, hz1, hz2⟩ := info_parts Tryd.infoStr
  clear h hlx hl hP hA
  go_enter Tryd.func44, Tryd.ntmps44
  go_wp2_with (at_make; refine wpList_make_full _ rfl _ _ _ rfl w.heap.size 9 i0 _ 1 Tryd.underlying61 hti hz0 hz1 _ _ _ _ n rfl rfl rfl rfl (by rw [hz2]; omega) (by unfold maxLen; omega) (Nat.le_refl _) ?_; intro w1 hown hgrow)
  have HO1 : Hid (Wr w1 w.heap.size (strV (wordsTo l 0)) ∧ Below w.heap.size w w1) := by
    refine ⟨?_, (Below.refl _ _).grown hgrow (Nat.le_refl _) (by simp)⟩
    have e : (madeCells (Value.cells (.string ⟨#[]⟩)) (n * 1)).toList = strV (wordsTo l 0) := by
      rw [Nat.mul_one, show Value.cells (.string ⟨#[]⟩) = #[.string ⟨#[]⟩] from rfl, toList_madeCells_one, wordsTo_zero, HL.out]
      unfold strV
      rw [List.map_replicate]
    rw [e] at hown
    rcases Nat.eq_zero_or_pos n with h0 | h0
    · subst h0
      have hz : strV (wordsTo l 0) = [] := List.length_eq_zero_iff.1 (by rw [strV_len, wordsTo_len l (Nat.zero_le _)]; exact HL.out)
      rw [hz]
      obtain ⟨_, hcase⟩ := hown
      rcases hcase with ⟨hv, _⟩ | ⟨g, cap, cur, hv, hbg, hg, _⟩
      · cases hv
      · injection hv with hv _ _
        injection hv with hv
        injection hv with hv _ _
        subst hv
        exact ⟨fun j u hu => by simp at hu, fun i => Lib.frozen_of_heap hg i, (Array.getElem?_eq_some_iff.1 hg).1⟩
    · obtain ⟨A2, c2, hv, _, _, hA2⟩ := own_shape hown
      obtain ⟨g, hg, _, hlt, hbx, hfz⟩ := hA2 h0
      subst hg
      injection hv with hv _ _
      injection hv with hv
      injection hv with hv _ _
      subst hv
      exact ⟨hbx, hfz, hlt⟩
  have HJ := Hid.in_ (show ∀ wr : World, Wr wr w.heap.size (strV (wordsTo l n)) → Calls Tryd.prog 65 #[.slice (some ⟨w.heap.size, 0, none⟩) n n, .string sep] wr fun e w' => e = .returned (.string (joinS l sep)) ∧ Below wr.heap.size wr w' from fun wr hw => by
    have hq : wordsTo l n = l.map decI := by rw [← HL.out]; exact wordsTo_all l
    rw [hq] at hw
    have hl2 : (l.map decI).length = n := by rw [List.length_map]; exact HL.out
    have := Any.strings_Join Tryd.lays156 Tryd.Builder_Extra_156 w.heap.size 0 n (l.map decI) sep wr (fun j x hx => by
      rw [Nat.zero_add]
      exact hw.box j _ (by unfold strV; rw [List.getElem?_map, hx]; rfl)) hw.lt (by omega) (by omega) (by
      have h1 := join_len ((l.map decI).map (·.data.toList)) sep.data.toList 1048577 (fun y hy => by
        rw [List.map_map, List.mem_map] at hy
        obtain ⟨x, hx, rfl⟩ := hy
        have := decI_size (HD.out x hx).2
        show (decI x).data.toList.length ≤ _
        rw [Array.length_toList]
        exact this)
      have h2 : ((l.map decI).map (·.data.toList)).length = n := by rw [List.length_map]; exact hl2
      have h3 : sep.data.toList.length ≤ 1024 := by rw [Array.length_toList]; exact hs
      rw [h2] at h1
      have h4 : n * (1048577 + sep.data.toList.length) ≤ 1024 * (1048577 + 1024) := Nat.mul_le_mul hn2 (by omega)
      omega)
    rw [hl2] at this
    exact this)
  clear hown hgrow
  go_loopg [13] n (fun m i wr => ∃ k : Nat, k + m = n ∧ i = .int .i64 k ∧ Hid (Wr wr w.heap.size (strV (wordsTo l k)) ∧ Below w.heap.size w wr))
  case atStart => exact ⟨0, by omega, rfl, HO1⟩
  case round =>
    clear HO1
    obtain ⟨k, hkm, rfl, HW⟩ := hrel
    have HK := Hid.in_ hkm
    clear hkm
    by_cases hlt : k < n
    · obtain ⟨g, rfl, _, hg, hx, _⟩ := H1.out (by omega)
      obtain ⟨x, hxk⟩ := get_lt l k (by rw [HL.out]; exact hlt)
      have c0 := cstep HW.out.2 (hx k _ (I64_get hxk))
      obtain ⟨x0, x1⟩ := HD.out x (List.mem_of_getElem? hxk)
      have HXK := Hid.in_ hxk
      obtain ⟨y, rfl⟩ := Int.eq_ofNat_of_zero_le x0
      have HC := Hid.in_ (impl_decimal y wr (by omega) (tab_step HP.out HW.out.2))
      clear hx hxk x0 x1
      go_wp2_with fail
      refine HC.out.mono ?_
      rintro e w2 ⟨rfl, hb2⟩
      have hw2 := Wr.step hb2 HW.out.1
      have f1 := hw2.box k _ (wordsTo_at (by rw [HL.out]; exact hlt))
      have f2 := hw2.soft k
      have HW2 := Hid.in_ (hw2.set (i := k) (.string (decS y)) (by rw [strV_len, wordsTo_len l (by rw [HL.out]; omega), HL.out]; exact hlt))
      have HB2 := Hid.in_ (Below.setCell (bstep HW.out.2 hb2) (p := ⟨w.heap.size, k, none⟩) (Nat.le_refl _) (.string (decS y)))
      have HE := Hid.in_ (wordsTo_succ HXK.out)
      clear hw2 hb2
      go_wp2
      have hk := HK.out
      go_roundg (gk - 1)
      case measure => omega
      case rel =>
        refine ⟨k + 1, by omega, by go_num, ?_, HB2.out⟩
        have h := HW2.out
        rw [show decS y = decI (y : Int) from rfl, strV_set, HE.out] at h
        exact h
    · have hk := HK.out
      obtain rfl : k = n := by omega
      go_wp2_with fail
      refine (HJ.out _ HW.out.1).mono ?_
      rintro e w2 ⟨rfl, hb2⟩
      have HB2 := Hid.in_ (bstep HW.out.2 hb2)
      clear hb2
      go_wp2
      go_ret
      exact ⟨rfl, HB2.out⟩
end Go.Proofs.YtklaakhdpfgffaaDoor
