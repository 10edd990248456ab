/- 'FnAligned': for every input the law returns true, and each argument reads behind the call as it read before. No condition. -/
import Derived.Test.YtlelgpknkgjaeaaDoorLaw
import Derived.Test.YtlelgpknkgjaeaaDoorDoor
import Derived.Test.YtlelgpknkgjaeaaDoorE8
import Derived.Test.YtlelgpknkgjaeaaDoorArgU
import Derived.Test.YtlelgpknkgjaeaaDoorRot
import Derived.Test.YtlelgpknkgjaeaaDoorAlgP
import Derived.Test.YtlelgpknkgjaeaaDoorCards
import Derived.Test.YtlelgpknkgjaeaaDoorTie
namespace Go.Proofs.YtlelgpknkgjaeaaDoor
open Go.ChangeShapes Go.WideShapes Go.ChangeAt Go.RowKit
open Go.ChangeMaps (open_string shut_string)
set_option linter.unusedVariables false
theorem size_mkB (l : List UInt8) : (⟨l.toArray⟩ : ByteArray).size = l.length := by show l.toArray.size = _; simp
theorem valid_mk {s : ByteArray} (h : allBits s = true) (h1 : 1 ≤ s.size) (h2 : s.size ≤ 512) : validCells s = true := by
  unfold validCells cellStr
  rw [isEmpty_size, decide_eq_false (by omega), h, decide_eq_true (by omega)]
  rfl
theorem slice_bits {s : ByteArray} (h : allBits s = true) (hs : 1 ≤ s.size) (p n : Nat) : allBits (sliceS s p n) = true := by
  unfold allBits at h ⊢
  rw [List.all_eq_true] at h ⊢
  intro x hx
  have hx' : x ∈ sliceL s.data.toList p n := by
    have e : (sliceS s p n).data.toList = sliceL s.data.toList p n := by show (sliceL s.data.toList p n).toArray.toList = _; simp
    rw [e] at hx
    exact hx
  unfold sliceL at hx'
  obtain ⟨i, _, rfl⟩ := List.mem_map.1 hx'
  have hl := len_data s
  have hlt : (p + i) % s.data.toList.length < s.data.toList.length := Nat.mod_lt _ (by omega)
  have := getD_at hlt
  exact h _ (List.mem_of_getElem? this)
def Turned (s : ByteArray) (N : Nat) (x : ByteArray) : Prop := ∃ p j : Nat, j ≤ 12 ∧ x = sliceS s p N ∧ ((p : Int) + shOf j) % (N : Int) = 0
theorem Turned.self {s : ByteArray} {N : Nat} (h : s.size = N) (h1 : 1 ≤ N) : Turned s N s := by
  refine ⟨0, 0, by omega, ?_, ?_⟩
  · subst h
    rw [← slice_one (s := s) (at_ := 0) (n := s.size) (by omega), Nat.zero_add]
    apply ba_ext
    rw [extract_list, List.drop_zero, Nat.sub_zero, List.take_of_length_le (by rw [len_data]; exact Nat.le_refl _)]
  · show ((0 : Nat) : Int) + (-((0 / 2 : Nat) : Int)) % (N : Int) = 0
    simp
theorem Turned.mk' {s : ByteArray} {N p d : Nat} (hd : d < 13) (hN : 1 ≤ N) (hp : ((d : Int) - 6 + 6 * (N : Int)) % (N : Int) = (p : Int)) : Turned s N (sliceS s p N) := by
  obtain ⟨j, hj, hs⟩ := shOf_any d hd
  refine ⟨p, j, hj, rfl, ?_⟩
  rw [hs, ← hp]
  have : (((d : Int) - 6 + 6 * (N : Int)) % (N : Int) + (6 - (d : Int))) % (N : Int) = (((d : Int) - 6 + 6 * (N : Int)) + (6 - (d : Int))) % (N : Int) := by
    rw [Int.add_emod, Int.emod_emod_of_dvd _ (Int.dvd_refl _), ← Int.add_emod]
  rw [this, show ((d : Int) - 6 + 6 * (N : Int)) + (6 - (d : Int)) = 6 * (N : Int) by omega]
  exact Int.mul_emod_left 6 (N : Int)
theorem Turned.good {s x : ByteArray} {N : Nat} (h : Turned s N x) (hs : s.size = N) (h1 : 1 ≤ N) (hb : allBits s = true) : x.size = N ∧ allBits x = true ∧ (shTo s x N 12).2 = 0 ∧ sliceS x (rotAt (shTo s x N 12).1 N) N = s := by
  obtain ⟨p, j, hj, rfl, hp⟩ := h
  have := turned_back (s := s) (x := sliceS s p N) (n := N) (p := p) hs h1 rfl hj hp
  exact ⟨sliceS_size _ _ _, slice_bits hb (by omega) _ _, this.1, this.2⟩
theorem revs_mk {L : List ByteArray} {N : Nat} (h1 : 1 ≤ L.length) (h5 : L.length ≤ 5) (hN1 : 1 ≤ N) (hN2 : N ≤ 512) (hr : revLen L = N) (h : ∀ x ∈ L, x.size = N ∧ allBits x = true) : revsOk L = true := by
  refine revs_yes (inB_mk (by omega) (by omega)) fun j x hx => ?_
  obtain ⟨a, b⟩ := h x (List.mem_of_getElem? hx)
  unfold revOk
  rw [valid_mk b (by omega) (by omega), hr, decide_eq_true a]
  rfl
set_option maxRecDepth 20000 in
set_option maxHeartbeats 8000000 in
theorem FnAligned_walk (A0 : Option Addr) (cap0 : Nat) (l0 : List UInt8) (w : World) (s0 : ArgS w A0 l0.length cap0 1 (Lib.byteCells l0)) (A1 : Option Addr) (cap1 : Nat) (l1 : List UInt8) (s1 : ArgS w A1 l1.length cap1 1 (Lib.byteCells l1)) :
    Calls Tryd.prog 3 #[.slice A0 l0.length cap0, .slice A1 l1.length cap1] w fun e w' => e = .returned (.bool true) ∧ Below w.heap.size w w' := by
  obtain ⟨i0, hti, hz0, hz1, hz2⟩ := info_parts Tryd.info_Str
  obtain ⟨n, hn⟩ : ∃ n, l0.length = n := ⟨_, rfl⟩
  obtain ⟨m, hm⟩ : ∃ m, l1.length = m := ⟨_, rfl⟩
  rw [hn] at s0 ⊢
  rw [hm] at s1 ⊢
  have HS0 := Hid.in_ s0
  have HS1 := Hid.in_ s1
  clear s0 s1 hn hm
  by_cases hn1 : (1048576 : Int) < (n : Int)
  · go_enter Tryd.func3, Tryd.ntmps3
    go_wp2
    go_ret
    exact ⟨rfl, Below.refl _ _⟩
  by_cases hm1 : (1048576 : Int) < (m : Int)
  · go_enter Tryd.func3, Tryd.ntmps3
    go_wp2
    go_ret
    exact ⟨rfl, Below.refl _ _⟩
  go_enter Tryd.func3, Tryd.ntmps3
  go_wp2_with fail
  refine (spec_E8Cells w HS0.out (by omega)).mono ?_
  rintro e w1 ⟨l, f, rfl, hl1, hl2, hl3, hf1, hf2, hb1⟩
  have hsz := size_mkB l
  have hbt : allBits (⟨l.toArray⟩ : ByteArray) = true := by unfold allBits; rw [List.toList_toArray]; exact hl1
  generalize (⟨l.toArray⟩ : ByteArray) = s at *
  obtain ⟨N, hN⟩ : ∃ N, s.size = N := ⟨_, rfl⟩
  have hN1 : 1 ≤ N := by omega
  have hN2 : N ≤ 512 := by omega
  have HV := Hid.in_ (valid_mk hbt (by omega) (by omega))
  have HBT := Hid.in_ hbt
  have HNS := Hid.in_ hN
  have HRO := Hid.in_ (fun (k : Nat) (w : World) (hk : k < N) => show Calls Tryd.prog 7 #[.string s, .int .i64 k] w fun e w' => e = .returned (.tuple #[.string (sliceS s k N), .bool true]) ∧ Below w.heap.size w w' from by
    rw [← hN] at hk ⊢
    exact spec_RotateCells s k w HV.out hk)
  have HI0 := Hid.in_ (show (w1.alloc (.cells #[.string s] 9)).ownsRow w.heap.size 9 1 (.slice (some ⟨w1.heap.size, 0, none⟩) 1 1) 1 (Strs [s]) from World.ownsRow_lit w1 #[.string s] 1 hb1.size (by decide) rfl)
  have HB1 := Hid.in_ (balloc hb1 (.cells #[.string s] 9))
  clear hl1 hl2 hl3 hsz hbt hb1 hf1 hf2
  go_wp2_with fail
  go_loopg [8, 9] 3 (fun m v i wr => ∃ k : Nat, k + m = 3 ∧ i = .int .i64 k ∧ ∃ L : List ByteArray, Hid (L.length = k + 1 ∧ L[0]? = some s ∧ (∀ x ∈ L, Turned s N x) ∧ wr.ownsRow w.heap.size 9 1 v (k + 1) (Strs L)) ∧ Hid (Below w.heap.size w wr))
  case atStart => exact ⟨0, by omega, rfl, [s], ⟨rfl, rfl, (fun x hx => by rw [List.mem_singleton] at hx; subst hx; exact Turned.self HNS.out hN1), HI0.out⟩, HB1⟩
  case round =>
    clear HI0 HB1
    obtain ⟨k, hkm, rfl, L, HI, HB⟩ := hrel
    have HK := Hid.in_ hkm
    clear hkm
    by_cases hlt : k < 3
    · obtain ⟨q, hq⟩ : ∃ q, 2 * k = q := ⟨_, rfl⟩
      have hqk : 2 * (k : Int) = (q : Int) := by omega
      have hq4 : q ≤ 4 := by omega
      have hlti : (k : Int) < 3 := by omega
      clear hq
      go_wp2_with fail
      refine (show Calls Tryd.prog 6 #[.slice A1 m cap1, .int .i64 q, .int .i64 13] wr _ from laws_d8At q 13 wr (HS1.out.below HB.out) (by omega) (by omega) (by omega) (by omega)).mono ?_
      rintro e w2 ⟨d, rfl, hd, rfl⟩
      obtain ⟨p, hp⟩ : ∃ p : Nat, ((d : Int) - 6 + 6 * (N : Int)) % (N : Int) = (p : Int) := Int.eq_ofNat_of_zero_le (Int.emod_nonneg _ (by omega))
      have hpN : p < N := by have := Int.emod_lt_of_pos ((d : Int) - 6 + 6 * (N : Int)) (show 0 < (N : Int) by omega); omega
      have hpt : ((d : Int) - 6 + 6 * (N : Int)).tmod (N : Int) = (p : Int) := by rw [Int.tmod_eq_emod_of_nonneg (by omega)]; exact hp
      have HTU := Hid.in_ (Turned.mk' (s := s) hd hN1 hp)
      go_wp2_with fail
      refine (HRO.out p _ hpN).mono ?_
      rintro e w2 ⟨rfl, hb2⟩
      have HI2 := Hid.in_ (ostep hb2 HI.out.2.2.2)
      have HB2 := Hid.in_ (bstep HB.out hb2)
      clear hb2 hp hpt
      generalize sliceS s p N = X at *
      go_wp2_with (at_builtin; refine wpList_append_own _ rfl _ _ 25 rfl w.heap.size 9 i0 (.string ⟨#[]⟩) 1 16 Tryd.underlying25 hti hz0 hz1 hz2 rfl (by decide) _ _ _ rfl (HI2.out.alloc _) ⟨w2.heap.size, 0, none⟩ 1 1 [.string X] rfl rfl (cell_one_new _ _ _) (fun x hx => by simp at hx; subst hx; rfl) (by unfold maxLen; omega) (by omega) (balloc HB2.out _).size ?_; intro v6 w6 ho6 hg6 _)
      have HB6 := Hid.in_ (bgrown (balloc HB2.out _) (HI2.out.alloc _) (Nat.le_refl _) hg6)
      have HI6 := Hid.in_ (show (L ++ [X]).length = k + 1 + 1 ∧ (L ++ [X])[0]? = some s ∧ (∀ x ∈ L ++ [X], Turned s N x) ∧ w6.ownsRow w.heap.size 9 1 v6 (k + 1 + 1) (Strs (L ++ [X])) from by
        obtain ⟨h1, h2, h3, _⟩ := HI.out
        refine ⟨by rw [List.length_append, h1]; rfl, by rw [List.getElem?_append_left (by omega)]; exact h2, fun x hx => ?_, by rw [Strs_append]; exact ho6⟩
        rw [List.mem_append, List.mem_singleton] at hx
        rcases hx with hx | rfl
        · exact h3 x hx
        · exact HTU.out)
      clear ho6 hg6
      have hk := HK.out
      go_roundg (gk - 1)
      case measure => omega
      case rel => exact ⟨k + 1, by omega, by go_num, _, HI6, HB6⟩
    · have hk := HK.out
      obtain rfl : k = 3 := by omega
      obtain ⟨h4, hL0, hLT, hrow⟩ := HI.out
      have hG := fun x hx => (hLT x hx).good HNS.out hN1 HBT.out
      have hrl : revLen L = N := by
        obtain ⟨s0, hs0, hz⟩ := head_get (l := L) (by omega)
        rw [hL0] at hs0
        injection hs0 with hs0
        rw [← hz, ← hs0, HNS.out]
      have hok := revs_mk (L := L) (N := N) (by omega) (by omega) hN1 hN2 hrl (fun x hx => ⟨(hG x hx).1, (hG x hx).2.1⟩)
      have HAC := Hid.in_ (show alignC L 6 = 0 ∧ alignV L 6 = L.map fun _ => s from by
        refine ⟨by unfold alignC; rw [hok]; rfl, ?_⟩
        unfold alignV alignOk
        rw [hok, show (true && inB 6 0 40) = true from by decide, if_pos rfl, hrl]
        refine List.map_congr_left fun x hx => ?_
        unfold alignF
        rw [head_at hL0]
        exact (hG x hx).2.2.2)
      have HG := Hid.in_ hG
      have HROW := Hid.in_ hrow
      have HAL := Hid.in_ (impl_AlignRevolutions 6 wr hrow (fun x hx => by have := (hG x hx).1; omega) (by omega))
      rw [HAC.out.1, HAC.out.2] at HAL
      have HBS := Hid.in_ (fun (x : ByteArray) (w : World) (hx : x ∈ L) => show Calls Tryd.prog 9 #[.string s, .string x, .int .i64 6] w fun e w' => ∃ sh : Int, e = .returned (.tuple #[.int .i64 sh, .int .i64 0, .int .i64 0]) ∧ Below w.heap.size w w' from by
        obtain ⟨g1, g2, g3, g4⟩ := hG x hx
        refine (impl_BestShift s x 6 w (by rw [HNS.out]; omega) (by omega)).mono fun e w' ⟨he, hb⟩ => ?_
        have hok2 : revsOk [s, x] = true := revs_mk (N := N) (by simp) (by simp) hN1 hN2 HNS.out (fun y hy => by
          rcases List.mem_cons.1 hy with rfl | hy
          · exact ⟨HNS.out, HBT.out⟩
          · rw [List.mem_singleton] at hy; subst hy; exact ⟨g1, g2⟩)
        refine ⟨(shTo s x N 12).1, ?_, hb⟩
        rw [he]
        unfold bsEnd
        rw [if_pos hok2, if_pos (by decide), HNS.out, show (2 * (6 : Int).toNat) = 12 from rfl, g3]
        rfl)
      have HX := Hid.in_ (show ∀ k, k < 4 → ∃ x, L[k]? = some x ∧ x ∈ L from fun k hk => by
        obtain ⟨x, hx⟩ := get_lt L k (by omega)
        exact ⟨x, hx, List.mem_of_getElem? hx⟩)
      have HL4 := Hid.in_ h4
      obtain ⟨A8, c8, rfl, _, _, hA8⟩ := own_shape hrow
      have HA8 := Hid.in_ hA8
      clear h4 hL0 hLT hrow hG hrl hok hA8 HI HRO
      go_wp2_with fail
      refine HAL.out.mono ?_
      rintro e w2 ⟨v2, rfl, ho2, hb2⟩
      rw [List.length_map, HL4.out] at ho2
      obtain ⟨A9, c9, rfl, _, _, hA9⟩ := own_shape ho2
      have HA9 := Hid.in_ hA9
      have HB2 := Hid.in_ (bstep HB.out hb2)
      have HB02 := Hid.in_ hb2
      clear ho2 hA9 hb2 HAL
      go_wp2_with fail
      go_loopg [15] 4 (fun m i wi => ∃ q : Nat, q + m = 4 ∧ i = .int .i64 q ∧ Hid (Below w2.heap.size w2 wi))
      case atStart => exact ⟨0, by omega, rfl, Below.refl _ _⟩
      case round =>
        obtain ⟨q, hqm, rfl, HI⟩ := hrel
        have HQ := Hid.in_ hqm
        clear hqm
        by_cases hlq : q < 4
        · obtain ⟨x, hx, hxm⟩ := HX.out q hlq
          obtain ⟨g8, rfl, _, hg8, hx8, _⟩ := HA8.out (by omega)
          obtain ⟨g9, rfl, _, hg9, hx9, _⟩ := HA9.out (by omega)
          have c0 := ((Box.step HB02.out hx8).step HI.out) q _ (Strs_get hx)
          have HC9 := Hid.in_ ((Box.step HI.out hx9) q _ (Strs_get (show (L.map fun _ => s)[q]? = some s by rw [List.getElem?_map, hx]; rfl)))
          have hlqi : (q : Int) < 4 := by omega
          clear hx8 hx9 hx
          go_wp2_with fail
          refine (HBS.out x _ hxm).mono ?_
          rintro e w3 ⟨sh, rfl, hb3⟩
          have c1 := cstep hb3 HC9.out
          have HI3 := Hid.in_ (bstep HI.out hb3)
          clear hb3 c0
          go_wp2
          have hq := HQ.out
          go_roundg (gk - 1)
          case measure => omega
          case rel => exact ⟨q + 1, by omega, by go_num, HI3⟩
        · have hq := HQ.out
          obtain rfl : q = 4 := by omega
          have HBE := Hid.in_ (HB2.out.trans (HI.out.mono HB2.out.size))
          go_wp2
          go_ret
          exact ⟨rfl, HBE.out⟩

set_option maxRecDepth 100000 in
theorem FnAligned_contract (H : Type) (enc : TypeId × Value → H) (W : World) (base : Nat) (args : Array Value) (ds gs : List (DataW H)) (before : List MemPlace)
    (hval : ∀ (j : Nat) t v, Tryd.f3.params[j]? = some t → args[j]? = some v → Value.okWide Tryd.prog W .any base t v)
    (hW : DataW.Whole enc Tryd.prog Tryd.f3.params.toList Rows.fnAlignedSpec.vars false W args.toList ds gs before) (hL : laidMetH Tryd.prog Rows.fnAlignedRow.laid W) :
    Calls Tryd.prog 3 args W fun e W' => ∃ v, e = .returned v ∧ Rows.fnAlignedSpec.post enc Tryd.prog Tryd.f3 false true false false W args v W' := by
  have hW' := hW
  obtain ⟨p, q, hA0, hV, hbe, hfz, hnd⟩ := hW
  have hA : DataW.TrodAll enc Tryd.prog W 0 (fun _ => true) true Tryd.f3.params.toList args.toList ds p := hA0
  rw [Tryd.params3] at hA hval
  obtain ⟨v0, vs0, d0, ds0, p0, q0, hargs, rfl, rfl, h0, r0⟩ := trodAll_cons hA
  obtain ⟨v1, vs1, d1, ds1, p1, q1, rfl, rfl, rfl, h1, r1⟩ := trodAll_cons r0
  obtain ⟨rfl, rfl, rfl⟩ := trodAll_nil r1
  obtain rfl : args = #[v0, v1] := by cases args; simp_all
  obtain ⟨rfl, _⟩ := trodVars_none hV
  obtain ⟨A0, cap0, l0, rfl, s0⟩ := slice_U8 (hval 0 22 v0 rfl rfl) h0
  obtain ⟨A1, cap1, l1, rfl, s1⟩ := slice_U8 (hval 1 22 v1 rfl rfl) h1
  clear hA0
  refine (FnAligned_walk A0 cap0 l0 W s0 A1 cap1 l1 s1).mono fun e W' ⟨he, hb⟩ => ?_
  subst he
  exact ⟨_, rfl, law_post Tryd.laidOut (by kernel_rfl) rfl Tryd.underlying4 rfl rfl hW' hb⟩

theorem FnAligned_laid (os : Os) : laidMet Tryd.prog Rows.fnAlignedRow.laid ((laidWorld Tryd.prog os Rows.fnAlignedRow.laid).forCall (fun _ _ => 0) ⟨#[], #[.slice none 0 0, .slice none 0 0], []⟩).memory := laidMet_of_run' 8 (by kernel_rfl) (by kernel_rfl)
theorem FnAligned_reads (os : Os) {H : Type} (enc : TypeId × Value → H) : (DataW.whole enc Tryd.prog ((laidWorld Tryd.prog os Rows.fnAlignedRow.laid).forCall (fun _ _ => 0) ⟨#[], #[.slice none 0 0, .slice none 0 0], []⟩).memory Tryd.f3.params.toList Rows.fnAlignedSpec.vars false #[.slice none 0 0, .slice none 0 0].toList 8).isSome = true := by kernel_rfl
set_option maxRecDepth 100000 in
theorem FnAligned_lifted (os : Os) (started : os.Started) (H : Type) (enc : TypeId × Value → H) (F : Stop.Interp) :
    ReturnsInHanded {} Tryd.checked os 3 .any ((OpenSpec.ofChange Rows.fnAlignedSpec).preRow enc Tryd.prog Tryd.f3 Rows.fnAlignedRow.domain false Rows.fnAlignedRow.laid) (((OpenSpec.ofChange Rows.fnAlignedSpec).at F).post enc Tryd.prog Tryd.f3 false true false false) := by
  have hx := (Option.some_get (FnAligned_reads os enc)).symm
  refine returnsInHanded_of_row (C := Tryd.checked) (s := OpenSpec.ofChange Rows.fnAlignedSpec) Tryd.own started (by kernel_rfl) Tryd.func3
    (witness_row_at (enc := enc) (C := Tryd.checked) false (laidWorld Tryd.prog os Rows.fnAlignedRow.laid) #[.slice none 0 0, .slice none 0 0] (laidWorld_os _ _ _) (by kernel_rfl) (by kernel_rfl) (by kernel_rfl)
      (OpenSpec.preRow_of_cond 8 hx rfl (fun k hk => by cases hk) (by kernel_rfl) (FnAligned_laid os))) ?_
  intro W base args ds gs before hval hW _ _ _ hL _ _
  exact FnAligned_contract H enc W base args ds gs before hval hW hL

theorem FnAligned_said : Rows.FnAlignedSaid :=
  OpenClaim.holds_of_cond 3 Tryd.f3 rfl rfl rfl rfl rfl rfl rfl ⟨rfl, rfl, rfl, rfl, rfl⟩ rfl rfl rfl rfl rfl (by kernel_rfl) Tryd.func3 (by kernel_rfl)
    (of_decide_eq_true (by kernel_rfl)) (by unfold Func.isWrapper; first | (rw [if_pos (by decide +kernel)]; kernel_rfl) | (rw [if_neg (by decide +kernel)]; exact ⟨rfl, rfl⟩))
    (fun os started H enc _ F => by rw [OpenClaim.pre_eq_preRow]; exact FnAligned_lifted os started H enc F)
theorem FnAligned_plain (f : FuncId) (fn : Func) (hf : Tryd.pinned.checked.prog.funcNamed Rows.fnAlignedRow.func = some f) (hfn : Tryd.pinned.checked.prog.funcs[f]? = some fn) :
    false = Tryd.pinned.checked.prog.looks [] ∧ ∀ (j : Nat) t, fn.params[j]? = some t → Tryd.pinned.checked.prog.wantsStandIn t = false := by
  obtain rfl : f = 3 := Option.some.inj ((show Tryd.prog.funcNamed Rows.fnAlignedRow.func = some 3 by kernel_rfl).symm.trans hf) |>.symm
  obtain rfl : fn = Tryd.f3 := (Option.some.inj (Tryd.func3.symm.trans hfn)).symm
  exact ⟨by kernel_rfl, fun j t ht => noStandIn (P := Tryd.prog) (fn := Tryd.f3) (by kernel_rfl) j t ht⟩
theorem FnAligned_proved : Rows.FnAlignedCardSaid :=
  Claim7.holds_tied_plain_at .later [] _ _ _ _ FnAligned_said (fun _ h => by cases h) (by kernel_rfl) (fun _ h => by cases h) fnAligned_row_tie rfl ⟨rfl, rfl⟩ (by kernel_rfl) rfl FnAligned_plain (by kernel_rfl)
#print axioms FnAligned_proved
end Go.Proofs.YtlelgpknkgjaeaaDoor
