/- 'AlignRevolutions' of the program and of the reference: each revolution turned by its best shift. -/
import Derived.Test.YtlelgpknkgjaeaaDoorShift
import Derived.Deep.AppendLies
import Derived.BigRegion
import Derived.Deep.RegionLaw
namespace Go.Proofs.YtlelgpknkgjaeaaDoor
open Go.ChangeShapes Go.WideShapes Go.ChangeAt Go.RowKit
set_option linter.unusedSimpArgs false
set_option linter.unusedVariables false
set_option maxRecDepth 20000

theorem ret2_sb4 {a b : ByteArray} {x y : Bool} (h : a = b) (k : x = y) : Ending.returned (.tuple #[.string a, .bool x]) = .returned (.tuple #[.string b, .bool y]) := by rw [h, k]
theorem rot_cut {s : ByteArray} {r : Nat} (h : r < s.size) : s.extract r s.size ++ s.extract 0 r = sliceS s r s.size := by
  by_cases h0 : r = 0
  · subst h0
    rw [← slice_one (s := s) (at_ := 0) (n := s.size) (by omega), Nat.zero_add]
    apply ba_ext
    rw [ByteArray.data_append, Array.toList_append, extract_list, extract_list]
    simp
  · have := slice_two (s := s) (at_ := r) (n := s.size) h (Nat.le_refl _) (by omega)
    rw [Nat.add_sub_cancel] at this
    exact this
set_option maxHeartbeats 1000000 in
theorem impl_RotateCells (s : ByteArray) (sh : Int) (w : World) (hv : validCells s = true) :
    Calls Tryd.prog 21 #[.string s, .int .i64 sh] w fun e w' => e = .returned (.tuple #[.string (sliceS s (rotAt sh s.size) s.size), .bool true]) ∧ Below w.heap.size w w' := by
  obtain ⟨v1, v2, _⟩ := valid_size hv
  have HC := Hid.in_ (impl_ValidCells s w (by omega))
  rw [hv] at HC
  obtain ⟨hr, hrl⟩ := rotAt_eq (sh := sh) (n := s.size) v1
  have HE := Hid.in_ (rot_cut hrl)
  generalize rotAt sh s.size = r at *
  have hno : ¬ ((s.extract r s.size).size + (s.extract 0 r).size > 9223372036854775807) := by rw [ByteArray.size_extract, ByteArray.size_extract]; omega
  go_enter Tryd.func21, Tryd.ntmps21
  go_wp2_with fail
  refine HC.out.mono ?_
  rintro e w1 ⟨rfl, hb1⟩
  go_wp2_with (go_at_call 25; refine (impl_modulo _ _ _ (by omega) (by omega)).mono ?_; rintro e w' ⟨rfl, rfl⟩)
  go_quiet (fail)
  go_wp2
  go_ret2
  exact ⟨ret2_sb4 HE.out rfl, below_drewN hb1 _⟩
theorem quiet_q {P : Program} {f : FuncId} {args : Array Value} {w : World} {n : Nat} {v : Value}
    (h : Calls P f args (w.drewN n) fun e w' => e = .returned v ∧ ∃ m, w' = (w.drewN n).drewN m) : Calls P f args (w.drewN n) fun e w'' => e = .returned v ∧ ∃ m, w'' = w.drewN m :=
  h.mono fun _ _ ⟨he, q, hq⟩ => ⟨he, _, hq.trans (drewN_add _ _ _)⟩
theorem quiet_add_q {P : Program} {f : FuncId} {args : Array Value} {w : World} {a n : Nat} {v : Value}
    (h : Calls P f args (w.drewN (a + n)) fun e w' => e = .returned v ∧ ∃ m, w' = (w.drewN (a + n)).drewN m) :
    Calls P f args (w.drewN (a + n)) fun e w'' => e = .returned v ∧ ∃ m, w'' = w.drewN (a + m) :=
  h.mono fun _ _ ⟨he, q, hq⟩ => ⟨he, n + q, hq.trans ((drewN_add _ _ _).trans (by rw [Nat.add_assoc]))⟩
def alignF (l : List ByteArray) (n m : Nat) (s : ByteArray) : ByteArray := sliceS s (rotAt (shTo (l.headD ⟨#[]⟩) s n (2 * m)).1 n) n
def alignTo (l : List ByteArray) (n m k : Nat) : List ByteArray := (l.take k).map (alignF l n m)
theorem alignTo_len {l : List ByteArray} {n m k : Nat} (h : k ≤ l.length) : (alignTo l n m k).length = k := by
  unfold alignTo
  rw [List.length_map, List.length_take]
  omega
theorem alignTo_next {l : List ByteArray} {n m k : Nat} {s : ByteArray} (h : l[k]? = some s) : alignTo l n m (k + 1) = alignTo l n m k ++ [alignF l n m s] := by
  unfold alignTo
  rw [take_snoc l k s h, List.map_append]
  rfl
def alignOk (l : List ByteArray) (k : Int) : Bool := revsOk l && inB k 0 40
def alignV (l : List ByteArray) (k : Int) : List ByteArray := if alignOk l k = true then l.map (alignF l (revLen l) k.toNat) else []
def alignC (l : List ByteArray) (k : Int) : Int := if revsOk l = true then (if inB k 0 40 = true then 0 else 2) else 1
theorem alignV_len (l : List ByteArray) (k : Int) : (alignV l k).length ≤ l.length := by
  unfold alignV
  split
  · rw [List.length_map]; exact Nat.le_refl _
  · exact Nat.zero_le _
theorem align_cases (l : List ByteArray) (k : Int) :
    (revsOk l = false ∧ Hid (alignV l k = [] ∧ alignC l k = 1)) ∨ (revsOk l = true ∧ inB k 0 40 = false ∧ Hid (alignV l k = [] ∧ alignC l k = 2)) ∨
    (revsOk l = true ∧ inB k 0 40 = true ∧ ∃ m : Nat, k = m ∧ m ≤ 40 ∧ Hid (alignV l k = alignTo l (revLen l) m l.length ∧ alignC l k = 0)) := by
  unfold Hid alignV alignC alignOk
  cases h1 : revsOk l
  · exact .inl ⟨rfl, rfl, rfl⟩
  cases h2 : inB k 0 40
  · exact .inr (.inl ⟨rfl, rfl, rfl, rfl⟩)
  · obtain ⟨k1, k2⟩ := inB_t h2
    obtain ⟨m, rfl⟩ := Int.eq_ofNat_of_zero_le k1
    refine .inr (.inr ⟨rfl, rfl, m, rfl, by omega, ?_, rfl⟩)
    unfold alignTo
    rw [List.take_length]
    rfl
theorem head_at {l : List ByteArray} {s0 : ByteArray} (h : l[0]? = some s0) : l.headD ⟨#[]⟩ = s0 := by
  cases l with
  | nil => simp at h
  | cons x l => simp at h; exact h
theorem valid_in {l : List ByteArray} (h : revsOk l = true) {s : ByteArray} (hs : s ∈ l) : validCells s = true := by
  unfold revsOk at h
  rw [Bool.and_eq_true, List.all_eq_true] at h
  have := h.2 s hs
  unfold revOk at this
  rw [Bool.and_eq_true] at this
  exact this.1
theorem tmod_rot {sh : Int} {N : Nat} (h : 1 ≤ N) : -(N : Int) < sh.tmod (N : Int) ∧ sh.tmod (N : Int) < N ∧ (sh.tmod (N : Int) + N) % (N : Int) = (rotAt sh N : Nat) := by
  have hb1 := Int.lt_tmod_of_pos sh (show 0 < (N : Int) by omega)
  refine ⟨by omega, Int.tmod_lt_of_pos sh (by omega), ?_⟩
  have hE0 : (sh.tmod (N : Int) + N) % (N : Int) = sh % (N : Int) := by
    have h2 : sh = (N : Int) * sh.tdiv N + sh.tmod N := (Int.mul_tdiv_add_tmod sh N).symm
    conv => rhs; rw [h2]
    rw [Int.add_emod_right, Int.mul_add_emod_self_left]
  exact hE0.trans (rotAt_eq (sh := sh) (n := N) (by omega)).1
theorem alignTo_get {l : List ByteArray} {n m k : Nat} {s : ByteArray} (h : l[k]? = some s) : (alignTo l n m l.length)[k]? = some (alignF l n m s) := by
  unfold alignTo
  rw [List.take_length, List.getElem?_map, h]
  rfl
set_option maxHeartbeats 2000000 in
theorem impl_AlignRevolutions {v : Value} {n b : Nat} {l : List ByteArray} (k : Int) (w : World) (h : w.ownsRow b 9 1 v n (Strs l)) (hk : ∀ s ∈ l, s.size ≤ 9223372036854775807) (hn : n ≤ 1048576) :
    Calls Tryd.prog 8 #[v, .int .i64 k] w fun e w' => ∃ v', e = .returned (.tuple #[v', .int .i64 (alignC l k)]) ∧ w'.ownsRow w.heap.size 9 1 v' (alignV l k).length (Strs (alignV l k)) ∧ Below w.heap.size w w' := by
  obtain ⟨i0, hti, hz0, hz1, hz2⟩ := info_parts Tryd.info_Str
  have hlx : l.length = n := by have := h.1; rw [Strs_len] at this; omega
  have HC := Hid.in_ (impl_ValidRevolutions w h hk)
  obtain ⟨A, c, rfl, _, _, hA⟩ := own_shape h
  have HL := Hid.in_ hlx
  have H1 := Hid.in_ hA
  clear hA h hlx hk
  obtain ⟨h1, HV⟩ | ⟨h1, h2, HV⟩ | ⟨hr, h2, m, rfl, hm, HV⟩ := align_cases l k
  · rw [h1] at HC
    go_enter Tryd.func8, Tryd.ntmps8
    go_wp2_with (go_at_call 18; refine HC.out.mono ?_; rintro e w1 ⟨rfl, hb1⟩)
    go_ret2
    rw [HV.out.1, HV.out.2]
    exact ⟨_, rfl, World.ownsRow_nil _ _ _ _, hb1⟩
  · rw [h1] at HC
    go_enter Tryd.func8, Tryd.ntmps8
    go_wp2_with (first | (go_at_call 18; refine HC.out.mono ?_; rintro e w1 ⟨rfl, hb1⟩) | (go_at_call 19; refine (bool_is (impl_within _ _ _ _) (by assumption)).mono ?_; rintro e w' ⟨rfl, rfl⟩))
    go_ret2
    rw [HV.out.1, HV.out.2]
    exact ⟨_, rfl, World.ownsRow_nil _ _ _ _, hb1⟩
  · obtain ⟨r1, r2, r3, r4, r5⟩ := revs_at hr
    rw [HL.out] at r1 r2
    have HZ := Hid.in_ (show ∀ s ∈ l, s.size = revLen l ∧ validCells s = true from fun s hs => ⟨(r5 s hs).1, valid_in hr hs⟩)
    rw [hr] at HC
    clear hr r5
    obtain ⟨g, rfl, _, hg, hx, _⟩ := H1.out (by omega)
    obtain ⟨s0, hs0, hz0'⟩ := head_get (l := l) (by rw [HL.out]; omega)
    have HX := Hid.in_ hx
    have HS0 := Hid.in_ hs0
    have HH := Hid.in_ (head_at hs0)
    have hsz0 := (HZ.out s0 (List.mem_of_getElem? hs0)).1
    clear hx hs0 hz0'
    obtain ⟨N, hN⟩ : ∃ N, revLen l = N := ⟨_, rfl⟩
    rw [hN] at hsz0 r3 r4 HV HZ
    clear hN
    obtain ⟨M, hM⟩ : ∃ M, alignTo l N m l.length = M := ⟨_, rfl⟩
    have HMG := Hid.in_ (fun (k : Nat) (s : ByteArray) (h : l[k]? = some s) => alignTo_get (n := N) (m := m) h)
    have HML := Hid.in_ (show M.length = n by rw [← hM, alignTo_len (Nat.le_refl _), HL.out])
    rw [hM] at HV HMG
    clear hM
    go_enter Tryd.func8, Tryd.ntmps8
    go_wp2_with fail
    refine HC.out.mono ?_
    rintro e w1 ⟨rfl, hb1⟩
    have HB1 := Hid.in_ hb1
    clear hb1
    go_wp2_with (first | (go_at_call 19; refine (bool_is (impl_within _ _ _ _) (by assumption)).mono ?_; rintro e w' ⟨rfl, rfl⟩) | (at_make; refine wpList_make_full _ rfl _ _ _ rfl w.heap.size 9 i0 _ 1 Tryd.underlying25 hti hz0 hz1 _ _ _ _ n rfl rfl rfl rfl (by rw [hz2]; omega) (by unfold maxLen; omega) HB1.out.size ?_; intro w2 hown hgrow))
    obtain ⟨G, hG⟩ : ∃ G, w1.heap.size = G := ⟨_, rfl⟩
    have HO : Hid (w2.ownsRow w.heap.size 9 1 (.slice (some ⟨w1.heap.size, 0, none⟩) n n) n (Strs (fillR M ⟨#[]⟩ 0)) ∧ Below w.heap.size w w2) := by
      refine ⟨?_, HB1.out.grown hgrow HB1.out.size (by simp)⟩
      rw [fillR_none, HML.out, ← strs_flat, ← made_flat StrC.len ⟨#[]⟩ n]
      exact hown
    have HGB := Hid.in_ (show w.heap.size ≤ G by rw [← hG]; exact HB1.out.size)
    rw [hG] at HO ⊢
    clear hown hgrow hG
    go_loopg [22] n (fun t i wr => ∃ k : Nat, k + t = n ∧ i = .int .i64 k ∧ Hid (wr.ownsRow w.heap.size 9 1 (.slice (some ⟨G, 0, none⟩) n n) n (Strs (fillR M ⟨#[]⟩ k)) ∧ Below w.heap.size w wr))
    case atStart => exact ⟨0, by omega, rfl, HO⟩
    case round =>
      clear HO
      obtain ⟨k, hkm, rfl, HO⟩ := hrel
      have HK := Hid.in_ hkm
      clear hkm
      by_cases hlt : k < n
      · obtain ⟨s, hs⟩ := get_lt l k (by rw [HL.out]; exact hlt)
        have c0 := (HX.out.step HO.out.2) 0 _ (Strs_get HS0.out)
        have c1 := (HX.out.step HO.out.2) k _ (Strs_get hs)
        obtain ⟨hsz, hval⟩ := HZ.out s (List.mem_of_getElem? hs)
        have HSH := Hid.in_ (fun w => impl_bestShift s0 s N m w hsz0 hsz r3 r4 hm)
        have HROT := Hid.in_ (fun w => show Calls Tryd.prog 21 #[.string s, .int .i64 (shTo s0 s N (2 * m)).1] w fun e w' => e = .returned (.tuple #[.string (alignF l N m s), .bool true]) ∧ Below w.heap.size w w' from by
          have h := impl_RotateCells s (shTo s0 s N (2 * m)).1 w hval
          rw [hsz] at h
          unfold alignF
          rw [HH.out]
          exact h)
        have HMK := Hid.in_ (HMG.out k s hs)
        generalize alignF l N m s = z at *
        generalize (shTo s0 s N (2 * m)).1 = X at *
        generalize (shTo s0 s N (2 * m)).2 = Y at *
        clear hs hval
        go_wp2_with fail
        refine (HSH.out _).mono ?_
        rintro e w3 ⟨rfl, hb3⟩
        have HO3 := Hid.in_ (And.intro (own_below HO.out.1 hb3 (Nat.le_refl _)) (HO.out.2.trans (hb3.mono HO.out.2.size)))
        clear hb3 c0 c1 HO
        go_wp2_with fail
        refine (HROT.out _).mono ?_
        rintro e w4 ⟨rfl, hb4⟩
        have HO4 := Hid.in_ (And.intro (own_below HO3.out.1 hb4 (Nat.le_refl _)) (HO3.out.2.trans (hb4.mono HO3.out.2.size)))
        clear hb4 HO3
        have hlen : k < (fillR M (⟨#[]⟩ : ByteArray) k).length := by rw [fillR_len _ _ _ (by rw [HML.out]; omega), HML.out]; exact hlt
        obtain ⟨y, hy⟩ := get_lt _ k hlen
        have f1 := HO4.out.1.cellAt k (by omega)
        rw [Strs_get hy] at f1
        have f2 := HO4.out.1.frozenAt k
        have HO5 : Hid ((w4.setCell ⟨G, k, none⟩ (.string z)).ownsRow w.heap.size 9 1 (.slice (some ⟨G, 0, none⟩) n n) n (Strs (fillR M ⟨#[]⟩ (k + 1))) ∧ Below w.heap.size w (w4.setCell ⟨G, k, none⟩ (.string z))) := by
          have h1 := HO4.out.1.stored k (.string z)
          rw [Strs_set, fillR_set HMK.out] at h1
          exact ⟨h1.1, HO4.out.2.setCell HGB.out _⟩
        clear HO4 hy hlen
        go_wp2
        have hk := HK.out
        go_roundg (gk - 1)
        case measure => omega
        case rel => exact ⟨k + 1, by omega, by go_num, HO5⟩
      · have hk := HK.out
        obtain rfl : k = n := by omega
        have hO := HO.out
        have hfa := fillR_all M (⟨#[]⟩ : ByteArray)
        rw [HML.out] at hfa
        rw [hfa] at hO
        have HO3 := Hid.in_ hO
        clear hO hfa
        go_wp2
        go_ret2
        rw [HV.out.1, HV.out.2, HML.out]
        exact ⟨_, rfl, HO3.out.1, HO3.out.2⟩
end Go.Proofs.YtlelgpknkgjaeaaDoor
