/- 'FnMarks': for every input the law returns true, and each argument reads behind the call as it read before. No condition. -/
import Derived.Test.YtlelgpknkgjaeaaGreatDoorMMk
import Derived.Test.YtlelgpknkgjaeaaGreatDoorE8
import Derived.Test.YtlelgpknkgjaeaaGreatDoorCards
import Derived.Test.YtlelgpknkgjaeaaGreatDoorTie
namespace Go.Proofs.YtlelgpknkgjaeaaGreatDoor
open Go.ChangeShapes Go.WideShapes Go.ChangeAt Go.RowKit
open Go.ChangeMaps (open_string shut_string)
set_option linter.unusedVariables false
theorem size_mkB (l : List UInt8) : (⟨l.toArray⟩ : ByteArray).size = l.length := by show l.toArray.size = _; simp
theorem valid_mk {s : ByteArray} (h : allBits s = true) (h1 : 1 ≤ s.size) (h2 : s.size ≤ 512) : validCells s = true := by
  unfold validCells cellStr
  rw [isEmpty_size, decide_eq_false (by omega), h, decide_eq_true (by omega)]
  rfl
theorem turn_slice {s : ByteArray} {n p : Nat} (hs : s.size = n) (hp : p < n) : Turn s (sliceS s p n) n p :=
  ⟨hs, sliceS_size _ _ _, hp, fun j hj => by rw [byteAt_slice hj, hs]⟩
theorem turn_bits {s : ByteArray} {b n : Nat} (h : allBits s = true) (h0 : 0 < s.size) : allBits (sliceS s b n) = true := by
  have hd : s.data.toList.length = s.size := Array.length_toList
  unfold allBits at *
  unfold sliceS
  show List.all (sliceL s.data.toList b n).toArray.toList isBit = true
  rw [List.toList_toArray, List.all_eq_true]
  intro c hc
  unfold sliceL at hc
  rw [List.mem_map] at hc
  obtain ⟨j, _, rfl⟩ := hc
  have hm : (b + j) % s.data.toList.length < s.data.toList.length := Nat.mod_lt _ (by rw [hd]; exact h0)
  rw [List.getD_eq_getElem?_getD, List.getElem?_eq_getElem hm]
  rw [List.all_eq_true] at h
  exact h _ (List.getElem_mem hm)
def eqM (x m : MarkR) : Bool := decide (x.k = m.k) && decide (x.a = m.a) && decide (x.b = m.b)
theorem eqM_self (m : MarkR) : eqM m m = true := by simp [eqM]
def anyTo (l : List MarkR) (m : MarkR) (k : Nat) : Bool := (l.take k).any fun x => eqM x m
theorem anyTo_next {l : List MarkR} {m x : MarkR} {k : Nat} (h : l[k]? = some x) : anyTo l m (k + 1) = (anyTo l m k || eqM x m) := by
  unfold anyTo; rw [List.take_add_one, h, List.any_append]; simp
theorem anyTo_all {l : List MarkR} {m : MarkR} {n : Nat} (h : m ∈ l) (hn : l.length ≤ n) : anyTo l m n = true := by
  unfold anyTo
  rw [List.take_of_length_le hn]
  exact List.any_eq_true.2 ⟨m, h, eqM_self m⟩
def okPat (f k : Int) : Bool := validCells (patM f k)
theorem okPat_all : okPat 1 1 = true ∧ okPat 1 2 = true ∧ okPat 1 3 = true ∧ okPat 2 1 = true ∧ okPat 2 2 = true ∧ okPat 2 3 = true := by decide +kernel
def patSmall (f k : Int) : Bool := decide ((patM f k).size ≤ 64)
theorem patSmall_all : patSmall 1 1 = true ∧ patSmall 1 2 = true ∧ patSmall 1 3 = true ∧ patSmall 2 1 = true ∧ patSmall 2 2 = true ∧ patSmall 2 3 = true := by decide +kernel
theorem mark_mc {s : ByteArray} {f : Int} {m : MarkR} (v1 : 0 < s.size) (hf : inB f 1 3 = true) (hm : m ∈ marksV s f) : mcOk f m.k = true := by
  obtain ⟨k1, k2, _⟩ := marksV_mem v1 hm
  unfold mcOk
  rw [hf, inB_mk k1 k2]
  rfl
theorem mark_small {s : ByteArray} {f : Int} {m : MarkR} (v1 : 0 < s.size) (hf : f = 1 ∨ f = 2) (hm : m ∈ marksV s f) : (mcV f m.k).size ≤ 64 := by
  have hfi : inB f 1 3 = true := inB_mk (by omega) (by omega)
  obtain ⟨k1, k2, _⟩ := marksV_mem v1 hm
  have hmc : mcV f m.k = patM f m.k := by
    unfold mcV
    rw [if_pos (mark_mc v1 hfi hm)]
    rfl
  have : m.k = 1 ∨ m.k = 2 ∨ m.k = 3 := by omega
  obtain ⟨a1, a2, a3, b1, b2, b3⟩ := patSmall_all
  rw [hmc]
  refine of_decide_eq_true (p := (patM f m.k).size ≤ 64) ?_
  rcases hf with rfl | rfl <;> rcases this with e | e | e <;> rw [e] <;> assumption
theorem mark_nat {s : ByteArray} {n : Nat} {f : Int} {m : MarkR} (hs : s.size = n) (h1 : 0 < n) (hm : m ∈ marksV s f) : ∃ j jb : Nat, m.a = j ∧ m.b = jb ∧ j < n ∧ jb < n := by
  obtain ⟨_, _, a1, a2, b1, b2⟩ := marksV_mem (by omega) hm
  obtain ⟨j, hj⟩ := Int.eq_ofNat_of_zero_le a1
  obtain ⟨jb, hb⟩ := Int.eq_ofNat_of_zero_le b1
  exact ⟨j, jb, hj, hb, by omega, by omega⟩
theorem mark_found {s : ByteArray} {f : Int} {m : MarkR} (hv : validCells s = true) (hf : f = 1 ∨ f = 2) (hm : m ∈ marksV s f) : m.a ∈ findV s (mcV f m.k) := by
  have hfi : inB f 1 3 = true := inB_mk (by omega) (by omega)
  have v1 := (valid_size hv).1
  obtain ⟨k1, k2, _⟩ := marksV_mem v1 hm
  have hmc : mcV f m.k = patM f m.k := by
    unfold mcV mcOk patM
    rw [hfi, inB_mk k1 k2]
    rfl
  have hko : validCells (patM f m.k) = true := by
    have : m.k = 1 ∨ m.k = 2 ∨ m.k = 3 := by omega
    obtain ⟨a1, a2, a3, b1, b2, b3⟩ := okPat_all
    rcases hf with rfl | rfl <;> rcases this with e | e | e <;> rw [e] <;> assumption
  rw [hmc]
  have hm2 : m ∈ kindL s (patM f m.k) m.k := by
    unfold marksV at hm
    have hm := (insM_perm _).mem_iff.1 hm
    rw [if_neg (by omega)] at hm
    unfold rawM at hm
    rcases List.mem_append.1 hm with h | h
    · rcases List.mem_append.1 h with h | h
      · rw [(kindL_mem2 v1 h).1]; exact h
      · rw [(kindL_mem2 v1 h).1]; exact h
    · rw [(kindL_mem2 v1 h).1]; exact h
  by_cases hp : (patM f m.k).size ≤ s.size
  · obtain ⟨j, e, hj, hfit⟩ := kindL_mem hm2
    unfold findV findOk
    rw [hv, hko, decide_eq_true hp, if_pos (show (true && (true && true)) = true from rfl)]
    have ea : m.a = (j : Int) := by rw [e]; rfl
    rw [ea]
    exact placesTo_in hfit hj
  · rw [kindL_long (by omega)] at hm2
    cases hm2
/-- 'd8Has' of the laws. -/
def hasTo (l : List Int) (x : Int) (k : Nat) : Prop := ∀ j y, j < k → l[j]? = some y → y ≠ x
theorem laws_d8Has {v : Value} {n b : Nat} {l : List Int} (x : Int) (w : World) (h : w.ownsRow b 2 1 v n (I64 l)) (hx : x ∈ l) :
    Calls Tryz.prog 31 #[v, .int .i64 x] w fun e w' => e = .returned (.bool true) ∧ w = w' := by
  have hlx : l.length = n := by have := h.1; rw [I64_len] at this; omega
  obtain ⟨A, c, rfl, _, hn, hA⟩ := own_shape h
  have HL := Hid.in_ hlx
  have H1 := Hid.in_ hA
  have HX := Hid.in_ hx
  clear hA h hlx hx
  go_enter Tryz.func31, Tryz.ntmps31
  go_wp2_with fail
  go_loopg [5] n (fun m i wr => ∃ k : Nat, k + m = n ∧ i = .int .i64 k ∧ Hid (hasTo l x k) ∧ w = wr)
  case atStart => exact ⟨0, by omega, rfl, fun j y hj => by omega, rfl⟩
  case round =>
    obtain ⟨k, hkm, rfl, HB, rfl⟩ := hrel
    have HK := Hid.in_ hkm
    clear hkm
    by_cases hlt : k < n
    · obtain ⟨g, rfl, _, hg, hxx, _⟩ := H1.out (by omega)
      obtain ⟨m, hm⟩ := get_lt l k (by rw [HL.out]; exact hlt)
      have c0 : w.cell? ⟨g, k, none⟩ = some (.int .i64 m) := hxx k _ (I64_get hm)
      have HM := Hid.in_ hm
      clear hm hxx
      by_cases he : m = x
      · subst he
        go_wp2
        go_ret
        exact ⟨rfl, rfl⟩
      · go_wp2
        have hk := HK.out
        go_roundg (gk - 1)
        case measure => omega
        case rel => exact ⟨k + 1, by omega, by go_num, fun j y hj hy => by
          rcases Nat.lt_or_ge j k with h1 | h1
          · exact HB.out j y h1 hy
          · obtain rfl : j = k := by omega
            rw [HM.out] at hy
            injection hy with hy
            rw [← hy]; exact he, rfl⟩
    · exfalso
      have hk := HK.out
      obtain rfl : k = n := by omega
      obtain ⟨j, hj, e⟩ := List.mem_iff_getElem.1 HX.out
      exact HB.out j x (by rw [← HL.out]; exact hj) (by rw [List.getElem?_eq_getElem hj, e]) rfl
set_option maxRecDepth 20000 in
set_option maxHeartbeats 8000000 in
theorem FnMarks_walk (A0 : Option Addr) (cap0 : Nat) (l0 : List UInt8) (w : World) (s0 : ArgS w A0 l0.length cap0 1 (Lib.byteCells l0)) (A1 : Option Addr) (cap1 : Nat) (l1 : List UInt8) (s1 : ArgS w A1 l1.length cap1 1 (Lib.byteCells l1)) (hT : Tab w) :
    Calls Tryz.prog 6 #[.slice A0 l0.length cap0, .slice A1 l1.length cap1] w fun e w' => e = .returned (.bool true) ∧ Below w.heap.size w w' := by
  obtain ⟨n, hn⟩ : ∃ n, l0.length = n := ⟨_, rfl⟩
  obtain ⟨m, hm⟩ : ∃ m, l1.length = m := ⟨_, rfl⟩
  rw [hn] at s0 ⊢
  rw [hm] at s1 ⊢
  have HS0 := Hid.in_ s0
  have HS1 := Hid.in_ s1
  have HT := Hid.in_ hT
  clear s0 s1 hn hm hT
  by_cases hn1 : (1048576 : Int) < (n : Int)
  · go_enter Tryz.func6, Tryz.ntmps6
    go_wp2
    go_ret
    exact ⟨rfl, Below.refl _ _⟩
  by_cases hm1 : (1048576 : Int) < (m : Int)
  · go_enter Tryz.func6, Tryz.ntmps6
    go_wp2
    go_ret
    exact ⟨rfl, Below.refl _ _⟩
  go_enter Tryz.func6, Tryz.ntmps6
  go_wp2_with fail
  refine (spec_E8Cells w HS0.out (by omega)).mono ?_
  rintro e w1 ⟨l, f, rfl, hl1, hl2, hl3, hf1, hf2, hb1⟩
  have hsz := size_mkB l
  have hbt : allBits (⟨l.toArray⟩ : ByteArray) = true := by unfold allBits; rw [List.toList_toArray]; exact hl1
  generalize (⟨l.toArray⟩ : ByteArray) = s at *
  obtain ⟨N, hN⟩ : ∃ N, s.size = N := ⟨_, rfl⟩
  have hN1 : 1 ≤ N := by omega
  have hN2 : N ≤ 512 := by omega
  have HV := Hid.in_ (valid_mk hbt (by omega) (by omega))
  have HB1 := Hid.in_ hb1
  have HNS := Hid.in_ hN
  have HFI := Hid.in_ (show inB (f : Int) 1 3 = true from inB_mk (by omega) (by omega))
  have HRO := Hid.in_ (fun (k : Nat) (w : World) (hk : k < N) => show Calls Tryz.prog 28 #[.string s, .int .i64 k] w fun e w' => e = .returned (.tuple #[.string (sliceS s k N), .bool true]) ∧ Below w.heap.size w w' from by
    rw [← hN] at hk ⊢
    exact spec_RotateCells s k w HV.out hk)
  have HVT := Hid.in_ (fun (k : Nat) => valid_mk (s := sliceS s k N) (turn_bits hbt (by omega)) (by rw [sliceS_size]; exact hN1) (by rw [sliceS_size]; exact hN2))
  clear hl1 hl2 hl3 hsz hbt hb1
  go_wp2_with fail
  refine (show Calls Tryz.prog 27 #[.slice A1 m cap1, .int .i64 0, .int .i64 N] w1 _ from laws_d8At 0 N w1 (HS1.out.below HB1.out) (by omega) (by omega) hN1 (by omega)).mono ?_
  rintro e w2 ⟨p, rfl, hp, rfl⟩
  go_wp2_with fail
  refine (HRO.out p _ hp).mono ?_
  rintro e w3 ⟨rfl, hb3⟩
  have HB3 := Hid.in_ (bstep HB1.out hb3)
  have HVT2 := Hid.in_ (HVT.out p)
  have HTN := Hid.in_ (turn_slice (n := N) (p := p) HNS.out hp)
  clear hb3 HVT HRO
  generalize sliceS s p N = t at *
  have hts : t.size = N := HTN.out.ts
  have HFO1 := Hid.in_ (show fmOk s f = true by unfold fmOk; rw [HV.out, HFI.out]; rfl)
  have HFO2 := Hid.in_ (show fmOk t f = true by unfold fmOk; rw [HVT2.out, HFI.out]; rfl)
  obtain ⟨K, hK⟩ : ∃ K, (marksV s f).length = K := ⟨_, rfl⟩
  have hK2 : (marksV t f).length = K := by rw [← HTN.out.len HFI.out]; exact hK
  have HFM := Hid.in_ (fun (s : ByteArray) (w : World) (hs : s.size = N) (hT : Tab w) => impl_FindMarks s (f : Int) w (by omega) hT)
  by_cases hl : K ≤ 64
  case neg =>
    obtain ⟨a1, a2⟩ := fm_full HFO1.out (by rw [hK]; exact hl)
    obtain ⟨b1, b2⟩ := fm_full HFO2.out (by rw [hK2]; exact hl)
    have HF1 := Hid.in_ (fun w hT => HFM.out s w HNS.out hT)
    have HF2 := Hid.in_ (fun w hT => HFM.out t w hts hT)
    rw [a1, a2] at HF1
    rw [b1, b2] at HF2
    clear a1 a2 b1 b2 hK hK2 HFM
    go_wp2_with fail
    refine (HF1.out _ (HT.out.step HB3.out)).mono ?_
    rintro e w4 ⟨v4, rfl, _, hb4⟩
    have HB4 := Hid.in_ (bstep HB3.out hb4)
    clear hb4
    go_wp2_with fail
    refine (HF2.out _ (HT.out.step HB4.out)).mono ?_
    rintro e w5 ⟨v5, rfl, _, hb5⟩
    have HB5 := Hid.in_ (bstep HB4.out hb5)
    clear hb5
    go_wp2
    go_ret
    exact ⟨rfl, HB5.out⟩
  obtain ⟨a1, a2⟩ := fm_good HFO1.out (by rw [hK]; exact hl)
  obtain ⟨b1, b2⟩ := fm_good HFO2.out (by rw [hK2]; exact hl)
  have HF1 := Hid.in_ (fun w hT => HFM.out s w HNS.out hT)
  have HF2 := Hid.in_ (fun w hT => HFM.out t w hts hT)
  rw [a1, a2, hK] at HF1
  rw [b1, b2, hK2] at HF2
  have HVM := Hid.in_ (show validMarks (marksV s f) N = true by rw [← HNS.out]; exact marks_valid HV.out HFI.out (by rw [hK]; exact hl))
  have HTU := Hid.in_ (fun (m : MarkR) (hm : m ∈ marksV s f) => HTN.out.mark hm)
  have HME := Hid.in_ (fun (m : MarkR) (hm : m ∈ marksV s f) => mark_nat HNS.out hN1 hm)
  have HMO := Hid.in_ (fun (m : MarkR) (hm : m ∈ marksV s f) => mark_mc (by rw [HNS.out]; exact hN1) HFI.out hm)
  have HMF := Hid.in_ (fun (hf : f ≠ 3) (m : MarkR) (hm : m ∈ marksV s f) => And.intro (mark_found HV.out (by omega) hm) (mark_small (by rw [HNS.out]; exact hN1) (by omega) hm))
  have HK1 := Hid.in_ hK
  have HK2 := Hid.in_ hK2
  clear a1 a2 b1 b2 hK hK2 HFM
  generalize marksV s f = L at *
  generalize marksV t f = L2 at *
  go_wp2_with fail
  refine (HF1.out _ (HT.out.step HB3.out)).mono ?_
  rintro e w4 ⟨v4, rfl, ho4, hb4⟩
  have HB4 := Hid.in_ (bstep HB3.out hb4)
  have HO4 := Hid.in_ ho4
  clear hb4 ho4
  go_wp2_with fail
  refine (HF2.out _ (HT.out.step HB4.out)).mono ?_
  rintro e w5 ⟨v5, rfl, ho5, hb5⟩
  have HB5 := Hid.in_ (bstep HB4.out hb5)
  have HO45 := Hid.in_ (ostep hb5 HO4.out)
  obtain ⟨A4, c4, rfl, _, _, _⟩ := own_shape HO4.out
  obtain ⟨A5, c5, rfl, _, _, _⟩ := own_shape ho5
  have HO5 := Hid.in_ ho5
  clear hb5 ho5 HF1 HF2
  go_wp2_with fail
  refine (impl_ValidMarks (N : Int) _ HO45.out).mono ?_
  rw [HVM.out]
  rintro e w6 ⟨rfl, hb6⟩
  have HB6 := Hid.in_ (bstep HB5.out hb6)
  obtain ⟨A4', c4', hv4, _, _, hA4⟩ := own_shape (ostep hb6 HO45.out)
  obtain ⟨rfl, rfl⟩ : A4 = A4' ∧ c4 = c4' := by injection hv4 with h1 h2 h3; exact ⟨h1, h3⟩
  obtain ⟨A5', c5', hv5, _, _, hA5⟩ := own_shape (ostep hb6 HO5.out)
  obtain ⟨rfl, rfl⟩ : A5 = A5' ∧ c5 = c5' := by injection hv5 with h1 h2 h3; exact ⟨h1, h3⟩
  have HA4 := Hid.in_ hA4
  have HA5 := Hid.in_ hA5
  clear hA4 hA5 hv4 hv5 hb6 HO4 HO45 HO5
  go_wp2_with fail
  go_loopg [15] K (fun m i wr => ∃ k : Nat, k + m = K ∧ i = .int .i64 k ∧ Hid (Below w6.heap.size w6 wr))
  case atStart => exact ⟨0, by omega, rfl, Below.refl _ _⟩
  case round =>
    obtain ⟨k, hkm, rfl, HB⟩ := hrel
    obtain ⟨wo, rfl⟩ : ∃ x, x = wr := ⟨_, rfl⟩
    have HK := Hid.in_ hkm
    clear hkm
    by_cases hlt : k < K
    · obtain ⟨g, rfl, _, hg, hx, _⟩ := HA4.out (by omega)
      obtain ⟨mm, hmm⟩ := get_lt L k (by rw [HK1.out]; exact hlt)
      obtain ⟨c0, c1, c2⟩ := boxAt3 ((Box.elem MarkR.len hx hmm).step HB.out)
      have hmem := List.mem_of_getElem? hmm
      obtain ⟨j, jb, ea, eb, hj, hjb⟩ := HME.out mm hmem
      have HTM := Hid.in_ (HTU.out mm hmem)
      have HMM := Hid.in_ (HMO.out mm hmem)
      have HMG := Hid.in_ (fun hf => HMF.out hf mm hmem)
      obtain ⟨mk, ma, mb⟩ := mm
      simp only at ea eb
      subst ea eb
      unfold turnM at HTM
      simp only at HTM HMM HMG c0 c1 c2
      obtain ⟨qa, hqa⟩ : ∃ q : Nat, ((j : Int) - p + N) % N = q := ⟨(((j : Int) - p + N) % N).toNat, by have := Int.emod_nonneg ((j : Int) - p + N) (show (N : Int) ≠ 0 by omega); omega⟩
      obtain ⟨qb, hqb⟩ : ∃ q : Nat, ((jb : Int) - p + N) % N = q := ⟨(((jb : Int) - p + N) % N).toNat, by have := Int.emod_nonneg ((jb : Int) - p + N) (show (N : Int) ≠ 0 by omega); omega⟩
      rw [hqa, hqb] at HTM
      have HAL := Hid.in_ (balloc (Below.refl wo.heap.size wo) (.cells #[.int .i64 mk, .int .i64 j, .int .i64 jb] 51))
      have HXB := Hid.in_ (Box.new wo [.int .i64 mk, .int .i64 j, .int .i64 jb] 51)
      clear hx hmm hmem
      go_wp2_with fail
      clear c0 c1 c2
      obtain ⟨gO, rfl⟩ : ∃ g, g = gk := ⟨_, rfl⟩
      go_loopg [17, 18] K (fun m v i wr => ∃ (q : Nat) (b : Bool), q + m = K ∧ v = .bool b ∧ i = .int .i64 q ∧ Hid (b = anyTo L2 ⟨mk, qa, qb⟩ q) ∧ Hid (Below (wo.alloc (.cells #[.int .i64 mk, .int .i64 j, .int .i64 jb] 51)).heap.size (wo.alloc (.cells #[.int .i64 mk, .int .i64 j, .int .i64 jb] 51)) wr))
      case atStart => exact ⟨0, false, by omega, rfl, rfl, rfl, Below.refl _ _⟩
      case round =>
        obtain ⟨q, b, hqm, rfl, rfl, HBQ, HBI⟩ := hrel
        have HQ := Hid.in_ hqm
        clear hqm
        have hbm := HXB.out.step HBI.out
        have hlt2 : wo.heap.size < wr.heap.size := by have := HBI.out.size; simp at this; omega
        by_cases hlq : q < K
        · obtain ⟨g2, rfl, _, hg2, hx2, _⟩ := HA5.out (by omega)
          obtain ⟨x, hxq⟩ := get_lt L2 q (by rw [HK2.out]; exact hlq)
          have HBW := Hid.in_ (HB.out.trans ((HAL.out.trans (HBI.out.mono HAL.out.size)).mono HB.out.size))
          obtain ⟨d0, d1, d2⟩ := boxAt3 ((Box.elem MarkR.len hx2 hxq).step HBW.out)
          have HN := Hid.in_ (anyTo_next (m := ⟨mk, qa, qb⟩) hxq)
          obtain ⟨xk, xa, xb⟩ := x
          simp only at d0 d1 d2
          have y0 : wr.cell? ⟨wo.heap.size, 0, none⟩ = some (.int .i64 mk) := hbm 0 _ rfl
          have y1 : wr.cell? ⟨wo.heap.size, 1, none⟩ = some (.int .i64 j) := hbm 1 _ rfl
          have y2 : wr.cell? ⟨wo.heap.size, 2, none⟩ = some (.int .i64 jb) := hbm 2 _ rfl
          clear hbm hx2 hxq
          cases b
          case true =>
            go_wp2_with fail
            go_quiet (fail)
            go_wp2
            have hq := HQ.out
            go_roundg (gk - 1)
            case measure => omega
            case rel => exact ⟨q + 1, true, by omega, rfl, by go_num, by rw [HN.out, ← HBQ.out]; rfl, below_drewN (balloc HBI.out _) _⟩
          case false =>
            cases e1 : (xk == mk)
            · have HE := Hid.in_ (show eqM ⟨xk, xa, xb⟩ ⟨mk, qa, qb⟩ = false by unfold eqM; simp at e1; simp [e1])
              go_wp2_with fail
              go_quiet (fail)
              go_wp2
              have hq := HQ.out
              go_roundg (gk - 1)
              case measure => omega
              case rel => exact ⟨q + 1, false, by omega, rfl, by go_num, by rw [HN.out, HE.out, ← HBQ.out]; rfl, below_drewN (balloc HBI.out _) _⟩
            · cases e2 : (xa == (qa : Int))
              · have HE := Hid.in_ (show eqM ⟨xk, xa, xb⟩ ⟨mk, qa, qb⟩ = false by unfold eqM; simp at e2; simp [e2])
                go_wp2_with fail
                go_quiet (fail)
                go_wp2
                have hq := HQ.out
                go_roundg (gk - 1)
                case measure => omega
                case rel => exact ⟨q + 1, false, by omega, rfl, by go_num, by rw [HN.out, HE.out, ← HBQ.out]; rfl, below_drewN (balloc HBI.out _) _⟩
              · cases e3 : (xb == (qb : Int))
                · have HE := Hid.in_ (show eqM ⟨xk, xa, xb⟩ ⟨mk, qa, qb⟩ = false by unfold eqM; simp at e3; simp [e3])
                  go_wp2_with fail
                  go_quiet (fail)
                  go_wp2
                  have hq := HQ.out
                  go_roundg (gk - 1)
                  case measure => omega
                  case rel => exact ⟨q + 1, false, by omega, rfl, by go_num, by rw [HN.out, HE.out, ← HBQ.out]; rfl, below_drewN (balloc HBI.out _) _⟩
                · have HE := Hid.in_ (show eqM ⟨xk, xa, xb⟩ ⟨mk, qa, qb⟩ = true by unfold eqM; simp at e1 e2 e3; simp [e1, e2, e3])
                  go_wp2_with fail
                  go_quiet (fail)
                  go_wp2
                  have hq := HQ.out
                  go_roundg (gk - 1)
                  case measure => omega
                  case rel => exact ⟨q + 1, true, by omega, rfl, by go_num, by rw [HN.out, HE.out, ← HBQ.out]; rfl, below_drewN (balloc HBI.out _) _⟩
        · have hq := HQ.out
          obtain rfl : q = K := by omega
          obtain rfl : b = true := HBQ.out.trans (anyTo_all HTM.out (by rw [HK2.out]; exact Nat.le_refl _))
          have HBW := Hid.in_ (HB.out.trans ((HAL.out.trans (HBI.out.mono HAL.out.size)).mono HB.out.size))
          have y0 : wr.cell? ⟨wo.heap.size, 0, none⟩ = some (.int .i64 mk) := hbm 0 _ rfl
          have HBM := Hid.in_ hbm
          clear hbm
          go_wp2_with fail
          refine (impl_MarkCells (f : Int) mk _ ((HT.out.step HB6.out).step HBW.out)).mono ?_
          rw [HMM.out]
          rintro e w8 ⟨rfl, hb8⟩
          have hbm8 := HBM.out.step hb8
          have y1 : w8.cell? ⟨wo.heap.size, 1, none⟩ = some (.int .i64 j) := hbm8 1 _ rfl
          have HBM8 := Hid.in_ hbm8
          have HB8 := Hid.in_ (bstep HBW.out hb8)
          have hlt8 : wo.heap.size < w8.heap.size := Nat.lt_of_lt_of_le hlt2 hb8.size
          clear y0 hbm8 hb8
          generalize mcV f mk = P at *
          by_cases hf3 : f = 3
          · have g3 : ((f : Int) != 3) = false := by subst hf3; rfl
            clear hf3
            go_wp2_with fail
            go_quiet (fail)
            go_wp2
            have hk := HK.out
            go_roundg (gO - 1)
            case measure => omega
            case rel => exact ⟨k + 1, by omega, by go_num, below_drewN HB8.out _⟩
          · have g3 : ((f : Int) != 3) = true := by have : (f : Int) ≠ 3 := by omega
                                                    simp [this]
            obtain ⟨hin, hPs⟩ := HMG.out hf3
            have HIN := Hid.in_ hin
            clear hin
            have C1 := Hid.in_ (fun w => impl_FindPattern s P w (by omega) (by omega))
            go_wp2_with fail
            go_region_with (first
              | (go_at_call 32; refine (C1.out _).mono ?_; rintro e wa ⟨va, rfl, hoa, hba⟩; have hba' := ((Below.refl w8.heap.size w8).drew).trans hba; have y1 : wa.cell? ⟨wo.heap.size, 1, none⟩ = some (.int .i64 j) := cstep hba' y1)
              | (go_at_call 31; refine (laws_d8Has _ _ hoa HIN.out).mono ?_; rintro e we ⟨rfl, rfl⟩))
            all_goals
              go_wp2
              have hk := HK.out
              go_roundg (gO - 1)
              case measure => omega
              case rel => exact ⟨k + 1, by omega, by go_num, bstep HB8.out hba'⟩
    · have hk := HK.out
      obtain rfl : k = K := by omega
      have HBB := Hid.in_ (HB6.out.trans (HB.out.mono HB6.out.size))
      go_wp2
      go_ret
      exact ⟨rfl, HBB.out⟩

set_option maxRecDepth 100000 in
theorem FnMarks_contract (H : Type) (enc : TypeId × Value → H) (W : World) (base : Nat) (args : Array Value) (ds gs : List (DataW H)) (before : List MemPlace)
    (hval : ∀ (j : Nat) t v, Tryz.f6.params[j]? = some t → args[j]? = some v → Value.okWide Tryz.prog W .any base t v)
    (hW : DataW.Whole enc Tryz.prog Tryz.f6.params.toList Rows.fnMarksSpec.vars false W args.toList ds gs before) (hL : laidMetH Tryz.prog Rows.fnMarksRow.laid W) :
    Calls Tryz.prog 6 args W fun e W' => ∃ v, e = .returned v ∧ Rows.fnMarksSpec.post enc Tryz.prog Tryz.f6 false true false false W args v W' := by
  have hW' := hW
  obtain ⟨p, q, hA0, hV, hbe, hfz, hnd⟩ := hW
  have hA : DataW.TrodAll enc Tryz.prog W 0 (fun _ => true) true Tryz.f6.params.toList args.toList ds p := hA0
  rw [Tryz.params6] at hA hval
  obtain ⟨v0, vs0, d0, ds0, p0, q0, hargs, rfl, rfl, h0, r0⟩ := trodAll_cons hA
  obtain ⟨v1, vs1, d1, ds1, p1, q1, rfl, rfl, rfl, h1, r1⟩ := trodAll_cons r0
  obtain ⟨rfl, rfl, rfl⟩ := trodAll_nil r1
  obtain rfl : args = #[v0, v1] := by cases args; simp_all
  obtain ⟨gl, hgl⟩ : ∃ l : List (DataW H), l = gs := ⟨_, rfl⟩
  obtain ⟨g0, hgs⟩ : ∃ g0, gs = [g0] := vars_1 hV
  subst hgs
  obtain ⟨A0, cap0, l0, rfl, s0⟩ := slice_U8 (hval 0 43 v0 rfl rfl) h0
  obtain ⟨A1, cap1, l1, rfl, s1⟩ := slice_U8 (hval 1 43 v1 rfl rfl) h1
  clear hA0
  have hT : Tab W := strs_laid (Rows.fnMarksRow.laid[1]) (g := 0) (by kernel_rfl) (by kernel_rfl) Tryz.underlying154 Tryz.underlying9 (by kernel_rfl) (by kernel_rfl) rfl (List.mem_filter.2 ⟨List.getElem_mem _, by kernel_rfl⟩) hL (by decide)
  refine (FnMarks_walk A0 cap0 l0 W s0 A1 cap1 l1 s1 hT).mono fun e W' ⟨he, hb⟩ => ?_
  subst he
  exact ⟨_, rfl, law_post_vars Tryz.laidOut (by kernel_rfl) (by kernel_rfl) rfl Tryz.underlying4 rfl hW' hb⟩

theorem FnMarks_laid (os : Os) : laidMet Tryz.prog Rows.fnMarksRow.laid ((laidWorld Tryz.prog os Rows.fnMarksRow.laid).forCall (fun _ _ => 0) ⟨#[], #[.slice none 0 0, .slice none 0 0], []⟩).memory := laidMet_of_run' 8 (by kernel_rfl) (by kernel_rfl)
theorem FnMarks_reads (os : Os) {H : Type} (enc : TypeId × Value → H) : (DataW.whole enc Tryz.prog ((laidWorld Tryz.prog os Rows.fnMarksRow.laid).forCall (fun _ _ => 0) ⟨#[], #[.slice none 0 0, .slice none 0 0], []⟩).memory Tryz.f6.params.toList Rows.fnMarksSpec.vars false #[.slice none 0 0, .slice none 0 0].toList 8).isSome = true := by kernel_rfl
set_option maxRecDepth 100000 in
theorem FnMarks_lifted (os : Os) (started : os.Started) (H : Type) (enc : TypeId × Value → H) (F : Stop.Interp) :
    ReturnsInHanded {} Tryz.checked os 6 .any ((OpenSpec.ofChange Rows.fnMarksSpec).preRow enc Tryz.prog Tryz.f6 Rows.fnMarksRow.domain false Rows.fnMarksRow.laid) (((OpenSpec.ofChange Rows.fnMarksSpec).at F).post enc Tryz.prog Tryz.f6 false true false false) := by
  have hx := (Option.some_get (FnMarks_reads os enc)).symm
  refine returnsInHanded_of_row (C := Tryz.checked) (s := OpenSpec.ofChange Rows.fnMarksSpec) Tryz.own started (by kernel_rfl) Tryz.func6
    (witness_row_at (enc := enc) (C := Tryz.checked) false (laidWorld Tryz.prog os Rows.fnMarksRow.laid) #[.slice none 0 0, .slice none 0 0] (laidWorld_os _ _ _) (by kernel_rfl) (by kernel_rfl) (by kernel_rfl)
      (OpenSpec.preRow_of_cond 8 hx rfl (fun k hk => by cases hk) (by kernel_rfl) (FnMarks_laid os))) ?_
  intro W base args ds gs before hval hW _ _ _ hL _ _
  exact FnMarks_contract H enc W base args ds gs before hval hW hL

theorem FnMarks_said : Rows.FnMarksSaid :=
  OpenClaim.holds_of_cond 6 Tryz.f6 rfl rfl rfl rfl rfl rfl rfl ⟨rfl, rfl, rfl, rfl, rfl⟩ rfl rfl rfl rfl rfl (by kernel_rfl) Tryz.func6 (by kernel_rfl)
    (of_decide_eq_true (by kernel_rfl)) (by unfold Func.isWrapper; first | (rw [if_pos (by decide +kernel)]; kernel_rfl) | (rw [if_neg (by decide +kernel)]; exact ⟨rfl, rfl⟩))
    (fun os started H enc _ F => by rw [OpenClaim.pre_eq_preRow]; exact FnMarks_lifted os started H enc F)
theorem FnMarks_plain (f : FuncId) (fn : Func) (hf : Tryz.pinned.checked.prog.funcNamed Rows.fnMarksRow.func = some f) (hfn : Tryz.pinned.checked.prog.funcs[f]? = some fn) :
    false = Tryz.pinned.checked.prog.looks [] ∧ ∀ (j : Nat) t, fn.params[j]? = some t → Tryz.pinned.checked.prog.wantsStandIn t = false := by
  obtain rfl : f = 6 := Option.some.inj ((show Tryz.prog.funcNamed Rows.fnMarksRow.func = some 6 by kernel_rfl).symm.trans hf) |>.symm
  obtain rfl : fn = Tryz.f6 := (Option.some.inj (Tryz.func6.symm.trans hfn)).symm
  exact ⟨by kernel_rfl, fun j t ht => noStandIn (P := Tryz.prog) (fn := Tryz.f6) (by kernel_rfl) j t ht⟩
theorem FnMarks_proved : Rows.FnMarksCardSaid :=
  Claim7.holds_tied_plain_at .later [] _ _ _ _ FnMarks_said (fun _ h => by cases h) (by kernel_rfl) (fun _ h => by cases h) fnMarks_row_tie rfl ⟨rfl, rfl⟩ (by kernel_rfl) rfl FnMarks_plain (by kernel_rfl)
#print axioms FnMarks_proved
end Go.Proofs.YtlelgpknkgjaeaaGreatDoor
