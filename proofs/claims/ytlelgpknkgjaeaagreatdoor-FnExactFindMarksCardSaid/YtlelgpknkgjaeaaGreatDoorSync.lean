/- 'SyncRuns' of the program and of the reference: the runs of ten or more cells that are 1. -/
import Derived.Test.YtlelgpknkgjaeaaGreatDoorSlice
import Derived.Test.YtlelgpknkgjaeaaGreatDoorRecF
namespace Go.Proofs.YtlelgpknkgjaeaaGreatDoor
open Go.ChangeShapes Go.WideShapes Go.ChangeAt Go.RowKit
set_option linter.unusedSimpArgs false
set_option linter.unusedVariables false
set_option maxRecDepth 4000

/-- Is the cell 'c' places behind 'i' a 1? -/
def oneAt (s : ByteArray) (i c : Nat) : Bool := byteAt s ((i + c) % s.size) == 49
def cntF (p : Nat → Bool) : Nat → Nat → Nat
  | 0, c => c
  | f + 1, c => if p c = true then cntF p f (c + 1) else c
theorem cntF_stop {p : Nat → Bool} {d : Nat} (hd : p d = false) : ∀ (f c : Nat), c ≤ d → d - c < f → (∀ j, c ≤ j → j < d → p j = true) → cntF p f c = d
  | 0, c, _, h, _ => by omega
  | f + 1, c, hc, h, hp => by
    unfold cntF
    by_cases e : c = d
    · subst e
      rw [if_neg (by rw [hd]; decide)]
    · rw [if_pos (hp c (Nat.le_refl _) (by omega))]
      exact cntF_stop hd f (c + 1) (by omega) (by omega) (fun j h1 h2 => hp j (by omega) h2)
theorem cntF_le (p : Nat → Bool) : ∀ (f c : Nat), cntF p f c ≤ c + f
  | 0, c => Nat.le_refl _
  | f + 1, c => by
    unfold cntF
    split
    · have := cntF_le p f (c + 1)
      omega
    · omega
def cnt (s : ByteArray) (i : Nat) : Nat := cntF (oneAt s i) s.size 0
def startAt (s : ByteArray) (i : Nat) : Bool := (byteAt s i == 49) && !(byteAt s ((i + s.size - 1) % s.size) == 49)
theorem start_stop {s : ByteArray} {i : Nat} (h0 : 0 < s.size) (h : startAt s i = true) : oneAt s i (s.size - 1) = false := by
  unfold startAt at h
  simp only [Bool.and_eq_true, Bool.not_eq_true'] at h
  unfold oneAt
  rw [show i + (s.size - 1) = i + s.size - 1 by omega]
  exact h.2
theorem cnt_stop {s : ByteArray} {i d : Nat} (hd : d < s.size) (h : oneAt s i d = false) (hp : ∀ j, j < d → oneAt s i j = true) : cnt s i = d :=
  cntF_stop h s.size 0 (Nat.zero_le _) (by omega) (fun j _ hj => hp j hj)
theorem cnt_le (s : ByteArray) (i : Nat) : cnt s i ≤ s.size := by
  have := cntF_le (oneAt s i) s.size 0
  unfold cnt
  omega
def syncAt (s : ByteArray) (i : Nat) : Bool := startAt s i && decide (10 ≤ cnt s i)
def syncTo (s : ByteArray) : Nat → List RunR
  | 0 => []
  | k + 1 => syncTo s k ++ (if syncAt s k = true then [⟨(k : Int), (cnt s k : Nat)⟩] else [])
theorem syncTo_len (s : ByteArray) : ∀ k, (syncTo s k).length ≤ k
  | 0 => Nat.le_refl _
  | k + 1 => by
    have := syncTo_len s k
    unfold syncTo
    split <;> simp <;> omega
theorem syncTo_yes {s : ByteArray} {k : Nat} (h : syncAt s k = true) : syncTo s (k + 1) = syncTo s k ++ [⟨(k : Int), (cnt s k : Nat)⟩] := by
  show syncTo s k ++ (if syncAt s k = true then _ else []) = _
  rw [if_pos h]
theorem syncTo_no {s : ByteArray} {k : Nat} (h : syncAt s k = false) : syncTo s (k + 1) = syncTo s k := by
  show syncTo s k ++ (if syncAt s k = true then _ else []) = _
  rw [if_neg (by rw [h]; decide), List.append_nil]
def allOnes (s : ByteArray) : Bool := s.data.toList.all (· == 49)
def syncV (s : ByteArray) : List RunR :=
  if validCells s = true then (if allOnes s = true then (if 10 ≤ s.size then [⟨0, (s.size : Nat)⟩] else []) else syncTo s s.size) else []
theorem ones_at {s : ByteArray} (h : allOnes s = true) {k : Nat} (hk : k < s.size) : byteAt s k = 49 := by
  unfold allOnes at h
  rw [List.all_eq_true] at h
  have hk' : k < s.data.toList.length := by simpa using hk
  have := h s.data.toList[k] (List.getElem_mem _)
  unfold byteAt
  rw [List.getD_eq_getElem?_getD, List.getElem?_eq_getElem hk']
  simpa using this
theorem ones_none {s : ByteArray} (h : allOnes s = true) : ∀ k, k ≤ s.size → syncTo s k = []
  | 0, _ => rfl
  | k + 1, hk => by
    have hs : syncAt s k = false := by
      unfold syncAt startAt
      rw [ones_at h (k := (k + s.size - 1) % s.size) (Nat.mod_lt _ (by omega))]
      simp
    rw [syncTo_no hs, ones_none h k (by omega)]
theorem contains_zero {s : ByteArray} (h : allBits s = true) : decide (0 ≤ Lib.indexByte s.data.toList 48) = !allOnes s := by
  have hge := Lib.indexByte_ge s.data.toList 48
  by_cases hm : Lib.indexByte s.data.toList 48 = -1
  · have hn := Lib.indexByte_none hm
    rw [hm]
    have : allOnes s = true := by
      unfold allOnes
      rw [List.all_eq_true]
      intro x hx
      unfold allBits at h
      rw [List.all_eq_true] at h
      have hb := h x hx
      obtain ⟨i, hi, rfl⟩ := List.mem_iff_getElem.1 hx
      have := hn i
      rw [List.getElem?_eq_getElem hi] at this
      unfold isBit at hb
      simp at hb
      simp
      rcases hb with hb | hb
      · exact absurd (congrArg some hb) this
      · exact hb
    rw [this]
    rfl
  · obtain ⟨o, ho⟩ := Int.eq_ofNat_of_zero_le (show 0 ≤ Lib.indexByte s.data.toList 48 by omega)
    have h1 := (Lib.indexByte_some ho).1
    have : allOnes s = false := by
      unfold allOnes
      rw [List.all_eq_false]
      exact ⟨48, List.mem_of_getElem? h1, by decide⟩
    rw [this, decide_eq_true (by omega)]
    rfl
theorem run_cells {l : List RunR} {a c : Int} : l.flatMap RunR.cells ++ [.int .i64 a, .int .i64 c] = (l ++ [(⟨a, c⟩ : RunR)]).flatMap RunR.cells := (flat_snoc l (⟨a, c⟩ : RunR)).symm
theorem byte49 (c : UInt8) : (c = 49 ∧ (c == 49) = true) ∨ (((c.toNat : Int) != 49) = true ∧ ((c.toNat : Int) == 49) = false ∧ (c == 49) = false) := by
  by_cases h : c = 49
  · exact .inl ⟨h, by rw [h]; rfl⟩
  · have h2 : ¬ (c.toNat : Int) = 49 := fun e => h (UInt8.toNat_inj.1 (by simpa using (by omega : c.toNat = 49)))
    exact .inr ⟨bne_iff_ne.2 h2, beq_eq_false_iff_ne.2 h2, beq_eq_false_iff_ne.2 h⟩
theorem cellsTwo {w : World} {x y : Value} {t : TypeId} : ∀ j u, ([x, y] : List Value)[j]? = some u → (w.alloc (.cells #[x, y] t)).cell? ((⟨w.heap.size, 0, none⟩ : Addr).add j) = some u := fun j u hu => by
  rw [addr_add, Nat.zero_add]
  exact Box.new w [x, y] t j u hu
set_option maxHeartbeats 4000000 in
theorem impl_syncRuns (s : ByteArray) (w : World) (hv : validCells s = true) :
    Calls Tryz.prog 101 #[.string s] w fun e w' => ∃ v, e = .returned v ∧ w'.ownsRow w.heap.size 85 2 v (syncV s).length ((syncV s).flatMap RunR.cells) ∧ Below w.heap.size w w' := by
  obtain ⟨i0, hti, hz0, hz1, hz2⟩ := info_parts Tryz.info_CellRun
  obtain ⟨v1, v2, v3⟩ := valid_size hv
  have HC := Hid.in_ (fun w => Any.strings_Contains_one Tryz.lays144 s 48 w)
  rw [contains_zero v3] at HC
  change Hid (∀ w, Calls Tryz.prog 130 #[.string s, .string ⟨#[48]⟩] w fun e w' => e = .returned (.bool (!allOnes s)) ∧ w' = w) at HC
  cases ho : allOnes s
  · have HV := Hid.in_ (show syncV s = syncTo s s.size by unfold syncV; rw [hv, ho]; rfl)
    rw [ho] at HC
    obtain ⟨N, hN⟩ : ∃ N, s.size = N := ⟨_, rfl⟩
    have HST := Hid.in_ (fun i h => start_stop (s := s) (i := i) v1 h)
    have HCS := Hid.in_ (fun i d h1 h2 h3 => cnt_stop (s := s) (i := i) (d := d) h1 h2 h3)
    rw [hN] at v1 v2 HV HST HCS
    clear hv v3 ho
    go_enter Tryz.func101, Tryz.ntmps101
    go_wp2_with (go_at_call 130; refine (HC.out _).mono ?_; rintro e w' ⟨rfl, rfl⟩)
    go_loopg [4, 18] N (fun m v i wr => ∃ k : Nat, k + m = N ∧ i = .int .i64 k ∧ Hid (wr.ownsRow w'.heap.size 85 2 v (syncTo s k).length ((syncTo s k).flatMap RunR.cells)) ∧ Hid (Below w'.heap.size w' wr))
    case atStart => exact ⟨0, by omega, rfl, World.ownsRow_nil _ _ _ _, Below.refl _ _⟩
    case round =>
      obtain ⟨k, hkm, rfl, HI, HB⟩ := hrel
      have HK := Hid.in_ hkm
      clear hkm
      by_cases hlt : k < N
      · have HL := Hid.in_ (syncTo_len s k)
        have hks : k < s.size := by omega
        obtain ⟨q, hq⟩ : ∃ q, (k + N - 1) % N = q := ⟨_, rfl⟩
        have hqn : q < N := by rw [← hq]; exact Nat.mod_lt _ (by omega)
        have hqs : q < s.size := by omega
        have hm : ((k : Int) + (N : Int) - 1) % (N : Int) = (q : Int) := by
          rw [← hq, show (k : Int) + (N : Int) - 1 = ((k + N - 1 : Nat) : Int) by omega]
          simp
        obtain ⟨c, hc⟩ : ∃ c : UInt8, s[k] = c := ⟨_, rfl⟩
        obtain ⟨d, hd⟩ : ∃ d : UInt8, s[q] = d := ⟨_, rfl⟩
        have hst : startAt s k = ((c == 49) && !(d == 49)) := by
          unfold startAt
          rw [hN, hq, byteAt_eq hks, byteAt_eq hqs, hc, hd]
        obtain ⟨rfl, e1⟩ | ⟨n1, n2, e1⟩ := byte49 c
        · obtain ⟨rfl, e2⟩ | ⟨n3, n4, e2⟩ := byte49 d
          · have HS := Hid.in_ (syncTo_no (s := s) (k := k) (by unfold syncAt; rw [hst]; rfl))
            clear hst hq
            go_wp2
            have hk := HK.out
            go_roundg (gk - 1)
            case measure => omega
            case rel => exact ⟨k + 1, by omega, by go_num, by rw [HS.out]; exact HI.out, HB.out⟩
          · have hstt : startAt s k = true := by rw [hst, e2]; rfl
            have HSTT := Hid.in_ hstt
            have HSS := Hid.in_ (HST.out k hstt)
            clear hst hq hstt
            go_wp2
            obtain ⟨gO, rfl⟩ : ∃ g, g = gk := ⟨_, rfl⟩
            obtain ⟨wo, rfl⟩ : ∃ wo : World, wo = wr := ⟨_, rfl⟩
            go_loopg [6] N (fun m i wi => ∃ c : Nat, c + m = N ∧ i = .int .i64 c ∧ c < N ∧ Hid (∀ j, j < c → oneAt s k j = true) ∧ wo = wi)
            case atStart => exact ⟨0, by omega, rfl, by omega, fun j hj => by omega, rfl⟩
            case round =>
              obtain ⟨c, hcm, rfl, hcn, HP, rfl⟩ := hrel
              have HM := Hid.in_ hcm
              clear hcm
              obtain ⟨p, hp⟩ : ∃ p, (k + c) % N = p := ⟨_, rfl⟩
              have hpn : p < N := by rw [← hp]; exact Nat.mod_lt _ (by omega)
              have hps : p < s.size := by omega
              have hm2 : ((k : Int) + (c : Int)) % (N : Int) = (p : Int) := by rw [← hp]; simp
              obtain ⟨x, hx⟩ : ∃ x : UInt8, s[p] = x := ⟨_, rfl⟩
              have hone : oneAt s k c = (x == 49) := by
                unfold oneAt
                rw [hN, hp, byteAt_eq hps, hx]
              clear hp
              obtain ⟨rfl, e3⟩ | ⟨n5, n6, e3⟩ := byte49 x
              · have HP2 := Hid.in_ (show ∀ j, j < c + 1 → oneAt s k j = true from fun j hj => by
                  rcases Nat.lt_or_ge j c with h | h
                  · exact HP.out j h
                  · obtain rfl : j = c := by omega
                    rw [hone]; rfl)
                have hcl : c + 1 < N := by
                  rcases Nat.lt_or_ge (c + 1) N with h | h
                  · exact h
                  · have : c = N - 1 := by omega
                    have h2 := HSS.out
                    rw [← this, hone] at h2
                    cases h2
                clear hone
                go_wp2
                have hM := HM.out
                go_roundg (gk - 1)
                case measure => omega
                case rel => exact ⟨c + 1, by omega, by go_num, hcl, HP2, rfl⟩
              · have HCN := Hid.in_ (HCS.out k c hcn (by rw [hone]; exact e3) HP.out)
                clear hone
                by_cases h10 : 10 ≤ c
                · have HS := Hid.in_ (show syncTo s (k + 1) = syncTo s k ++ [⟨(k : Int), (c : Nat)⟩] by
                    have := syncTo_yes (s := s) (k := k) (by unfold syncAt; rw [HSTT.out, HCN.out, decide_eq_true h10]; rfl)
                    rw [HCN.out] at this
                    exact this)
                  go_wp2_with (at_builtin; refine wpList_append_own _ rfl _ _ 81 rfl w'.heap.size 85 i0 (.agg #[.int .i64 0, .int .i64 0]) 2 16 Tryz.underlying81 hti hz0 hz1 hz2 rfl (by decide) _ _ _ rfl (HI.out.alloc _) ⟨wo.heap.size, 0, none⟩ 1 1 [.int .i64 k, .int .i64 c] rfl rfl cellsTwo (fun x hx => by simp at hx; rcases hx with rfl | rfl <;> rfl) (by have := HL.out; unfold maxLen; omega) (by have := HL.out; omega) (balloc HB.out _).size ?_; intro v4 w4 ho4 hg4 _)
                  have HB4 := Hid.in_ (bgrown (balloc HB.out _) (HI.out.alloc _) (Nat.le_refl _) hg4)
                  have HO4 := Hid.in_ (show w4.ownsRow w'.heap.size 85 2 v4 (syncTo s (k + 1)).length ((syncTo s (k + 1)).flatMap RunR.cells) by rw [HS.out, List.length_append, ← run_cells]; exact ho4)
                  clear ho4 hg4
                  have hk := HK.out
                  go_roundg (gO - 1)
                  case measure => omega
                  case rel => exact ⟨k + 1, by omega, by go_num, HO4, HB4⟩
                · have HS := Hid.in_ (syncTo_no (s := s) (k := k) (by unfold syncAt; rw [HSTT.out, HCN.out, decide_eq_false h10]; rfl))
                  go_wp2
                  have hk := HK.out
                  go_roundg (gO - 1)
                  case measure => omega
                  case rel => exact ⟨k + 1, by omega, by go_num, by rw [HS.out]; exact HI.out, HB.out⟩
        · have HS := Hid.in_ (syncTo_no (s := s) (k := k) (by unfold syncAt; rw [hst, e1]; rfl))
          clear hst hq
          go_wp2
          have hk := HK.out
          go_roundg (gk - 1)
          case measure => omega
          case rel => exact ⟨k + 1, by omega, by go_num, by rw [HS.out]; exact HI.out, HB.out⟩
      · have hk := HK.out
        obtain rfl : k = N := by omega
        go_wp2
        go_ret
        rw [HV.out]
        exact ⟨_, rfl, HI.out, HB.out⟩
  · rw [ho] at HC
    by_cases h10 : 10 ≤ s.size
    · have HV := Hid.in_ (show syncV s = [⟨0, (s.size : Nat)⟩] by unfold syncV; rw [hv, ho, if_pos rfl, if_pos rfl, if_pos h10])
      clear hv ho v3
      go_enter Tryz.func101, Tryz.ntmps101
      go_wp2_with (go_at_call 130; refine (HC.out _).mono ?_; rintro e w' ⟨rfl, rfl⟩)
      go_ret
      rw [HV.out]
      exact ⟨_, rfl, World.ownsRow_lit _ #[.int .i64 0, .int .i64 (s.size : Nat)] 1 (Nat.le_refl _) (by decide) rfl, balloc (Below.refl _ _) _⟩
    · have HV := Hid.in_ (show syncV s = [] by unfold syncV; rw [hv, ho, if_pos rfl, if_pos rfl, if_neg h10])
      clear hv ho v3
      go_enter Tryz.func101, Tryz.ntmps101
      go_wp2_with (go_at_call 130; refine (HC.out _).mono ?_; rintro e w' ⟨rfl, rfl⟩)
      go_ret
      rw [HV.out]
      exact ⟨_, rfl, World.ownsRow_nil _ _ _ _, Below.refl _ _⟩
set_option maxHeartbeats 4000000 in
theorem spec_l07Syncs (s : ByteArray) (w : World) (v1 : 0 < s.size) (v2 : s.size ≤ 8000) :
    Calls Tryz.prog 61 #[.string s] w fun e w' => ∃ v, e = .returned v ∧ w'.ownsRow w.heap.size 85 2 v (syncTo s s.size).length ((syncTo s s.size).flatMap RunR.cells) ∧ Below w.heap.size w w' := by
  obtain ⟨i0, hti, hz0, hz1, hz2⟩ := info_parts Tryz.info_CellRun
  obtain ⟨N, hN⟩ : ∃ N, s.size = N := ⟨_, rfl⟩
  have HST := Hid.in_ (fun i h => start_stop (s := s) (i := i) v1 h)
  have HCS := Hid.in_ (fun i d h1 h2 h3 => cnt_stop (s := s) (i := i) (d := d) h1 h2 h3)
  have HAT := Hid.in_ (fun (k : Nat) (w : World) (h : k ≤ 4294967296) => spec_l07At s k w v1 (by omega) h)
  rw [hN] at v1 v2 HST HCS HAT ⊢
  go_enter Tryz.func61, Tryz.ntmps61
  go_wp2
  go_loopg [4, 5] N (fun m v i wr => ∃ k : Nat, k + m = N ∧ i = .int .i64 k ∧ Hid (wr.ownsRow w.heap.size 85 2 v (syncTo s k).length ((syncTo s k).flatMap RunR.cells)) ∧ Hid (Below w.heap.size w wr))
  case atStart => exact ⟨0, by omega, rfl, World.ownsRow_lit w #[] 0 (Nat.le_refl _) (by decide) (by decide), balloc (Below.refl _ _) _⟩
  case round =>
    obtain ⟨k, hkm, rfl, HI, HB⟩ := hrel
    have HK := Hid.in_ hkm
    clear hkm
    by_cases hlt : k < N
    · have HL := Hid.in_ (syncTo_len s k)
      have hks : k < s.size := by omega
      obtain ⟨q, hq⟩ : ∃ q, (k + N - 1) % N = q := ⟨_, rfl⟩
      have HA1 := Hid.in_ (show ∀ w, Calls Tryz.prog 95 #[.string s, .int .i64 ((k : Int) + (N : Int) - 1)] w fun e w' => e = .returned (.int .u8 ((byteAt s q).toNat : Int)) ∧ w = w' from fun w => by
        have := HAT.out (k + N - 1) w (by omega)
        rw [hq, show ((k + N - 1 : Nat) : Int) = (k : Int) + (N : Int) - 1 by omega] at this
        exact this)
      obtain ⟨c, hc⟩ : ∃ c : UInt8, s[k] = c := ⟨_, rfl⟩
      obtain ⟨d, hd⟩ : ∃ d : UInt8, byteAt s q = d := ⟨_, rfl⟩
      have hst : startAt s k = ((c == 49) && !(d == 49)) := by
        unfold startAt
        rw [hN, hq, byteAt_eq hks, hd, hc]
      rw [hd] at HA1
      clear hd
      obtain ⟨rfl, e1⟩ | ⟨n1, n2, e1⟩ := byte49 c
      · obtain ⟨rfl, e2⟩ | ⟨n3, n4, e2⟩ := byte49 d
        · have HS := Hid.in_ (syncTo_no (s := s) (k := k) (by unfold syncAt; rw [hst]; rfl))
          clear hst hq
          go_wp2_with (go_at_call 95; refine (HA1.out _).mono ?_; rintro e w' ⟨rfl, rfl⟩)
          have hk := HK.out
          go_roundg (gk - 1)
          case measure => omega
          case rel => exact ⟨k + 1, by omega, by go_num, by rw [HS.out]; exact HI.out, HB.out⟩
        · have hstt : startAt s k = true := by rw [hst, e2]; rfl
          have HSTT := Hid.in_ hstt
          have HSS := Hid.in_ (HST.out k hstt)
          clear hst hq hstt
          go_wp2_with (go_at_call 95; refine (HA1.out _).mono ?_; rintro e w' ⟨rfl, rfl⟩)
          obtain ⟨gO, rfl⟩ : ∃ g, g = gk := ⟨_, rfl⟩
          go_loopg [6] N (fun m i wi => ∃ c : Nat, c + m = N ∧ i = .int .i64 c ∧ c < N ∧ Hid (∀ j, j < c → oneAt s k j = true) ∧ wr = wi)
          case atStart => exact ⟨0, by omega, rfl, by omega, fun j hj => by omega, rfl⟩
          case round =>
            obtain ⟨c, hcm, rfl, hcn, HP, rfl⟩ := hrel
            have HM := Hid.in_ hcm
            clear hcm
            obtain ⟨p, hp⟩ : ∃ p, (k + c) % N = p := ⟨_, rfl⟩
            have HA2 := Hid.in_ (show ∀ w, Calls Tryz.prog 95 #[.string s, .int .i64 ((k : Int) + (c : Int))] w fun e w' => e = .returned (.int .u8 ((byteAt s p).toNat : Int)) ∧ w = w' from fun w => by
              have := HAT.out (k + c) w (by omega)
              rw [hp, show ((k + c : Nat) : Int) = (k : Int) + (c : Int) by omega] at this
              exact this)
            obtain ⟨x, hx⟩ : ∃ x : UInt8, byteAt s p = x := ⟨_, rfl⟩
            have hone : oneAt s k c = (x == 49) := by
              unfold oneAt
              rw [hN, hp, hx]
            rw [hx] at HA2
            clear hp hx
            obtain ⟨rfl, e3⟩ | ⟨n5, n6, e3⟩ := byte49 x
            · have HP2 := Hid.in_ (show ∀ j, j < c + 1 → oneAt s k j = true from fun j hj => by
                rcases Nat.lt_or_ge j c with h | h
                · exact HP.out j h
                · obtain rfl : j = c := by omega
                  rw [hone]; rfl)
              have hcl : c + 1 < N := by
                rcases Nat.lt_or_ge (c + 1) N with h | h
                · exact h
                · have : c = N - 1 := by omega
                  have h2 := HSS.out
                  rw [← this, hone] at h2
                  cases h2
              clear hone
              go_wp2_with (go_at_call 95; refine (HA2.out _).mono ?_; rintro e w'' ⟨rfl, rfl⟩)
              have hM := HM.out
              go_roundg (gk - 1)
              case measure => omega
              case rel => exact ⟨c + 1, by omega, by go_num, hcl, HP2, rfl⟩
            · have HCN := Hid.in_ (HCS.out k c hcn (by rw [hone]; exact e3) HP.out)
              clear hone
              by_cases h10 : 10 ≤ c
              · have HS := Hid.in_ (show syncTo s (k + 1) = syncTo s k ++ [⟨(k : Int), (c : Nat)⟩] by
                  have := syncTo_yes (s := s) (k := k) (by unfold syncAt; rw [HSTT.out, HCN.out, decide_eq_true h10]; rfl)
                  rw [HCN.out] at this
                  exact this)
                go_wp2_with (first | (go_at_call 95; refine (HA2.out _).mono ?_; rintro e w'' ⟨rfl, rfl⟩) | (at_builtin; refine wpList_append_own _ rfl _ _ 81 rfl w.heap.size 85 i0 (.agg #[.int .i64 0, .int .i64 0]) 2 16 Tryz.underlying81 hti hz0 hz1 hz2 rfl (by decide) _ _ _ rfl (HI.out.alloc _) ⟨wr.heap.size, 0, none⟩ 1 1 [.int .i64 k, .int .i64 c] rfl rfl cellsTwo (fun x hx => by simp at hx; rcases hx with rfl | rfl <;> rfl) (by have := HL.out; unfold maxLen; omega) (by have := HL.out; omega) (balloc HB.out _).size ?_; intro v4 w4 ho4 hg4 _))
                have HB4 := Hid.in_ (bgrown (balloc HB.out _) (HI.out.alloc _) (Nat.le_refl _) hg4)
                have HO4 := Hid.in_ (show w4.ownsRow w.heap.size 85 2 v4 (syncTo s (k + 1)).length ((syncTo s (k + 1)).flatMap RunR.cells) by rw [HS.out, List.length_append, ← run_cells]; exact ho4)
                clear ho4 hg4
                have hk := HK.out
                go_roundg (gO - 1)
                case measure => omega
                case rel => exact ⟨k + 1, by omega, by go_num, HO4, HB4⟩
              · have HS := Hid.in_ (syncTo_no (s := s) (k := k) (by unfold syncAt; rw [HSTT.out, HCN.out, decide_eq_false h10]; rfl))
                go_wp2_with (go_at_call 95; refine (HA2.out _).mono ?_; rintro e w'' ⟨rfl, rfl⟩)
                have hk := HK.out
                go_roundg (gO - 1)
                case measure => omega
                case rel => exact ⟨k + 1, by omega, by go_num, by rw [HS.out]; exact HI.out, HB.out⟩
      · have HS := Hid.in_ (syncTo_no (s := s) (k := k) (by unfold syncAt; rw [hst, e1]; rfl))
        clear hst hq
        go_wp2
        have hk := HK.out
        go_roundg (gk - 1)
        case measure => omega
        case rel => exact ⟨k + 1, by omega, by go_num, by rw [HS.out]; exact HI.out, HB.out⟩
    · have hk := HK.out
      obtain rfl : k = N := by omega
      go_wp2
      go_ret
      exact ⟨_, rfl, HI.out, HB.out⟩
theorem syncV_len (s : ByteArray) : (syncV s).length ≤ 8000 := by
  unfold syncV
  split
  · rename_i h
    have := valid_size h
    split
    · split
      · show 1 ≤ 8000; omega
      · exact Nat.zero_le _
    · have := syncTo_len s s.size
      omega
  · exact Nat.zero_le _
end Go.Proofs.YtlelgpknkgjaeaaGreatDoor
