/- 'Interleave' of the program and of the reference. -/
import Derived.Test.YtmbhehoakpicdaaI64
import Derived.Test.YtmbhehoakpicdaaRow
import Derived.Deep.LoopGhost
namespace Go.Proofs.Ytmbhehoakpicdaa
open Go.ChangeShapes Go.WideShapes Go.ChangeAt Go.RowKit
set_option linter.unusedSimpArgs false
set_option linter.unusedVariables false

def ilProbe (P : List Int) (n : Nat) : Nat → Nat → Nat
  | 0, a => a
  | f + 1, a => if P.getD a (-1) < 0 then a else ilProbe P n f ((a + 1) % n)
def ilStart (n t s a : Nat) : Nat := if s = 0 then 0 else (a + t) % n
def il (n t : Nat) : Nat → List Int × Nat
  | 0 => (List.replicate n (-1), 0)
  | s + 1 => ((il n t s).1.set (ilProbe (il n t s).1 n 8 (ilStart n t s (il n t s).2)) (s : Int), ilProbe (il n t s).1 n 8 (ilStart n t s (il n t s).2))
def ilGood (n t s : Nat) : Bool := (il n t s).1.length == n && decide ((il n t s).2 < n) && decide (ilStart n t s (il n t s).2 < n) &&
  decide (ilProbe (il n t s).1 n 8 (ilStart n t s (il n t s).2) < n) && ((il n t s).1[ilProbe (il n t s).1 n 8 (ilStart n t s (il n t s).2)]? == some (-1))
theorem il_good : ∀ n, n < 9 → ∀ t, t < 9 → 1 ≤ n → 1 ≤ t → ∀ s, s < n → ilGood n t s = true := by decide +kernel
theorem il_done : ∀ n, n < 9 → ∀ t, t < 9 → 1 ≤ n → 1 ≤ t → ((il n t n).1.length = n ∧ ((il n t n).1.map fun x => if x < 0 then 0 else x) = (il n t n).1) := by decide +kernel

theorem I64_set (xs : List Int) (k : Nat) (x : Int) : (I64 xs).set k (.int .i64 x) = I64 (xs.set k x) := by simp [I64, List.map_set]

theorem ilProbe_stop {P : List Int} {n r a q : Nat} {x : Int} (h : ilProbe P n r a = q) (hx : P[a]? = some x) (hn : x < 0) : a = q := by
  cases r with
  | zero => exact h
  | succ r =>
    rw [ilProbe, if_pos (by rw [List.getD_eq_getElem?_getD, hx]; exact hn)] at h
    exact h
theorem ilProbe_go {P : List Int} {n r a q : Nat} {x : Int} (h : ilProbe P n r a = q) (hx : P[a]? = some x) (hn : 0 ≤ x) (hq : P[q]? = some (-1)) : ∃ r', r = r' + 1 ∧ ilProbe P n r' ((a + 1) % n) = q := by
  cases r with
  | zero =>
    have : a = q := h
    subst this
    rw [hx] at hq
    injection hq with hq
    omega
  | succ r =>
    rw [ilProbe, if_neg (by rw [List.getD_eq_getElem?_getD, hx]; simp; omega)] at h
    exact ⟨r, rfl, h⟩

def fillTo (n k : Nat) : List Int := List.replicate k (-1) ++ List.replicate (n - k) 0
theorem fillTo_set {n k : Nat} (h : k < n) : (fillTo n k).set k (-1) = fillTo n (k + 1) := by
  unfold fillTo
  rw [List.set_append_right _ _ (by simp), List.length_replicate, Nat.sub_self]
  obtain ⟨m, hm⟩ : ∃ m, n - k = m + 1 := ⟨n - k - 1, by omega⟩
  rw [hm, List.replicate_succ, List.set_cons_zero, show n - (k + 1) = m from by omega, List.replicate_succ' (n := k)]
  simp

theorem Try.info_i64 : (Try.prog.info? 2).map (fun i => (i.zero, i.size, i.bytes)) = some (some (.int .i64 0), 1, 8) := by kernel_rfl
theorem Try.info_bool : (Try.prog.info? 4).map (fun i => (i.zero, i.size, i.bytes)) = some (some (.bool false), 1, 1) := by kernel_rfl

def ilOk (a b : Int) : Bool := inB a 1 8 && inB b 1 8
def ilRes (a b : Int) : List Int := if ilOk a b = true then (il a.toNat b.toNat a.toNat).1 else []
def ilLen (a b : Int) : Nat := if ilOk a b = true then a.toNat else 0

theorem cast_mod (a t n : Nat) : ((a : Int) + (t : Int)) % (n : Int) = (((a + t) % n : Nat) : Int) := by simp
theorem cast_mod1 (a n : Nat) : ((a : Int) + 1) % (n : Int) = (((a + 1) % n : Nat) : Int) := by simp
set_option maxHeartbeats 1000000 in
theorem impl_Interleave_in (n t : Nat) (w : World) (hn1 : 1 ≤ n) (hn8 : n ≤ 8) (ht1 : 1 ≤ t) (ht8 : t ≤ 8) :
    Calls Try.prog 30 #[.int .i64 n, .int .i64 t] w fun e w' => ∃ v, e = .returned (.tuple #[v, .bool true]) ∧ w'.ownsRow w.heap.size 2 1 v n (I64 (il n t n).1) ∧ Below w.heap.size w w' := by
  have b1 : inB (n : Int) 1 8 = true := inB_mk (by omega) (by omega)
  have b2 : inB (t : Int) 1 8 = true := inB_mk (by omega) (by omega)
  obtain ⟨i0, hi0, hz0, hz1, hz2⟩ := info_parts Try.info_i64
  go_enter Try.func30, Try.ntmps30
  go_wp2_with (first | (go_at_call 42; refine (impl_within _ _ _ _).mono ?_; rintro e w' ⟨rfl, rfl⟩) | (at_make; refine wpList_make_full _ rfl _ _ _ rfl w.heap.size 2 i0 _ 1 Try.underlying46 hi0 hz0 hz1 _ _ _ _ n rfl rfl rfl rfl (by rw [hz2]; omega) (by unfold maxLen; omega) (Nat.le_refl _) ?_; intro w1 hown hgrow))
  have HO : Hid (w1.ownsRow w.heap.size 2 1 (.slice (some ⟨w.heap.size, 0, none⟩) n n) n (I64 (fillTo n 0)) ∧ Below w.heap.size w w1) := by
    refine ⟨?_, (Below.refl _ _).grown hgrow (Nat.le_refl _) (by simp)⟩
    have h : (madeCells (Value.int .i64 0).cells (n * 1)).toList = I64 (fillTo n 0) := by
      show (madeCells #[Value.int .i64 0] (n * 1)).toList = _
      rw [toList_madeCells_one]
      simp [I64, fillTo]
    rw [← h]
    exact hown
  clear hown hgrow
  go_loopg [22] n (fun m i wr => ∃ k : Nat, k + m = n ∧ i = .int .i64 k ∧ Hid (wr.ownsRow w.heap.size 2 1 (.slice (some ⟨w.heap.size, 0, none⟩) n n) n (I64 (fillTo n k)) ∧ Below w.heap.size w wr))
  case atStart => exact ⟨0, by omega, rfl, HO⟩
  case round =>
    clear HO
    obtain ⟨k, hkm, rfl, HO⟩ := hrel
    have HK := Hid.in_ hkm
    clear hkm
    by_cases hlt : k < n
    · have hl : (fillTo n k).length = n := by unfold fillTo; simp; omega
      obtain ⟨u, hu⟩ := get_lt (I64 (fillTo n k)) k (by rw [I64_len, hl]; exact hlt)
      have f1 := HO.out.1.cellAt k (by omega)
      rw [hu] at f1
      have f2 := HO.out.1.frozenAt k
      have HO2 : Hid ((wr.setCell ⟨w.heap.size, k, none⟩ (.int .i64 (-1))).ownsRow w.heap.size 2 1 (.slice (some ⟨w.heap.size, 0, none⟩) n n) n (I64 (fillTo n (k + 1))) ∧ Below w.heap.size w (wr.setCell ⟨w.heap.size, k, none⟩ (.int .i64 (-1)))) := by
        have h1 := (HO.out.1.stored k (.int .i64 (-1)))
        rw [I64_set, fillTo_set hlt] at h1
        exact ⟨h1.1, HO.out.2.setCell (Nat.le_refl _) _⟩
      clear HO hl hu
      go_wp2
      have hk := HK.out
      go_roundg (gk - 1)
      case measure => omega
      case rel => exact ⟨k + 1, by omega, by go_num, HO2⟩
    · have hk := HK.out
      obtain rfl : k = n := by omega
      have HO3 : Hid (wr.ownsRow w.heap.size 2 1 (.slice (some ⟨w.heap.size, 0, none⟩) k k) k (I64 (il k t 0).1) ∧ Below w.heap.size w wr) := by
        have h := HO.out
        unfold Hid
        simpa [fillTo, il] using h
      clear HO hk HK
      go_wp2
      obtain ⟨wm, rfl⟩ : ∃ wm : World, wm = wr := ⟨_, rfl⟩
      go_loopg [8, 30] k (fun m a i wr => ∃ s : Nat, s + m = k ∧ i = .int .i64 s ∧ a = .int .i64 ((il k t s).2 : Nat) ∧ Hid (wr.ownsRow w.heap.size 2 1 (.slice (some ⟨w.heap.size, 0, none⟩) k k) k (I64 (il k t s).1) ∧ Below w.heap.size w wr))
      case atStart => exact ⟨0, by omega, rfl, rfl, HO3⟩
      case round =>
        clear HO3
        obtain ⟨s, hsm, rfl, rfl, HO⟩ := hrel
        have HS := Hid.in_ hsm
        clear hsm
        by_cases hlt : s < k
        · have hg := il_good k (by omega) t (by omega) hn1 ht1 s hlt
          unfold ilGood at hg
          simp only [Bool.and_eq_true, beq_iff_eq, decide_eq_true_eq] at hg
          obtain ⟨⟨⟨⟨g1, g2⟩, g3⟩, g4⟩, g5⟩ := hg
          have HP : Hid (ilProbe (il k t s).1 k 8 (ilStart k t s (il k t s).2) = (il k t (s + 1)).2 ∧ (il k t s).1.length = k ∧ (il k t s).1[(il k t (s + 1)).2]? = some (-1) ∧ (il k t (s + 1)).1 = (il k t s).1.set (il k t (s + 1)).2 (s : Int)) := ⟨rfl, g1, g5, rfl⟩
          have g4' : (il k t (s + 1)).2 < k := g4
          have HST : Hid ((s = 0 → (il k t s).2 = ilStart k t s (il k t s).2) ∧ (s ≠ 0 → (((il k t s).2 : Int) + (t : Int)) % (k : Int) = ((ilStart k t s (il k t s).2 : Nat) : Int))) :=
            ⟨fun h => by subst h; rfl, fun h => by rw [cast_mod]; simp [ilStart, h]⟩
          clear g1 g4 g5
          generalize ilStart k t s (il k t s).2 = st at *
          generalize (il k t s).2 = a0 at *
          generalize hqq : (il k t (s + 1)).2 = q at *
          have HQ := Hid.in_ hqq
          have HU : Hid (∀ a : Nat, a < k → ∃ x, (il k t s).1[a]? = some x) := fun a h => get_lt (il k t s).1 a (by rw [HP.out.2.1]; exact h)
          have HT : Hid (∀ r a : Nat, ∀ x : Int, ilProbe (il k t s).1 k r a = q → (il k t s).1[a]? = some x → 0 ≤ x → ∃ r', r = r' + 1 ∧ ilProbe (il k t s).1 k r' ((a + 1) % k) = q) := fun r a x h1 h2 h3 => ilProbe_go h1 h2 h3 HP.out.2.2.1
          have HM : Hid (∀ a : Nat, (a + 1) % k < k) := fun a => Nat.mod_lt _ (by omega)
          have HF : Hid ((wr.setCell ⟨w.heap.size, q, none⟩ (.int .i64 (s : Int))).ownsRow w.heap.size 2 1 (.slice (some ⟨w.heap.size, 0, none⟩) k k) k (I64 (il k t (s + 1)).1) ∧ Below w.heap.size w (wr.setCell ⟨w.heap.size, q, none⟩ (.int .i64 (s : Int)))) := by
            have h1 := HO.out.1.stored q (.int .i64 (s : Int))
            rw [I64_set, ← HP.out.2.2.2] at h1
            exact ⟨h1.1, HO.out.2.setCell (Nat.le_refl _) _⟩
          have fq := HO.out.1.frozenAt q
          have cq := HO.out.1.cellAt q (by omega)
          rw [I64_get HP.out.2.2.1] at cq
          clear hqq
          by_cases hs0 : 0 < s
          case' neg => have hs1 : s = 0 := by omega
          case' neg => have HST1 := Hid.in_ (HST.out.1 hs1)
          case' neg => subst hs1
          case' pos => have HST1 := Hid.in_ (HST.out.2 (by omega))
          all_goals
            go_wp2
            obtain ⟨wo, rfl⟩ : ∃ wo : World, wo = wr := ⟨_, rfl⟩
            obtain ⟨gO, rfl⟩ : ∃ gO : Nat, gO = gk := ⟨_, rfl⟩
            go_loopg [8] 8 (fun r a wi => ∃ c : Nat, a = .int .i64 c ∧ c < k ∧ Hid (ilProbe (il k t _).1 k r c = q) ∧ wo = wi)
            case atStart => exact ⟨st, by rw [HST1.out], g3, HP.out.1, rfl⟩
            case round =>
              obtain ⟨c, rfl, hc, HR, rfl⟩ := hrel
              obtain ⟨x, hx⟩ := HU.out c hc
              have f1 := HO.out.1.cellAt c (by omega)
              rw [I64_get hx] at f1
              by_cases h0 : 0 ≤ x
              · obtain ⟨r', hr, hp⟩ := HT.out _ c x HR.out hx h0
                have HR2 := Hid.in_ hr
                have HP2 := Hid.in_ hp
                clear hr hp hx
                go_wp2
                have hr := HR2.out
                go_roundg r'
                case measure => omega
                case rel => exact ⟨(c + 1) % k, by rw [cast_mod1], HM.out c, HP2.out, rfl⟩
              · have hq : c = q := ilProbe_stop HR.out hx (by omega)
                subst hq
                clear hx
                go_wp2
                have hk := HS.out
                go_roundg (gO - 1)
                case measure => omega
                case rel => exact ⟨_, by omega, by go_num, by rw [HQ.out], HF⟩
        · have hk := HS.out
          obtain rfl : s = k := by omega
          go_wp2
          go_ret2
          exact ⟨_, rfl, HO.out⟩
def BL (bs : List Bool) : List Value := bs.map Value.bool
theorem BL_get {bs : List Bool} {i : Nat} {x : Bool} (h : bs[i]? = some x) : (BL bs)[i]? = some (.bool x) := by simp [BL, h]
theorem BL_set (bs : List Bool) (k : Nat) (x : Bool) : (BL bs).set k (.bool x) = BL (bs.set k x) := by simp [BL, List.map_set]
def usedOf (P : List Int) : List Bool := P.map fun x => decide (0 ≤ x)
def outOf (P : List Int) : List Int := P.map fun x => if x < 0 then 0 else x
theorem usedOf_set (P : List Int) (q s : Nat) : (usedOf P).set q true = usedOf (P.set q (s : Int)) := by
  unfold usedOf
  rw [List.map_set, decide_eq_true (by omega)]
theorem outOf_set (P : List Int) (q s : Nat) : (outOf P).set q (s : Int) = outOf (P.set q (s : Int)) := by
  unfold outOf
  rw [List.map_set, if_neg (by omega)]

set_option maxHeartbeats 1000000 in
theorem spec_Interleave_in (n t : Nat) (w : World) (hn1 : 1 ≤ n) (hn8 : n ≤ 8) (ht1 : 1 ≤ t) (ht8 : t ≤ 8) :
    Calls Try.prog 29 #[.int .i64 n, .int .i64 t] w fun e w' => ∃ v, e = .returned (.tuple #[v, .bool true]) ∧ w'.ownsRow w.heap.size 2 1 v n (I64 (il n t n).1) ∧ Below w.heap.size w w' := by
  have b1 : inB (n : Int) 1 8 = true := inB_mk (by omega) (by omega)
  have b2 : inB (t : Int) 1 8 = true := inB_mk (by omega) (by omega)
  obtain ⟨i0, hi0, hz0, hz1, hz2⟩ := info_parts Try.info_i64
  obtain ⟨i1, hi1, hy0, hy1, hy2⟩ := info_parts Try.info_bool
  go_enter Try.func29, Try.ntmps29
  go_wp2_with (first | (go_at_call 41; refine (bool_is (spec_l00In _ _ _ _) (by assumption)).mono ?_; rintro e w' ⟨rfl, rfl⟩) | (at_make; refine wpList_make_full _ rfl _ _ 46 rfl w.heap.size 2 i0 _ 1 Try.underlying46 hi0 hz0 hz1 _ _ _ _ n rfl rfl rfl rfl (by rw [hz2]; omega) (by unfold maxLen; omega) (Nat.le_refl _) ?_; intro w1 hown hgrow) | (at_make; refine wpList_make_full _ rfl _ _ 66 rfl w1.heap.size 4 i1 _ 1 Try.underlying66 hi1 hy0 hy1 _ _ _ _ n rfl rfl rfl rfl (by rw [hy2]; omega) (by unfold maxLen; omega) (Nat.le_refl _) ?_; intro w2 hown2 hgrow2))
  have hlt1 : w.heap.size < w1.heap.size := (hown.lt _ rfl).2
  have hb1 : Below w.heap.size w w1 := (Below.refl _ _).grown hgrow (Nat.le_refl _) (by simp)
  have hb2 : Below w.heap.size w w2 := hb1.grown hgrow2 hb1.size (by simp)
  have HO3 : Hid (w2.ownsRow w.heap.size 2 1 (.slice (some ⟨w.heap.size, 0, none⟩) n n) n (I64 (outOf (il n t 0).1)) ∧ w2.ownsRow w1.heap.size 4 1 (.slice (some ⟨w1.heap.size, 0, none⟩) n n) n (BL (usedOf (il n t 0).1)) ∧ Below w.heap.size w w2) := by
    refine ⟨?_, ?_, hb2⟩
    · have h := hown.kept hgrow2 (.inr (by simp [Value.ownBlock]))
      have h2 : (madeCells (Value.int .i64 0).cells (n * 1)).toList = I64 (outOf (il n t 0).1) := by
        show (madeCells #[Value.int .i64 0] (n * 1)).toList = _
        rw [toList_madeCells_one]
        simp [I64, outOf, il]
      rw [← h2]
      exact h
    · have h2 : (madeCells (Value.bool false).cells (n * 1)).toList = BL (usedOf (il n t 0).1) := by
        show (madeCells #[Value.bool false] (n * 1)).toList = _
        rw [toList_madeCells_one]
        simp [BL, usedOf, il]
      rw [← h2]
      exact hown2
  clear hown hgrow hown2 hgrow2 hb1 hb2
  generalize w1.heap.size = u at *
  go_loopg [8, 9] n (fun m a i wr => ∃ s : Nat, s + m = n ∧ i = .int .i64 s ∧ a = .int .i64 (ilStart n t s (il n t s).2 : Nat) ∧ Hid (wr.ownsRow w.heap.size 2 1 (.slice (some ⟨w.heap.size, 0, none⟩) n n) n (I64 (outOf (il n t s).1)) ∧ wr.ownsRow u 4 1 (.slice (some ⟨u, 0, none⟩) n n) n (BL (usedOf (il n t s).1)) ∧ Below w.heap.size w wr))
  case atStart => exact ⟨0, by omega, rfl, rfl, HO3⟩
  case round =>
    clear HO3
    obtain ⟨s, hsm, rfl, rfl, HO⟩ := hrel
    have HS := Hid.in_ hsm
    clear hsm
    by_cases hlt : s < n
    · have hg := il_good n (by omega) t (by omega) hn1 ht1 s hlt
      unfold ilGood at hg
      simp only [Bool.and_eq_true, beq_iff_eq, decide_eq_true_eq] at hg
      obtain ⟨⟨⟨⟨g1, g2⟩, g3⟩, g4⟩, g5⟩ := hg
      have HP : Hid (ilProbe (il n t s).1 n 8 (ilStart n t s (il n t s).2) = (il n t (s + 1)).2 ∧ (il n t s).1.length = n ∧ (il n t s).1[(il n t (s + 1)).2]? = some (-1) ∧ (il n t (s + 1)).1 = (il n t s).1.set (il n t (s + 1)).2 (s : Int)) := ⟨rfl, g1, g5, rfl⟩
      have g4' : (il n t (s + 1)).2 < n := g4
      have HN : Hid ((((il n t (s + 1)).2 : Int) + (t : Int)) % (n : Int) = ((ilStart n t (s + 1) (il n t (s + 1)).2 : Nat) : Int)) := by
        show (((il n t (s + 1)).2 : Int) + (t : Int)) % (n : Int) = _
        rw [cast_mod]
        simp [ilStart]
      clear g1 g2 g4 g5
      generalize ilStart n t s (il n t s).2 = st at *
      generalize hqq : (il n t (s + 1)).2 = q at *
      have HQ := Hid.in_ hqq
      have HU : Hid (∀ a : Nat, a < n → ∃ x, (il n t s).1[a]? = some x) := fun a h => get_lt (il n t s).1 a (by rw [HP.out.2.1]; exact h)
      have HT : Hid (∀ r a : Nat, ∀ x : Int, ilProbe (il n t s).1 n r a = q → (il n t s).1[a]? = some x → 0 ≤ x → ∃ r', r = r' + 1 ∧ ilProbe (il n t s).1 n r' ((a + 1) % n) = q) := fun r a x h1 h2 h3 => ilProbe_go h1 h2 h3 HP.out.2.2.1
      have HM : Hid (∀ a : Nat, (a + 1) % n < n) := fun a => Nat.mod_lt _ (by omega)
      have h1 := HO.out.2.1.stored q (.bool true)
      rw [BL_set, usedOf_set _ q s, ← HP.out.2.2.2] at h1
      have h2 := (HO.out.1.kept h1.2 (.inr (by simp [Value.ownBlock]; omega))).stored q (.int .i64 (s : Int))
      rw [I64_set, outOf_set, ← HP.out.2.2.2] at h2
      have HF : Hid (((wr.setCell ⟨u, q, none⟩ (.bool true)).setCell ⟨w.heap.size, q, none⟩ (.int .i64 (s : Int))).ownsRow w.heap.size 2 1 (.slice (some ⟨w.heap.size, 0, none⟩) n n) n (I64 (outOf (il n t (s + 1)).1)) ∧
          ((wr.setCell ⟨u, q, none⟩ (.bool true)).setCell ⟨w.heap.size, q, none⟩ (.int .i64 (s : Int))).ownsRow u 4 1 (.slice (some ⟨u, 0, none⟩) n n) n (BL (usedOf (il n t (s + 1)).1)) ∧
          Below w.heap.size w ((wr.setCell ⟨u, q, none⟩ (.bool true)).setCell ⟨w.heap.size, q, none⟩ (.int .i64 (s : Int)))) :=
        ⟨h2.1, h1.1.kept h2.2 (.inr (by simp [Value.ownBlock]; omega)), (HO.out.2.2.setCell (Nat.le_of_lt hlt1) _).setCell (Nat.le_refl _) _⟩
      have fq := HO.out.2.1.frozenAt q
      have cq := HO.out.2.1.cellAt q (by omega)
      rw [BL_get (x := false) (by unfold usedOf; simp [HP.out.2.2.1])] at cq
      have fq2 := HO.out.1.frozenAt q
      have cq2 := HO.out.1.cellAt q (by omega)
      rw [I64_get (x := 0) (by unfold outOf; simp [HP.out.2.2.1])] at cq2
      clear hqq h1 h2
      go_wp2
      obtain ⟨wo, rfl⟩ : ∃ wo : World, wo = wr := ⟨_, rfl⟩
      obtain ⟨gO, rfl⟩ : ∃ gO : Nat, gO = gk := ⟨_, rfl⟩
      go_loopg [8] 8 (fun r a wi => ∃ c : Nat, a = .int .i64 c ∧ c < n ∧ Hid (ilProbe (il n t s).1 n r c = q) ∧ wo = wi)
      case atStart => exact ⟨st, rfl, g3, HP.out.1, rfl⟩
      case round =>
        obtain ⟨c, rfl, hc, HR, rfl⟩ := hrel
        obtain ⟨x, hx⟩ := HU.out c hc
        have f1 := HO.out.2.1.cellAt c (by omega)
        by_cases h0 : 0 ≤ x
        · rw [BL_get (x := true) (by unfold usedOf; simp [hx, h0])] at f1
          obtain ⟨r', hr, hp⟩ := HT.out _ c x HR.out hx h0
          have HR2 := Hid.in_ hr
          have HP2 := Hid.in_ hp
          clear hr hp hx
          go_wp2
          have hr := HR2.out
          go_roundg r'
          case measure => omega
          case rel => exact ⟨(c + 1) % n, by rw [cast_mod1], HM.out c, HP2.out, rfl⟩
        · have hq : c = q := ilProbe_stop HR.out hx (by omega)
          subst hq
          clear hx f1
          go_wp2
          have hk := HS.out
          go_roundg (gO - 1)
          case measure => omega
          case rel => exact ⟨s + 1, by omega, by go_num, by rw [HN.out, HQ.out], HF⟩
    · have hk := HS.out
      obtain rfl : s = n := by omega
      have HD := Hid.in_ (il_done s (by omega) t (by omega) hn1 ht1).2
      go_wp2
      go_ret2
      refine ⟨_, rfl, ?_, HO.out.2.2⟩
      have := HO.out.1
      unfold outOf at this
      rw [HD.out] at this
      exact this
theorem ilRes_yes {n t : Nat} (hn1 : 1 ≤ n) (hn8 : n ≤ 8) (ht1 : 1 ≤ t) (ht8 : t ≤ 8) : ilOk n t = true ∧ ilRes n t = (il n t n).1 ∧ ilLen n t = n := by
  have h : ilOk (n : Int) (t : Int) = true := by unfold ilOk; rw [inB_mk (by omega) (by omega), inB_mk (by omega) (by omega)]; rfl
  unfold ilRes ilLen
  rw [if_pos h, if_pos h]
  exact ⟨h, rfl, rfl⟩
theorem ilRes_no {a b : Int} (h : ilOk a b = false) : ilRes a b = [] ∧ ilLen a b = 0 := by
  unfold ilRes ilLen
  rw [if_neg (by rw [h]; decide), if_neg (by rw [h]; decide)]
  exact ⟨rfl, rfl⟩
theorem il_cases (a b : Int) : (inB a 1 8 = false ∧ Hid (ilOk a b = false)) ∨ (inB a 1 8 = true ∧ inB b 1 8 = false ∧ Hid (ilOk a b = false)) ∨ ∃ n t : Nat, a = n ∧ b = t ∧ 1 ≤ n ∧ n ≤ 8 ∧ 1 ≤ t ∧ t ≤ 8 := by
  unfold Hid ilOk
  cases h1 : inB a 1 8
  · exact .inl ⟨rfl, rfl⟩
  · cases h2 : inB b 1 8
    · exact .inr (.inl ⟨rfl, rfl, rfl⟩)
    · have := inB_t h1
      have := inB_t h2
      exact .inr (.inr ⟨a.toNat, b.toNat, by omega, by omega, by omega, by omega, by omega, by omega⟩)
def IlPost (a b : Int) (w : World) (e : Ending) (w' : World) : Prop := ∃ v, e = .returned (.tuple #[v, .bool (ilOk a b)]) ∧ w'.ownsRow w.heap.size 2 1 v (ilLen a b) (I64 (ilRes a b)) ∧ Below w.heap.size w w'
theorem impl_Interleave (a b : Int) (w : World) : Calls Try.prog 30 #[.int .i64 a, .int .i64 b] w (IlPost a b w) := by
  obtain ⟨h1, HV⟩ | ⟨h1, h2, HV⟩ | ⟨n, t, rfl, rfl, hn1, hn8, ht1, ht8⟩ := il_cases a b
  · go_enter Try.func30, Try.ntmps30
    go_wp2_with (go_at_call 42; refine (bool_is (impl_within _ _ _ _) (by assumption)).mono ?_; rintro e w' ⟨rfl, rfl⟩)
    go_ret2
    exact ⟨.slice none 0 0, by rw [HV.out]; rfl, by rw [(ilRes_no HV.out).1, (ilRes_no HV.out).2]; exact World.ownsRow_nil _ _ _ _, Below.refl _ _⟩
  · go_enter Try.func30, Try.ntmps30
    go_wp2_with (go_at_call 42; refine (bool_is (impl_within _ _ _ _) (by assumption)).mono ?_; rintro e w' ⟨rfl, rfl⟩)
    go_ret2
    exact ⟨.slice none 0 0, by rw [HV.out]; rfl, by rw [(ilRes_no HV.out).1, (ilRes_no HV.out).2]; exact World.ownsRow_nil _ _ _ _, Below.refl _ _⟩
  · refine (impl_Interleave_in n t w hn1 hn8 ht1 ht8).mono fun e w' ⟨v, he, ho, hb⟩ => ?_
    obtain ⟨h1, h2, h3⟩ := ilRes_yes hn1 hn8 ht1 ht8
    exact ⟨v, by rw [he, h1], by rw [h2, h3]; exact ho, hb⟩
theorem spec_Interleave (a b : Int) (w : World) : Calls Try.prog 29 #[.int .i64 a, .int .i64 b] w (IlPost a b w) := by
  obtain ⟨h1, HV⟩ | ⟨h1, h2, HV⟩ | ⟨n, t, rfl, rfl, hn1, hn8, ht1, ht8⟩ := il_cases a b
  · go_enter Try.func29, Try.ntmps29
    go_wp2_with (go_at_call 41; refine (bool_is (spec_l00In _ _ _ _) (by assumption)).mono ?_; rintro e w' ⟨rfl, rfl⟩)
    go_ret2
    exact ⟨.slice none 0 0, by rw [HV.out]; rfl, by rw [(ilRes_no HV.out).1, (ilRes_no HV.out).2]; exact World.ownsRow_nil _ _ _ _, Below.refl _ _⟩
  · go_enter Try.func29, Try.ntmps29
    go_wp2_with (go_at_call 41; refine (bool_is (spec_l00In _ _ _ _) (by assumption)).mono ?_; rintro e w' ⟨rfl, rfl⟩)
    go_ret2
    exact ⟨.slice none 0 0, by rw [HV.out]; rfl, by rw [(ilRes_no HV.out).1, (ilRes_no HV.out).2]; exact World.ownsRow_nil _ _ _ _, Below.refl _ _⟩
  · refine (spec_Interleave_in n t w hn1 hn8 ht1 ht8).mono fun e w' ⟨v, he, ho, hb⟩ => ?_
    obtain ⟨h1, h2, h3⟩ := ilRes_yes hn1 hn8 ht1 ht8
    exact ⟨v, by rw [he, h1], by rw [h2, h3]; exact ho, hb⟩
theorem ilLen_le (a b : Int) : ilLen a b ≤ 8 := by
  obtain ⟨h1, HV⟩ | ⟨h1, h2, HV⟩ | ⟨n, t, rfl, rfl, hn1, hn8, ht1, ht8⟩ := il_cases a b
  · rw [(ilRes_no HV.out).2]; omega
  · rw [(ilRes_no HV.out).2]; omega
  · rw [(ilRes_yes hn1 hn8 ht1 ht8).2.2]; exact hn8
end Go.Proofs.Ytmbhehoakpicdaa
