/- 'gcrMarks' of the program: the marks of the group code. -/
import Derived.Test.YtlelgpknkgjaeaaGreatDoorMksI
namespace Go.Proofs.YtlelgpknkgjaeaaGreatDoor
open Go.ChangeShapes Go.WideShapes Go.ChangeAt Go.RowKit
set_option linter.unusedSimpArgs false
set_option linter.unusedVariables false
set_option maxRecDepth 4000

theorem fits_mod (s p : ByteArray) (e : Nat) : fitsB s p (e % s.size) = fitsB s p e := by
  have h : sliceL s.data.toList (e % s.size) p.size = sliceL s.data.toList e p.size := by
    apply List.ext_getElem?
    intro i
    by_cases hi : i < p.size
    · rw [sliceL_get hi, sliceL_get hi, Nat.mod_add_mod]
    · rw [List.getElem?_eq_none (by rw [sliceL_len]; omega), List.getElem?_eq_none (by rw [sliceL_len]; omega)]
  unfold fitsB
  rw [h]
theorem syncV_mem {s : ByteArray} (hv : validCells s = true) {r : RunR} (h : r ∈ syncV s) : ∃ i q : Nat, r = ⟨(i : Int), (q : Int)⟩ ∧ i < s.size ∧ q ≤ s.size ∧ 10 ≤ s.size := by
  obtain ⟨v1, v2, v3⟩ := valid_size hv
  unfold syncV at h
  rw [if_pos hv] at h
  split at h
  · split at h
    · rename_i h10
      rw [List.mem_singleton] at h
      exact ⟨0, s.size, h, v1, Nat.le_refl _, h10⟩
    · cases h
  · obtain ⟨j, e, hj, hs⟩ := syncTo_mem h
    unfold syncAt at hs
    rw [Bool.and_eq_true, decide_eq_true_eq] at hs
    have := cnt_le s j
    exact ⟨j, cnt s j, e, hj, this, by omega⟩
def gTo (s : ByteArray) (j : Nat) : List MarkR := ((syncV s).take j).flatMap (gcrAt s)
theorem gTo_succ {s : ByteArray} {j : Nat} {r : RunR} (h : (syncV s)[j]? = some r) : gTo s (j + 1) = gTo s j ++ gcrAt s r := by
  unfold gTo; rw [List.take_add_one, h, List.flatMap_append]; simp
theorem gTo_all {s : ByteArray} {j : Nat} (h : (syncV s).length ≤ j) : gTo s j = gcrI s := by
  unfold gTo gcrI; rw [List.take_of_length_le h]
def oneTo (s : ByteArray) (r : RunR) : Nat → List MarkR
  | 0 => []
  | k + 1 => oneTo s r k ++ (if k = 0 then [] else gcrOne s r k)
theorem oneTo_succ {s : ByteArray} {r : RunR} {k : Nat} (h : 1 ≤ k) : oneTo s r (k + 1) = oneTo s r k ++ gcrOne s r k := by
  show oneTo s r k ++ (if k = 0 then [] else gcrOne s r k) = _
  rw [if_neg (by omega)]
theorem oneTo_all (s : ByteArray) (r : RunR) : oneTo s r 4 = gcrAt s r := by
  rw [oneTo_succ (by decide), oneTo_succ (by decide), oneTo_succ (by decide)]
  rfl
theorem gcrOne_len (s : ByteArray) (r : RunR) (k : Int) : (gcrOne s r k).length ≤ 1 := by
  unfold gcrOne
  split <;> simp
theorem oneTo_len (s : ByteArray) (r : RunR) : ∀ k, (oneTo s r k).length ≤ k
  | 0 => Nat.le_refl _
  | k + 1 => by
    show (oneTo s r k ++ (if k = 0 then [] else gcrOne s r k)).length ≤ _
    rw [List.length_append]
    have := oneTo_len s r k
    have := gcrOne_len s r k
    have hx : ((if k = 0 then [] else gcrOne s r k) : List MarkR).length ≤ 1 := by
      split
      · exact Nat.zero_le _
      · omega
    omega
theorem gTo_len (s : ByteArray) (j : Nat) : (gTo s j).length ≤ j := by
  have h : ∀ L : List RunR, (L.flatMap (gcrAt s)).length ≤ L.length := by
    intro L
    induction L with
    | nil => exact Nat.le_refl _
    | cons r L ih =>
      rw [List.flatMap_cons, List.length_append, List.length_cons]
      rcases gcrAt_len s r with e | ⟨m, e, _⟩ <;> rw [e] <;> simp only [List.length_nil, List.length_singleton] <;> omega
  exact Nat.le_trans (h _) (by rw [List.length_take]; exact Nat.min_le_left _ _)
theorem code_eq {s c : ByteArray} {q : Nat} (hc : c.size = 10) (h : fitsB s c q = true) : sliceS s q 10 = c := by
  have := of_decide_eq_true h
  rw [hc] at this
  unfold sliceS
  rw [this]
theorem code_ne {s c : ByteArray} {q : Nat} (hc : c.size = 10) (h : fitsB s c q = false) : ¬ sliceS s q 10 = c := by
  intro e
  refine absurd h ?_
  have : fitsB s c q = true := by
    refine decide_eq_true ?_
    rw [hc, ← e]
    rfl
  rw [this]; decide

theorem list_neq {a b : ByteArray} (h : a ≠ b) : (a.toList == b.toList) = false := by
  rw [beq_eq_false_iff_ne]
  intro he
  refine h (ByteArray.ext (Array.toList_inj.1 ?_))
  rw [Go.ByteArray.toList_eq, Go.ByteArray.toList_eq] at he
  exact he
theorem code_eqL {s c : ByteArray} {q : Nat} (hc : c.size = 10) (h : fitsB s c q = true) : (c.toList == (sliceS s q 10).toList) = true := by
  rw [code_eq hc h]; simp
theorem code_neL {s c : ByteArray} {q : Nat} (hc : c.size = 10) (h : fitsB s c q = false) : (c.toList == (sliceS s q 10).toList) = false :=
  list_neq (fun e => code_ne hc h e.symm)
theorem Places.below {w w' : World} {v : Value} {A : Option Addr} {C : Nat} {X : List Value} (h : Places w v A C X) (hb : Below w.heap.size w w') : Places w' v A C X := by
  refine ⟨fun hc => ?_⟩
  obtain ⟨g, e, hl, hx, hne⟩ := h.at_ hc
  exact ⟨g, e, Nat.lt_of_lt_of_le hl hb.size, hx.step hb, hne⟩
theorem fresh2 {t : TypeId} (w : World) (a0 a1 : Value) : Box (w.alloc (.cells #[a0, a1] t)) w.heap.size [a0, a1] := fun j u hu => by
  have h := World.ownsRow_lit (e := t) w #[a0, a1] 1 (base := w.heap.size) (size := 2) (Nat.le_refl _) (by decide) rfl
  have := h.cells (g := w.heap.size) rfl j u hu
  rwa [addr_add, Nat.zero_add] at this
theorem Places.fresh {w : World} {v : Value} {a0 a1 : Value} {t : TypeId} {b n : Nat} {e : TypeId} {z : Nat} {xs : List Value} (h : w.ownsRow b e z v n xs) : Places (w.alloc (.cells #[a0, a1] t)) v (some ⟨w.heap.size, 0, none⟩) 1 [a0, a1] :=
  ⟨fun _ => ⟨w.heap.size, rfl, by simp, fresh2 w a0 a1, fun e => by have := (h.lt _ e).2; omega⟩⟩
theorem cells3d {w : World} {g : Nat} {a0 a1 a2 : Value} {t : TypeId} (hg : g = w.heap.size) : ∀ j u, ([a0, a1, a2] : List Value)[j]? = some u → ((w.alloc (.cells #[a0, a1, a2] t)).drewN 1).cell? ((⟨g, 0, none⟩ : Addr).add j) = some u := fun j u hu => cells3m hg j u hu
set_option maxHeartbeats 4000000 in
theorem impl_gcrMarks (s : ByteArray) (w : World) (hv : validCells s = true) (hT : Tab w) :
    Calls Tryz.prog 67 #[.string s] w fun e w' => ∃ n v, e = .returned v ∧ w'.ownsRow w.heap.size 51 3 v n ((gcrI s).flatMap MarkR.cells) ∧ Below w.heap.size w w' := by
  obtain ⟨i0, hti, hz0, hz1, hz2⟩ := info_parts Tryz.info_Mark
  obtain ⟨v1, v2, v3⟩ := valid_size hv
  have HMK := Hid.in_ (fun (k : Nat) (h1 : 1 ≤ k) (h2 : k ≤ 3) w hT => impl_mark 3 k rfl h1 h2 w hT)
  have HSY := Hid.in_ (fun w => impl_syncRuns s w hv)
  have HSL := Hid.in_ (fun q w (h1 : q < s.size) (h2 : 10 ≤ s.size) => impl_slice s q 10 w (by omega) h1 h2)
  have HSM := Hid.in_ (fun r (h : r ∈ syncV s) => syncV_mem hv h)
  have HTB := Hid.in_ hT
  have HVL := Hid.in_ (syncV_len s)
  obtain ⟨D, hD⟩ : ∃ D, (syncV s).length = D := ⟨_, rfl⟩
  rw [hD] at HSY HVL
  have HD := Hid.in_ hD
  clear hv v3 hT hD
  go_enter Tryz.func67, Tryz.ntmps67
  go_wp2_with (go_at_call 101; refine (HSY.out _).mono ?_; rintro e w1 ⟨v13, rfl, ho13, hb13⟩; obtain ⟨A13, c13, rfl, hl13, hn13, hA13⟩ := own_shape ho13)
  have HPL0 := Hid.in_ (show Places w1 (.slice none 0 0) A13 D ((syncV s).flatMap RunR.cells) from ⟨fun hc => by
    obtain ⟨g, rfl, _, h2, h3, _⟩ := hA13 hc
    exact ⟨g, rfl, h2, h3, fun e => by cases e⟩⟩)
  have HB1 := Hid.in_ hb13
  clear ho13 hb13 hA13 hl13
  go_loopg [4, 15] D (fun r v i wr => ∃ (j n : Nat) (v5 : Value), j + r = D ∧ i = .int .i64 j ∧ v = v5 ∧ Hid (wr.ownsRow w.heap.size 51 3 v5 n ((gTo s j).flatMap MarkR.cells)) ∧ Hid (Places wr v5 A13 D ((syncV s).flatMap RunR.cells)) ∧ Hid (Below w.heap.size w wr))
  case atStart => exact ⟨0, 0, _, by omega, rfl, rfl, World.ownsRow_nil _ _ _ _, HPL0, HB1⟩
  case round =>
    obtain ⟨j, n, v5, hjm, rfl, hvv, HO, HPL, HB⟩ := hrel
    subst hvv
    have HJ := Hid.in_ hjm
    have hvl := HVL.out
    have hjD : j ≤ D := by omega
    clear hjm
    by_cases hlt : j < D
    · obtain ⟨r, hr⟩ := get_lt (syncV s) j (by rw [HD.out]; exact hlt)
      have HG := Hid.in_ (gTo_succ hr)
      obtain ⟨i, q, rfl, his, hqs, h10⟩ := HSM.out _ (List.mem_of_getElem? hr)
      obtain ⟨g7, rfl, hg7, hx7, hne7⟩ := HPL.out.at_ (by omega)
      have hbx := Box.elem RunR.len hx7 hr
      have cx : wr.cell? ⟨g7, j * 2, none⟩ = some (.int .i64 (i : Int)) := by have := hbx 0 _ rfl; simpa using this
      have cy : wr.cell? ⟨g7, j * 2 + 1, none⟩ = some (.int .i64 (q : Int)) := hbx 1 _ rfl
      obtain ⟨e, he⟩ : ∃ e, i + q = e := ⟨_, rfl⟩
      obtain ⟨o, ho⟩ : ∃ o, e % s.size = o := ⟨_, rfl⟩
      have hos : o < s.size := by rw [← ho]; exact Nat.mod_lt _ v1
      have hm : ((i : Int) + (q : Int)) % (s.size : Int) = (o : Int) := by rw [← ho, ← he]; simp
      have hnz : ¬ (s.size : Int) = 0 := by omega
      have hnz2 : ¬ s.size = 0 := by omega
      have hnp : (0 : Int) < s.size := by omega
      have HHIT := Hid.in_ (show ∀ k : Nat, hitG s ⟨(i : Int), (q : Int)⟩ k = fitsB s (codeG k) o from fun k => by
        unfold hitG
        rw [← ho, fits_mod, show endG ⟨(i : Int), (q : Int)⟩ = e by unfold endG; show ((i : Int) + (q : Int)).toNat = e; omega])
      have HEND := Hid.in_ (show ((endG ⟨(i : Int), (q : Int)⟩ : Nat) + 10 : Int) % (s.size : Int) = ((o : Int) + 10) % (s.size : Int) by
        rw [show endG ⟨(i : Int), (q : Int)⟩ = e by unfold endG; show ((i : Int) + (q : Int)).toNat = e; omega, ← ho, Int.natCast_emod, Int.emod_add_emod])
      clear hr hbx hx7 he ho
      have HSL1 := HSL.out o (wr.alloc (.cells #[.int .i64 (i : Int), .int .i64 (q : Int)] 85)) hos h10
      have hYE := fun c => code_eqL (s := s) (c := c) (q := o)
      have hYN := fun c => code_neL (s := s) (c := c) (q := o)
      obtain ⟨y, hy⟩ : ∃ y, sliceS s o 10 = y := ⟨_, rfl⟩
      rw [hy] at HSL1 hYE hYN
      have HYE := Hid.in_ hYE
      have HYN := Hid.in_ hYN
      have HSL2 := Hid.in_ HSL1
      clear hy hYE hYN HSL1
      go_wp2_with fail
      rw [hm]
      refine HSL2.out.mono ?_
      rintro e w2 ⟨rfl, hb2⟩
      have HB2 := Hid.in_ ((balloc HB.out (.cells #[.int .i64 (i : Int), .int .i64 (q : Int)] 85)).trans (hb2.mono (balloc HB.out _).size))
      have HPB := Hid.in_ ((Places.fresh (t := 85) (a0 := .int .i64 (i : Int)) (a1 := .int .i64 (q : Int)) HO.out).below hb2)
      have HPL2 := Hid.in_ ((HPL.out.alloc (.cells #[.int .i64 (i : Int), .int .i64 (q : Int)] 85)).below hb2)
      have HO2 := Hid.in_ (show w2.ownsRow w.heap.size 51 3 u4 n ((gTo s j ++ oneTo s ⟨(i : Int), (q : Int)⟩ 1).flatMap MarkR.cells) by
        rw [show oneTo s ⟨(i : Int), (q : Int)⟩ 1 = [] from rfl, List.append_nil]
        exact own_below (HO.out.alloc _) hb2 (Nat.le_refl _))
      clear hb2 HB HPL HO cx cy
      go_wp2_with fail
      obtain ⟨gO, rfl⟩ : ∃ g, g = gk := ⟨_, rfl⟩
      obtain ⟨wo, rfl⟩ : ∃ wo : World, wo = wr := ⟨_, rfl⟩
      go_loopg [4, 9] 3 (fun r v x wi => ∃ (k n : Nat) (v5 : Value), 1 ≤ k ∧ k + r = 4 ∧ x = .int .i64 k ∧ v = v5 ∧ Hid (wi.ownsRow w.heap.size 51 3 v5 n ((gTo s j ++ oneTo s ⟨(i : Int), (q : Int)⟩ k).flatMap MarkR.cells)) ∧ Hid (Places wi v5 (some ⟨g7, 0, none⟩) D ((syncV s).flatMap RunR.cells)) ∧ Hid (Places wi v5 (some ⟨wo.heap.size, 0, none⟩) 1 [.int .i64 (i : Int), .int .i64 (q : Int)]) ∧ Hid (Below w.heap.size w wi))
      case atStart => exact ⟨1, n, u4, by omega, by omega, by go_num, rfl, HO2, HPL2, HPB, HB2⟩
      case round =>
        clear HO2 HPL2 HPB HB2
        obtain ⟨k, n5, v5, hk1, hkm, rfl, hvv, HO5, HPL, HPB, HB5⟩ := hrel
        subst hvv
        have HK := Hid.in_ hkm
        have hk4 : k ≤ 4 := by omega
        clear hkm
        have hn5 : n5 ≤ 100000 := by
          rw [own_n HO5.out, List.length_append]
          have := gTo_len s j
          have := oneTo_len s ⟨(i : Int), (q : Int)⟩ k
          omega
        by_cases hlt2 : k ≤ 3
        · have hp20 := pat3_size hk1 hlt2
          have hex := code_pat hk1 hlt2
          have HM := Hid.in_ (HMK.out k hk1 hlt2)
          have HONE := Hid.in_ (oneTo_succ (s := s) (r := ⟨(i : Int), (q : Int)⟩) hk1)
          have hhit := HHIT.out k
          obtain ⟨p, hp⟩ : ∃ p, patM 3 k = p := ⟨_, rfl⟩
          obtain ⟨c, hc⟩ : ∃ c, codeG k = c := ⟨_, rfl⟩
          rw [hp, hc] at hp20 hex
          rw [hp] at HM
          rw [hc] at hhit
          obtain ⟨hps, hcs⟩ := hp20
          rw [hps] at hex
          have HC10 := Hid.in_ hcs
          clear hp hc hcs
          go_wp2_with fail
          refine (HM.out _ (HTB.out.step HB5.out)).mono ?_
          rintro e w3 ⟨rfl, hb3⟩
          have HB6 := Hid.in_ (HB5.out.trans (hb3.mono HB5.out.size))
          have HO6 := Hid.in_ (own_below HO5.out hb3 (Nat.le_refl _))
          have HPL6 := Hid.in_ (HPL.out.below hb3)
          have HPB6 := Hid.in_ (HPB.out.below hb3)
          clear hb3 HB5 HO5 HPL HPB
          cases hfit : fitsB s c o
          · have hne := HYN.out c HC10.out hfit
            have HN := Hid.in_ (show oneTo s ⟨(i : Int), (q : Int)⟩ (k + 1) = oneTo s ⟨(i : Int), (q : Int)⟩ k by rw [HONE.out, gcrOne_no (by rw [hhit]; exact hfit), List.append_nil])
            clear hhit hfit
            have hk := HK.out
            go_wp2
            go_roundg (gk - 1)
            case measure => omega
            case rel => exact ⟨k + 1, n5, u4, by omega, by omega, by go_num, rfl, by rw [HN.out]; exact HO6, HPL6, HPB6, HB6⟩
          · have hse := HYE.out c HC10.out hfit
            obtain ⟨bq, hbq⟩ : ∃ bq : Int, ((o : Int) + 10) % (s.size : Int) = bq := ⟨_, rfl⟩
            have HN := Hid.in_ (show oneTo s ⟨(i : Int), (q : Int)⟩ (k + 1) = oneTo s ⟨(i : Int), (q : Int)⟩ k ++ [⟨(k : Int), (i : Int), bq⟩] by
              rw [HONE.out, gcrOne_yes (by rw [hhit]; exact hfit), HEND.out, hbq])
            clear hhit hfit
            have hb1 : 0 ≤ bq := by rw [← hbq]; exact Int.emod_nonneg _ (by omega)
            have hb2 : bq < (s.size : Int) := by rw [← hbq]; exact Int.emod_lt_of_pos _ (by omega)
            have htm : ((o : Int) + 10).tmod (s.size : Int) = bq := by rw [Int.tmod_eq_emod_of_nonneg (by omega)]; exact hbq
            have hwr : IntKind.i64.wrap ((o : Int) + 10) = (o : Int) + 10 := by simp [IntKind.wrap, IntKind.bits, IntKind.signed]; omega
            have hwb : IntKind.i64.wrap bq = bq := by simp [IntKind.wrap, IntKind.bits, IntKind.signed]; omega
            obtain ⟨gB, hgB, hlB, hxB, _⟩ := HPB6.out.at_ (by decide)
            injection hgB with hgB
            injection hgB with hgB
            subst hgB
            have cB : w3.cell? ⟨wo.heap.size, 0, none⟩ = some (.int .i64 (i : Int)) := hxB 0 _ rfl
            clear hbq hxB
            go_wp2_with fail
            go_region_law (refine step_append_lies _ rfl (.tmp 38) (.tmp 47) 22 rfl w.heap.size 51 i0 (.agg #[.int .i64 0, .int .i64 0, .int .i64 0]) 3 24 Tryz.underlying22 hti hz0 hz1 hz2 rfl (by decide) _ _ _ (by simp [Act.eval, Act.put]) (own_drewN (HO6.out.alloc _) 1) ⟨w3.heap.size, 0, none⟩ 1 1 [.int .i64 k, .int .i64 i, .int .i64 bq] (by simp [Act.eval, Act.put]) rfl (cells3d rfl) (fun x hx => by simp at hx; rcases hx with rfl | rfl | rfl <;> rfl) (by decide) (by unfold maxLen; omega) (by omega) (balloc HB6.out _).size _ rfl ?_; intro g6 cp6 w6 ho6 hg6 hat6 hlt6)
            all_goals
              have HB8 := Hid.in_ (bgrown (balloc HB6.out _).drew (own_drewN (HO6.out.alloc _) 1) (Nat.le_refl _) hg6)
              have hat : (Value.slice (some ⟨g6, 0, none⟩) (n5 + 1) cp6).ownBlock = u4.ownBlock ∨ ∃ g, (Value.slice (some ⟨g6, 0, none⟩) (n5 + 1) cp6).ownBlock = some g ∧ w3.heap.size < g := by
                rcases hat6 with h | h
                · exact .inl h.symm
                · refine .inr ⟨g6, rfl, ?_⟩
                  rw [h]
                  simp [World.drewN, World.drew]
              have HPL8 := Hid.in_ (((HPL6.out.alloc (.cells #[.int .i64 k, .int .i64 i, .int .i64 bq] 51)).below (Below.refl _ _).drew).step (v' := .slice (some ⟨g6, 0, none⟩) (n5 + 1) cp6) hg6 (hat.imp id (fun ⟨g, a, b⟩ => ⟨g, a, by simp [World.drewN, World.drew]; omega⟩)))
              have HPB8 := Hid.in_ (((HPB6.out.alloc (.cells #[.int .i64 k, .int .i64 i, .int .i64 bq] 51)).below (Below.refl _ _).drew).step (v' := .slice (some ⟨g6, 0, none⟩) (n5 + 1) cp6) hg6 (hat.imp id (fun ⟨g, a, b⟩ => ⟨g, a, by simp [World.drewN, World.drew]; omega⟩)))
              have HO8 := Hid.in_ (show w6.ownsRow w.heap.size 51 3 (.slice (some ⟨g6, 0, none⟩) (n5 + 1) cp6) (n5 + 1) ((gTo s j ++ oneTo s ⟨(i : Int), (q : Int)⟩ (k + 1)).flatMap MarkR.cells) by
                rw [HN.out, ← List.append_assoc, List.flatMap_append]
                exact ho6)
              clear ho6 hg6 hat6 hat
              have hk := HK.out
              go_wp2
              go_roundg (gk - 1)
              case measure => omega
              case rel => exact ⟨k + 1, n5 + 1, _, by omega, by omega, by go_num, rfl, HO8, HPL8, HPB8, HB8⟩
        · have hk := HK.out
          obtain rfl : k = 4 := by omega
          have hj := HJ.out
          have HO6 := Hid.in_ (show wr.ownsRow w.heap.size 51 3 u4 n5 ((gTo s (j + 1)).flatMap MarkR.cells) by
            rw [HG.out, ← oneTo_all]
            exact HO5.out)
          go_wp2
          go_roundg (gO - 1)
          case measure => omega
          case rel => exact ⟨j + 1, n5, u4, by omega, by go_num, rfl, HO6, HPL, HB5⟩
    · have hj := HJ.out
      obtain rfl : j = D := by omega
      go_wp2
      go_ret
      exact ⟨n, _, rfl, by rw [← gTo_all (j := j) (by rw [HD.out]; omega)]; exact HO.out, HB.out⟩
end Go.Proofs.YtlelgpknkgjaeaaGreatDoor
