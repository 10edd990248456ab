/- 'VoteBytes' of the program and of the reference: what they return. -/
import Derived.Test.YtlelgpknkgjaeaaVoteI
import Derived.Deep.LoopGhost
import Derived.Deep.QuietTactic
namespace Go.Proofs.Ytlelgpknkgjaeaa
open Go.ChangeShapes Go.WideShapes Go.ChangeAt Go.RowKit
set_option linter.unusedSimpArgs false
set_option linter.unusedVariables false
set_option maxRecDepth 4000

set_option maxHeartbeats 4000000 in
theorem impl_differing_any {v : Value} {n b N : Nat} {l : List ByteArray} (w : World) (h : w.ownsRow b 9 1 v n (Strs l)) (h0 : 0 < n) (hk : ∀ s ∈ l, s.size = N) (hN2 : N ≤ 1048576) :
    Calls Try.prog 47 #[v] w fun e w' => ∃ v', e = .returned v' ∧ w'.ownsRow w.heap.size 2 1 v' (placesTo (diffAt l) N).length (I64 (placesTo (diffAt l) N)) ∧ Below w.heap.size w w' := by
  obtain ⟨i0, hti, hz0, hz1, hz2⟩ := info_parts Try.infoI64v
  have hlx : l.length = n := by have := h.1; rw [Strs_len] at this; omega
  obtain ⟨A, c, rfl, _, _, hA⟩ := own_shape h
  have HL := Hid.in_ hlx
  have H1 := Hid.in_ hA
  have HZ := Hid.in_ hk
  clear hlx hk
  obtain ⟨g, rfl, _, hg, hx, _⟩ := hA h0
  obtain ⟨s0, hs0⟩ := get_lt l 0 (by rw [HL.out]; exact h0)
  have HX := Hid.in_ hx
  have HS0 := Hid.in_ hs0
  have hsz0 := HZ.out s0 (List.mem_of_getElem? hs0)
  have c0 := hx 0 _ (Strs_get hs0)
  clear hx hs0 hA h
  go_enter Try.func47, Try.ntmps47
  go_wp2
  clear c0
  go_loopg [3, 11] N (fun m v i wr => ∃ k : Nat, k + m = N ∧ i = .int .i64 k ∧ Hid (wr.ownsRow w.heap.size 2 1 v (placesTo (diffAt l) k).length (I64 (placesTo (diffAt l) k))) ∧ Hid (Below w.heap.size w wr))
  case atStart => exact ⟨0, by omega, rfl, World.ownsRow_nil _ _ _ _, Below.refl _ _⟩
  case round =>
    obtain ⟨k, hkm, rfl, HI, HB⟩ := hrel
    have HK := Hid.in_ hkm
    clear hkm
    by_cases hlt : k < N
    · have HLN := Hid.in_ (placesTo_len (diffAt l) k)
      go_wp2
      obtain ⟨gO, rfl⟩ : ∃ g, g = gk := ⟨_, rfl⟩
      obtain ⟨wo, rfl⟩ : ∃ wo : World, wo = wr := ⟨_, rfl⟩
      obtain ⟨vo, hvo⟩ : ∃ vo : Value, vo = u3 := ⟨_, rfl⟩
      rw [← hvo] at HI
      go_loopg [3, 16] n (fun m v i wi => ∃ j : Nat, j + m = n ∧ i = .int .i64 j ∧ v = vo ∧ Hid (∀ t, t < j → colAt l k t = colAt l k 0) ∧ ∃ q, wi = wo.drewN q)
      case atStart => exact ⟨0, by omega, rfl, hvo.symm, fun t ht => by omega, 0, rfl⟩
      case round =>
        obtain ⟨j, hjm, rfl, rfl, HE, q, rfl⟩ := hrel
        have HJ := Hid.in_ hjm
        clear hjm
        have HIq := Hid.in_ (own_drewN HI.out q)
        have HBq := Hid.in_ (below_drewN HB.out q)
        by_cases hlj : j < n
        · obtain ⟨s, hs⟩ := get_lt l j (by rw [HL.out]; exact hlj)
          have c0 := (HX.out.step HB.out) 0 _ (Strs_get HS0.out)
          have c1 := (HX.out.step HB.out) j _ (Strs_get hs)
          have hsz := HZ.out s (List.mem_of_getElem? hs)
          have hks : k < s.size := by omega
          have hk0 : k < s0.size := by omega
          obtain ⟨c, hc⟩ : ∃ c : UInt8, s[k] = c := ⟨_, rfl⟩
          obtain ⟨d, hd⟩ : ∃ d : UInt8, s0[k] = d := ⟨_, rfl⟩
          have HC1 := Hid.in_ (colAt_val hs hks hc)
          have HC0 := Hid.in_ (colAt_val HS0.out hk0 hd)
          clear hs
          obtain rfl | ⟨h1, h2⟩ := byte_cases' c d
          · have HE2 := Hid.in_ (show ∀ t, t < j + 1 → colAt l k t = colAt l k 0 from fun t ht => by
              rcases Nat.lt_or_ge t j with h | h
              · exact HE.out t h
              · obtain rfl : t = j := by omega
                rw [HC1.out, HC0.out])
            go_wp2_with fail
            go_quiet (fail)
            go_wp2
            have hj := HJ.out
            go_roundg (gk - 1)
            case measure => omega
            case rel => exact ⟨j + 1, by omega, by go_num, rfl, HE2, _, rfl⟩
          · have HW := Hid.in_ (placesTo_yes (diff_yes (by rw [HL.out]; exact hlj) (by rw [HC1.out, HC0.out]; exact h2)))
            go_wp2_with fail
            go_quiet (fail)
            have HI2 := Hid.in_ (own_drewN HI.out (q + nq))
            have HB2 := Hid.in_ (below_drewN HB.out (q + nq))
            go_wp2_with (at_builtin; refine wpList_append_own _ rfl _ _ 24 rfl w.heap.size 2 i0 (.int .i64 0) 1 8 Try.underlying24 hti hz0 hz1 hz2 rfl (by decide) _ _ _ rfl (HI2.out.alloc _) ⟨wo.heap.size, 0, none⟩ 1 1 [.int .i64 k] rfl rfl (cell_one_new (wo.drewN (q + nq)) _ _) (fun x hx => by simp at hx; subst hx; rfl) (by have := HLN.out; unfold maxLen; omega) (by have := HLN.out; omega) (balloc HB2.out _).size ?_; intro v4 w4 ho4 hg4 _)
            have HB4 := Hid.in_ (bgrown (balloc HB2.out _) (HI2.out.alloc _) (Nat.le_refl _) hg4)
            have hk := HK.out
            go_roundg (gO - 1)
            case measure => omega
            case rel => exact ⟨k + 1, by omega, by go_num, by rw [HW.out, List.length_append, I64_app]; exact ho4, HB4.out⟩
        · have hj := HJ.out
          obtain rfl : j = n := by omega
          have HW := Hid.in_ (placesTo_no (diff_no (l := l) (k := k) fun t ht => HE.out t (by rw [← HL.out]; exact ht)))
          go_wp2
          have hk := HK.out
          go_roundg (gO - 1)
          case measure => omega
          case rel => exact ⟨k + 1, by omega, by go_num, by rw [HW.out]; exact HIq.out, HBq.out⟩
    · have hk := HK.out
      obtain rfl : k = N := by omega
      go_wp2
      go_ret
      exact ⟨_, rfl, HI.out, HB.out⟩
def voteE (l : List ByteArray) (v : Value) : Ending := .returned (.tuple #[.string (voteV l), v, .bool (okVote l)])
theorem vote_at {l : List ByteArray} (h : okVote l = true) : 1 ≤ l.length ∧ l.length ≤ 64 ∧ revLen l ≤ 512 ∧ ∀ s ∈ l, s.size = revLen l := by
  unfold okVote at h
  rw [Bool.and_eq_true, Bool.and_eq_true, decide_eq_true_eq, decide_eq_true_eq, List.all_eq_true] at h
  exact ⟨h.1.1, h.1.2, h.2.1, fun s hs => of_decide_eq_true (h.2.2 s hs)⟩
theorem vote_mk {l : List ByteArray} (h1 : inB l.length 1 64 = true) (h2 : revLen l ≤ 512) (h3 : ∀ (j : Nat) (s : ByteArray), l[j]? = some s → s.size = revLen l) : okVote l = true := by
  obtain ⟨a1, a2⟩ := inB_t h1
  unfold okVote
  rw [decide_eq_true (by omega), decide_eq_true h2, Bool.true_and, Bool.true_and, List.all_eq_true]
  intro s hs
  obtain ⟨j, hj⟩ := List.getElem?_of_mem hs
  exact decide_eq_true (h3 j s hj)
theorem vote_big {l : List ByteArray} (h : ¬ revLen l ≤ 512) : okVote l = false := by
  unfold okVote
  rw [decide_eq_false h, Bool.false_and, Bool.and_false]
theorem vote_odd {l : List ByteArray} {j : Nat} {s : ByteArray} (hs : l[j]? = some s) (h : s.size ≠ revLen l) : okVote l = false := by
  cases hv : okVote l
  · rfl
  · exact absurd ((vote_at hv).2.2.2 s (List.mem_of_getElem? hs)) h
set_option maxHeartbeats 2000000 in
theorem spec_VoteBytes {v : Value} {n b : Nat} {l : List ByteArray} (w : World) (h : w.ownsRow b 9 1 v n (Strs l)) (hk : ∀ s ∈ l, s.size ≤ 1048576) (hn : n ≤ 1048576) :
    Calls Try.prog 9 #[v] w fun e w' => ∃ v', e = voteE l v' ∧ w'.ownsRow w.heap.size 2 1 v' (voteW l).length (I64 (voteW l)) ∧ Below w.heap.size w w' := by
  have hlx : l.length = n := by have := h.1; rw [Strs_len] at this; omega
  have HOW := Hid.in_ h
  obtain ⟨A, c, rfl, _, _, hA⟩ := own_shape h
  have HL := Hid.in_ hlx
  have HZ := Hid.in_ hk
  cases h1 : inB n 1 64
  · have HV := Hid.in_ (okVote_len (l := l) (by rw [hlx]; exact h1))
    clear hA h hlx hk
    go_enter Try.func9, Try.ntmps9
    go_wp2_with (go_at_call 42; refine (bool_is (spec_l00In _ _ _ _) (by assumption)).mono ?_; rintro e w' ⟨rfl, rfl⟩)
    go_ret3
    refine ⟨.slice none 0 0, ?_, ?_, Below.refl _ _⟩
    · unfold voteE; rw [(vote_no HV.out).1, HV.out]; rfl
    · rw [(vote_no HV.out).2]; exact World.ownsRow_nil _ _ _ _
  · have HI := Hid.in_ h1
    have h0 : 0 < n := by have := (inB_t h1).1; omega
    obtain ⟨g, rfl, _, hg, hx, _⟩ := hA h0
    obtain ⟨s0, hs0, hr0⟩ := head_get (l := l) (by rw [hlx]; exact h0)
    have HX := Hid.in_ hx
    have HR0 := Hid.in_ hr0
    have hz0 := hk s0 (List.mem_of_getElem? hs0)
    have c0 := hx 0 _ (Strs_get hs0)
    clear hA h hlx hk hx hs0 hr0
    go_enter Try.func9, Try.ntmps9
    go_wp2_with (go_at_call 42; refine (bool_is (spec_l00In _ _ _ _) (by assumption)).mono ?_; rintro e w' ⟨rfl, rfl⟩)
    have HC0 := Hid.in_ c0
    clear c0 h1
    go_loopg [5] n (fun m i wr => ∃ k : Nat, k + m = n ∧ i = .int .i64 k ∧ Hid (∀ (j : Nat) (s : ByteArray), j < k → l[j]? = some s → s.size = revLen l) ∧ Hid (k = 0 ∨ revLen l ≤ 512) ∧ Hid (Below w.heap.size w wr))
    case atStart => exact ⟨0, by omega, rfl, fun j s hj => by omega, .inl rfl, Below.refl _ _⟩
    case round =>
      obtain ⟨k, hkm, rfl, HA, HM, HB⟩ := hrel
      have HK := Hid.in_ hkm
      clear hkm
      by_cases hlt : k < n
      · obtain ⟨s, hs⟩ := get_lt l k (by rw [HL.out]; exact hlt)
        have c0 := cstep HB.out HC0.out
        have c1 := HX.out.step HB.out k _ (Strs_get hs)
        have hsz := HZ.out s (List.mem_of_getElem? hs)
        have HS := Hid.in_ hs
        clear hs
        by_cases he : (s.size : Int) = s0.size
        · have hes : s.size = revLen l := by have := HR0.out; omega
          have HA2 := Hid.in_ (show ∀ (j : Nat) (x : ByteArray), j < k + 1 → l[j]? = some x → x.size = revLen l from fun j x hj hx => by
            rcases Nat.lt_or_ge j k with h | h
            · exact HA.out j x h hx
            · obtain rfl : j = k := by omega
              rw [HS.out] at hx
              injection hx with hx
              subst hx
              exact hes)
          have HES := Hid.in_ hes
          clear hes
          by_cases h5 : (512 : Int) < s.size
          · have HV := Hid.in_ (vote_big (l := l) (by have := HES.out; omega))
            have hb1 : ((s.size : Int) != s0.size) = false := by rw [he]; exact bne_self_eq_false _
            clear he
            go_wp2_with fail
            go_quiet (fail)
            go_wp2
            go_ret3
            refine ⟨.slice none 0 0, ?_, ?_, below_drewN HB.out _⟩
            · unfold voteE; rw [(vote_no HV.out).1, HV.out]; rfl
            · rw [(vote_no HV.out).2]; exact World.ownsRow_nil _ _ _ _
          · have HM2 := Hid.in_ (show k + 1 = 0 ∨ revLen l ≤ 512 from .inr (by have := HES.out; omega))
            have hb1 : ((s.size : Int) != s0.size) = false := by rw [he]; exact bne_self_eq_false _
            clear he
            go_wp2_with fail
            go_quiet (fail)
            go_wp2
            have hk := HK.out
            go_roundg (gk - 1)
            case measure => omega
            case rel => exact ⟨k + 1, by omega, by go_num, HA2, HM2, below_drewN HB.out _⟩
        · have HV := Hid.in_ (vote_odd (l := l) HS.out (by have := HR0.out; omega))
          have hb1 : ((s.size : Int) != s0.size) = true := bne_iff_ne.2 he
          clear he
          go_wp2_with fail
          go_quiet (fail)
          go_wp2
          go_ret3
          refine ⟨.slice none 0 0, ?_, ?_, below_drewN HB.out _⟩
          · unfold voteE; rw [(vote_no HV.out).1, HV.out]; rfl
          · rw [(vote_no HV.out).2]; exact World.ownsRow_nil _ _ _ _
      · have hk := HK.out
        obtain rfl : k = n := by omega
        obtain ⟨N, hN⟩ : ∃ N, revLen l = N := ⟨_, rfl⟩
        have h5 : N ≤ 512 := by rcases HM.out with h | h <;> omega
        have HV := Hid.in_ (vote_mk (l := l) (by rw [HL.out]; exact HI.out) (by omega) (fun j s hs => HA.out j s (by rw [← HL.out]; exact (List.getElem?_eq_some_iff.1 hs).1) hs))
        have HY := Hid.in_ (vote_yes hN HV.out)
        have HZN := Hid.in_ (show ∀ s ∈ l, s.size = N from fun s hs => by rw [← hN]; exact (vote_at HV.out).2.2.2 s hs)
        clear hN
        go_wp2_with fail
        refine (spec_l10Vote _ (ostep HB.out HOW.out) h0 HZN.out (by omega) hn).mono ?_
        rintro e w2 ⟨v2, rfl, ho2, hb2⟩
        have HO2 := Hid.in_ (own_base ho2 HB.out.size)
        have HB2 := Hid.in_ (bstep HB.out hb2)
        clear ho2 hb2
        go_wp2
        go_ret3
        refine ⟨v2, ?_, ?_, HB2.out⟩
        · unfold voteE; rw [HY.out.1, HV.out]; rfl
        · rw [HY.out.2]; exact HO2.out
theorem impl_sizeStr' (A : Option Addr) (n c : Nat) (w : World) (hn : n ≤ 9223372036854775807) :
    Calls Try.prog 45 #[.slice A n c] w fun e w' => e = .returned (.int .i64 n) ∧ w = w' := by
  go_enter Try.func45, Try.ntmps45
  go_wp2
  go_ret
  exact ⟨rfl, rfl⟩
set_option maxHeartbeats 2000000 in
theorem impl_VoteBytes {v : Value} {n b : Nat} {l : List ByteArray} (w : World) (h : w.ownsRow b 9 1 v n (Strs l)) (hk : ∀ s ∈ l, s.size ≤ 1048576) (hn : n ≤ 1048576) :
    Calls Try.prog 11 #[v] w fun e w' => ∃ v', e = voteE l v' ∧ w'.ownsRow w.heap.size 2 1 v' (voteW l).length (I64 (voteW l)) ∧ Below w.heap.size w w' := by
  have hlx : l.length = n := by have := h.1; rw [Strs_len] at this; omega
  have HOW := Hid.in_ h
  obtain ⟨A, c, rfl, _, _, hA⟩ := own_shape h
  have HL := Hid.in_ hlx
  have HZ := Hid.in_ hk
  cases h1 : inB n 1 64
  · have HV := Hid.in_ (okVote_len (l := l) (by rw [hlx]; exact h1))
    clear hA h hlx hk
    go_enter Try.func11, Try.ntmps11
    go_wp2_with (first | (go_at_call 45; refine (impl_sizeStr' _ _ _ _ (by omega)).mono ?_; rintro e w' ⟨rfl, rfl⟩) | (go_at_call 44; refine (bool_is (impl_within _ _ _ _) (by assumption)).mono ?_; rintro e w' ⟨rfl, rfl⟩))
    go_ret3
    refine ⟨.slice none 0 0, ?_, ?_, Below.refl _ _⟩
    · unfold voteE; rw [(vote_no HV.out).1, HV.out]; rfl
    · rw [(vote_no HV.out).2]; exact World.ownsRow_nil _ _ _ _
  · have HI := Hid.in_ h1
    have h0 : 0 < n := by have := (inB_t h1).1; omega
    obtain ⟨g, rfl, _, hg, hx, _⟩ := hA h0
    obtain ⟨s0, hs0, hr0⟩ := head_get (l := l) (by rw [hlx]; exact h0)
    have HX := Hid.in_ hx
    have HR0 := Hid.in_ hr0
    have hz0 := hk s0 (List.mem_of_getElem? hs0)
    have c0 := hx 0 _ (Strs_get hs0)
    clear hA h hlx hk hx hs0 hr0
    by_cases h5 : (512 : Int) < s0.size
    · have HV := Hid.in_ (vote_big (l := l) (by have := HR0.out; omega))
      go_enter Try.func11, Try.ntmps11
      go_wp2_with (first | (go_at_call 45; refine (impl_sizeStr' _ _ _ _ (by omega)).mono ?_; rintro e w' ⟨rfl, rfl⟩) | (go_at_call 44; refine (bool_is (impl_within _ _ _ _) (by assumption)).mono ?_; rintro e w' ⟨rfl, rfl⟩))
      go_ret3
      refine ⟨.slice none 0 0, ?_, ?_, Below.refl _ _⟩
      · unfold voteE; rw [(vote_no HV.out).1, HV.out]; rfl
      · rw [(vote_no HV.out).2]; exact World.ownsRow_nil _ _ _ _
    · go_enter Try.func11, Try.ntmps11
      go_wp2_with (first | (go_at_call 45; refine (impl_sizeStr' _ _ _ _ (by omega)).mono ?_; rintro e w' ⟨rfl, rfl⟩) | (go_at_call 44; refine (bool_is (impl_within _ _ _ _) (by assumption)).mono ?_; rintro e w' ⟨rfl, rfl⟩))
      have HC0 := Hid.in_ c0
      clear h1
      go_loopg [20] n (fun m i wr => ∃ k : Nat, k + m = n ∧ i = .int .i64 k ∧ Hid (∀ (j : Nat) (s : ByteArray), j < k → l[j]? = some s → s.size = revLen l) ∧ w = wr)
      case atStart => exact ⟨0, by omega, rfl, fun j s hj => by omega, rfl⟩
      case round =>
        obtain ⟨k, hkm, rfl, HA, rfl⟩ := hrel
        have HK := Hid.in_ hkm
        clear hkm
        by_cases hlt : k < n
        · obtain ⟨s, hs⟩ := get_lt l k (by rw [HL.out]; exact hlt)
          have c1 := HX.out k _ (Strs_get hs)
          have hsz := HZ.out s (List.mem_of_getElem? hs)
          have HS := Hid.in_ hs
          clear hs
          by_cases he : (s.size : Int) = s0.size
          · have hes : s.size = revLen l := by have := HR0.out; omega
            have HA2 := Hid.in_ (show ∀ (j : Nat) (x : ByteArray), j < k + 1 → l[j]? = some x → x.size = revLen l from fun j x hj hx => by
              rcases Nat.lt_or_ge j k with h | h
              · exact HA.out j x h hx
              · obtain rfl : j = k := by omega
                rw [HS.out] at hx
                injection hx with hx
                subst hx
                exact hes)
            clear hes
            have hb1 : ((s.size : Int) != s0.size) = false := by rw [he]; exact bne_self_eq_false _
            clear he
            go_wp2
            have hk := HK.out
            go_roundg (gk - 1)
            case measure => omega
            case rel => exact ⟨k + 1, by omega, by go_num, HA2, rfl⟩
          · have HV := Hid.in_ (vote_odd (l := l) HS.out (by have := HR0.out; omega))
            have hb1 : ((s.size : Int) != s0.size) = true := bne_iff_ne.2 he
            clear he
            go_wp2
            go_ret3
            refine ⟨.slice none 0 0, ?_, ?_, Below.refl _ _⟩
            · unfold voteE; rw [(vote_no HV.out).1, HV.out]; rfl
            · rw [(vote_no HV.out).2]; exact World.ownsRow_nil _ _ _ _
        · have hk := HK.out
          obtain rfl : k = n := by omega
          obtain ⟨N, hN⟩ : ∃ N, revLen l = N := ⟨_, rfl⟩
          have h5' : N ≤ 512 := by have := HR0.out; omega
          have HV := Hid.in_ (vote_mk (l := l) (by rw [HL.out]; exact HI.out) (by omega) (fun j s hs => HA.out j s (by rw [← HL.out]; exact (List.getElem?_eq_some_iff.1 hs).1) hs))
          have HY := Hid.in_ (vote_yes hN HV.out)
          have HZN := Hid.in_ (show ∀ s ∈ l, s.size = N from fun s hs => by rw [← hN]; exact (vote_at HV.out).2.2.2 s hs)
          clear hN c0
          go_wp2_with fail
          refine (impl_voteBytes _ HOW.out h0 HZN.out (by omega) hn).mono ?_
          rintro e w2 ⟨rfl, hb2⟩
          have HB2 := Hid.in_ hb2
          clear hb2
          go_wp2_with fail
          refine (impl_differing_any _ (ostep HB2.out HOW.out) h0 HZN.out (by omega)).mono ?_
          rintro e w3 ⟨v3, rfl, ho3, hb3⟩
          have HO3 := Hid.in_ (own_base ho3 HB2.out.size)
          have HB3 := Hid.in_ (bstep HB2.out hb3)
          clear ho3 hb3
          go_wp2
          go_ret3
          refine ⟨v3, ?_, ?_, HB3.out⟩
          · unfold voteE; rw [HY.out.1, HV.out]; rfl
          · rw [HY.out.2]; exact HO3.out
theorem voteW_len (l : List ByteArray) : (voteW l).length ≤ 512 := by
  cases h : okVote l
  · rw [(vote_no h).2]; exact Nat.zero_le _
  · rw [(vote_yes rfl h).2]
    have := placesTo_len (diffAt l) (revLen l)
    have := (vote_at h).2.2.1
    omega
end Go.Proofs.Ytlelgpknkgjaeaa
