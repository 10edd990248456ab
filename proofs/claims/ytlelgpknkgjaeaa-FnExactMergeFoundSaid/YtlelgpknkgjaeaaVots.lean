/- Rows of voted sectors: records that hold a row of numbers each: as arguments that came in, 'szVotedS', 'toVotedS', 'eqVotedS' of the laws. -/
import Derived.Test.YtlelgpknkgjaeaaVotedL
import Derived.Test.YtlelgpknkgjaeaaKeep
import Derived.StillTailTactics
namespace Go.Proofs.Ytlelgpknkgjaeaa
open Go.ChangeShapes Go.WideShapes Go.ChangeAt Go.RowKit
set_option linter.unusedSimpArgs false
set_option linter.unusedVariables false
set_option maxRecDepth 8000

structure VotR where
  c : Int
  h : Int
  n : Int
  s : Int
  d : ByteArray
  t : Int
  x : Bool
  l : List Int
  vo : Int
def VotR.cells (r : VotR) (v : Value) : List Value := [.int .i64 r.c, .int .i64 r.h, .int .i64 r.n, .int .i64 r.s, .string r.d, .int .i64 r.t, .bool r.x, v, .int .i64 r.vo]
/-- A record and where its numbers lie: in memory of the calls' own. -/
structure VotO where
  r : VotR
  v : Value
def VotO.cells (o : VotO) : List Value := o.r.cells o.v
theorem VotO.len (o : VotO) : o.cells.length = 9 := rfl
def VotO.zero : VotO := ⟨⟨0, 0, 0, 0, ⟨#[]⟩, 0, false, [], 0⟩, .slice none 0 0⟩
/-- A record and where its numbers lie: in memory that came in. -/
structure VotA where
  r : VotR
  A : Option Addr
  cap : Nat
def VotA.cells (a : VotA) : List Value := a.r.cells (.slice a.A a.r.l.length a.cap)
theorem VotA.len (a : VotA) : a.cells.length = 9 := rfl
def VotA.ok (w : World) (a : VotA) : Prop := ArgS w a.A a.r.l.length a.cap 1 (I64 a.r.l) ∧ a.r.d.size ≤ maxLen
def sumTo (l : List VotR) (k : Nat) : Nat := ((l.take k).map fun r => r.l.length).sum
theorem sumTo_next {l : List VotR} {k : Nat} {m : VotR} (h : l[k]? = some m) : sumTo l (k + 1) = sumTo l k + m.l.length := by
  unfold sumTo
  rw [take_snoc l k m h, List.map_append, List.sum_append]
  simp
/-- A row of records in memory of the calls' own. -/
structure VRow (w : World) (b : Nat) (v : Value) (os : List VotO) : Prop where
  row : w.ownsRow b 77 9 v os.length (os.flatMap VotO.cells)
  weak : ∀ o ∈ os, w.ownsRow b 2 1 o.v o.r.l.length (I64 o.r.l)
  apart : os.Pairwise fun a b => a.v.ownBlock = none ∨ a.v.ownBlock ≠ b.v.ownBlock
theorem VRow.nil (w : World) (b : Nat) : VRow w b (.slice none 0 0) [] := ⟨World.ownsRow_nil _ _ _ _, (fun o ho => by cases ho), List.Pairwise.nil⟩
theorem VRow.step {w w' : World} {b : Nat} {v : Value} {os : List VotO} (k : Below w.heap.size w w') (h : VRow w b v os) : VRow w' b v os :=
  ⟨ostep k h.row, fun o ho => ostep k (h.weak o ho), h.apart⟩
theorem VRow.base {w : World} {b b' : Nat} {v : Value} {os : List VotO} (h : VRow w b v os) (hb : b' ≤ b) : VRow w b' v os :=
  ⟨own_base h.row hb, fun o ho => own_base (h.weak o ho) hb, h.apart⟩
theorem VRow.drewN {w : World} {b : Nat} {v : Value} {os : List VotO} (h : VRow w b v os) (q : Nat) : VRow (w.drewN q) b v os :=
  ⟨own_drewN h.row q, fun o ho => own_drewN (h.weak o ho) q, h.apart⟩
theorem map_get {os : List VotO} {l : List VotR} (h : os.map VotO.r = l) {k : Nat} {o : VotO} (ho : os[k]? = some o) : l[k]? = some o.r := by
  subst h
  rw [List.getElem?_map, ho]
  rfl
section
variable {H : Type} {enc : TypeId × Value → H} {w : World} {base : Nat} {held : Bool}
theorem open_VotA {m : Nat} {cs : List Value} {y : DataW H × List MemPlace} (h : DataW.trod enc Try.prog w base (fun _ => true) held m 76 cs = some y) : ∃ r : VotA, cs = r.cells ∧ r.ok w := by
  obtain ⟨hl, hf⟩ := fields_of Try.underlying76 (by kernel_rfl) (by kernel_rfl) h
  obtain ⟨v0, y0, n0, e0, t0⟩ := hf 0 _ rfl
  obtain ⟨v1, y1, n1, e1, t1⟩ := hf 1 _ rfl
  obtain ⟨v2, y2, n2, e2, t2⟩ := hf 2 _ rfl
  obtain ⟨v3, y3, n3, e3, t3⟩ := hf 3 _ rfl
  obtain ⟨v4, y4, n4, e4, t4⟩ := hf 4 _ rfl
  obtain ⟨v5, y5, n5, e5, t5⟩ := hf 5 _ rfl
  obtain ⟨v6, y6, n6, e6, t6⟩ := hf 6 _ rfl
  obtain ⟨v7, y7, n7, e7, t7⟩ := hf 7 _ rfl
  obtain ⟨v8, y8, n8, e8, t8⟩ := hf 8 _ rfl
  obtain ⟨b0, g0, _, w0⟩ := DataW.trod_int Try.underlying2 t0
  obtain rfl : v0 = _ := by simpa using g0
  obtain ⟨b1, g1, _, w1⟩ := DataW.trod_int Try.underlying2 t1
  obtain rfl : v1 = _ := by simpa using g1
  obtain ⟨b2, g2, _, w2⟩ := DataW.trod_int Try.underlying2 t2
  obtain rfl : v2 = _ := by simpa using g2
  obtain ⟨b3, g3, _, w3⟩ := DataW.trod_int Try.underlying2 t3
  obtain rfl : v3 = _ := by simpa using g3
  obtain ⟨b4, g4, _, w4⟩ := DataW.trod_string Try.underlying9 t4
  obtain rfl : v4 = _ := by simpa using g4
  obtain ⟨b5, g5, _, w5⟩ := DataW.trod_int Try.underlying2 t5
  obtain rfl : v5 = _ := by simpa using g5
  obtain ⟨b6, g6, _⟩ := DataW.trod_bool Try.underlying4 t6
  obtain rfl : v6 = _ := by simpa using g6
  obtain ⟨A, cap, l, hcs, hA, hok⟩ := open_rows IntC.len Try.underlying24 (by kernel_rfl) (fun _ _ _ h => open_IntC h) t7
  obtain rfl : v7 = _ := by simpa using hcs
  obtain ⟨b8, g8, _, w8⟩ := DataW.trod_int Try.underlying2 t8
  obtain rfl : v8 = _ := by simpa using g8
  rw [ints_flat] at hA
  exact ⟨⟨⟨b0, b1, b2, b3, b4, b5, b6, l, b8⟩, A, cap⟩, list_9 hl e0 e1 e2 e3 e4 e5 e6 e7 e8, hA, w4⟩
theorem slice_VotA {r0 : Reach} {b0 : Nat} {v : Value} {d : DataW H} {p : List MemPlace} (hv : Value.okWide Try.prog w r0 b0 32 v) (h : DataW.Trod enc Try.prog w base (fun _ => true) held 32 v d p) :
    ∃ (A : Option Addr) (cap : Nat) (l : List VotA), v = .slice A l.length cap ∧ ArgS w A l.length cap 9 (l.flatMap VotA.cells) ∧ ∀ r ∈ l, r.ok w := by
  obtain ⟨A, n, cap, rfl⟩ := okWide_slice Try.underlying32 hv
  obtain ⟨fuel, hf⟩ := h
  obtain ⟨A', cap', l, hcs, hA, hok⟩ := open_rows VotA.len Try.underlying32 (by kernel_rfl) (fun _ _ _ h => open_VotA h) hf
  obtain ⟨rfl, rfl, rfl⟩ : A = A' ∧ n = l.length ∧ cap = cap' := by simpa [Value.cells] using hcs
  exact ⟨_, _, l, rfl, hA, hok⟩
end
theorem laws_szVoted' (c h n s : Int) (d : ByteArray) (t : Int) (x : Bool) {A : Option Addr} {cap N : Nat} (vo left : Int) (w : World) (hd : d.size ≤ maxLen) (hN : N ≤ 9223372036854775807) (h0 : 0 ≤ left) (h1 : left ≤ 1048576) :
    Calls Try.prog 49 #[.agg #[.int .i64 c, .int .i64 h, .int .i64 n, .int .i64 s, .string d, .int .i64 t, .bool x, .slice A N cap, .int .i64 vo], .int .i64 left] w fun e w' =>
      (e = .returned (.int .i64 (-1)) ∨ ∃ r : Int, e = .returned (.int .i64 r) ∧ 0 ≤ r ∧ r + d.size + N ≤ left) ∧ Below w.heap.size w w' := by
  unfold maxLen at hd
  have HB := Hid.in_ (balloc (Below.refl w.heap.size w) (.cells #[.int .i64 c, .int .i64 h, .int .i64 n, .int .i64 s, .string d, .int .i64 t, .bool x, .slice A N cap, .int .i64 vo] 76))
  by_cases hlt : left < d.size
  · go_enter Try.func49, Try.ntmps49
    go_wp2
    go_ret
    exact ⟨.inl rfl, HB.out⟩
  · have HS := Hid.in_ (fun w => laws_szInt64S (A := A) (cap := cap) (n := N) (left - d.size) w hN (by omega) (by omega))
    by_cases hl2 : left - d.size < N
    · rw [szLeft_neg hl2] at HS
      go_enter Try.func49, Try.ntmps49
      go_wp2_with (go_at_call 81; refine (HS.out _).mono ?_; rintro e w' ⟨rfl, rfl⟩)
      go_ret
      exact ⟨.inl rfl, HB.out⟩
    · rw [szLeft_pos (left := left - d.size) (n := N) (by omega)] at HS
      go_enter Try.func49, Try.ntmps49
      go_wp2_with (go_at_call 81; refine (HS.out _).mono ?_; rintro e w' ⟨rfl, rfl⟩)
      go_ret
      exact ⟨.inr ⟨_, rfl, by omega, by omega⟩, HB.out⟩
set_option maxHeartbeats 1000000 in
theorem laws_szVotedS {A : Option Addr} {cap n : Nat} {l : List VotA} (left : Int) (w w0 : World) (hA : ArgS w A n cap 9 (l.flatMap VotA.cells)) (hl : l.length = n) (hk : ∀ r ∈ l, r.ok w0) (h0 : 0 ≤ left) (h1 : left ≤ 1048576) :
    Calls Try.prog 17 #[.slice A n cap, .int .i64 left] w fun e w' => (e = .returned (.int .i64 (-1)) ∨ ∃ r : Int, e = .returned (.int .i64 r) ∧ 0 ≤ r ∧ r + n + sumTo (l.map VotA.r) n ≤ left ∧ ∀ x ∈ l, (x.r.d.size : Int) ≤ left ∧ (x.r.l.length : Int) ≤ left) ∧ Below w.heap.size w w' := by
  have hm : n ≤ 9223372036854775807 := Nat.le_trans hA.2.1 hA.2.2.1
  have HN := Hid.in_ hl
  have HA := Hid.in_ hA
  have HO := Hid.in_ hk
  clear hA hl hk
  by_cases hlt : left < n
  · go_enter Try.func17, Try.ntmps17
    go_wp2
    go_ret
    exact ⟨.inl rfl, Below.refl _ _⟩
  · go_enter Try.func17, Try.ntmps17
    go_wp2
    go_loopg [1, 5] n (fun m t i wr => ∃ (k : Nat) (t' : Int), k + m = n ∧ i = .int .i64 k ∧ t = .int .i64 t' ∧ 0 ≤ t' ∧ t' + n + sumTo (l.map VotA.r) k ≤ left ∧ Hid (∀ j x, j < k → l[j]? = some x → (x.r.d.size : Int) ≤ left ∧ (x.r.l.length : Int) ≤ left) ∧ Hid (Below w.heap.size w wr))
    case atStart => exact ⟨0, left - n, by omega, rfl, rfl, by omega, by simp [sumTo], fun j x hj => by omega, Below.refl _ _⟩
    case round =>
      obtain ⟨k, t', hkm, rfl, rfl, ht0, ht1, HD, HB⟩ := hrel
      have HK := Hid.in_ hkm
      clear hkm
      by_cases hlk : k < n
      · obtain ⟨b, o, rfl, hb, hc⟩ := HA.out.2.2.2 (by omega) (by omega)
        obtain ⟨m, hm'⟩ := get_lt l k (by rw [HN.out]; exact hlk)
        obtain ⟨c0, c1, c2, c3, c4, c5, c6, c7, c8⟩ := boxAt9 ((BoxAt.elem VotA.len hc hm').step HB.out)
        obtain ⟨hAm, hd⟩ := HO.out m (List.mem_of_getElem? hm')
        have hNm : m.r.l.length ≤ 9223372036854775807 := Nat.le_trans hAm.2.1 hAm.2.2.1
        have HSN := Hid.in_ (sumTo_next (show (l.map VotA.r)[k]? = some m.r by rw [List.getElem?_map, hm']; rfl))
        have HM := Hid.in_ hm'
        have HC := Hid.in_ hc
        clear hc hm' hAm
        have HT0 := Hid.in_ ht0
        have HT1 := Hid.in_ ht1
        clear ht0 ht1
        go_wp2_with fail
        refine (laws_szVoted' _ _ _ _ _ _ _ _ _ _ hd hNm HT0.out (by have := HT1.out; omega)).mono ?_
        rintro e w2 ⟨rfl | ⟨r, rfl, hr0, hr1⟩, hb2⟩
        · have HB2 := Hid.in_ (HB.out.trans (hb2.mono HB.out.size))
          clear c0 c1 c2 c3 c4 c5 c6 c7 c8 hb2
          go_wp2
          go_ret
          exact ⟨.inl rfl, HB2.out⟩
        · have HB2 := Hid.in_ (HB.out.trans (hb2.mono HB.out.size))
          clear c0 c1 c2 c3 c4 c5 c6 c7 c8 hb2
          have ht1 := HT1.out
          have HD2 := Hid.in_ (show ∀ j x, j < k + 1 → l[j]? = some x → (x.r.d.size : Int) ≤ left ∧ (x.r.l.length : Int) ≤ left from fun j x hj hx => by
            rcases Nat.lt_or_ge j k with h | h
            · exact HD.out j x h hx
            · obtain rfl : j = k := by omega
              rw [HM.out] at hx
              injection hx with hx
              subst hx
              omega)
          have HQ := Hid.in_ (show r + n + sumTo (l.map VotA.r) (k + 1) ≤ left by rw [HSN.out]; omega)
          clear ht1 hr1
          go_wp2
          have hk := HK.out
          go_roundg (gk - 1)
          case measure => omega
          case rel => exact ⟨k + 1, r, by omega, by go_num, rfl, hr0, HQ.out, HD2, HB2⟩
      · have hk := HK.out
        obtain rfl : k = n := by omega
        have HT1 := Hid.in_ ht1
        clear ht1
        go_wp2
        go_ret
        refine ⟨.inr ⟨t', rfl, ht0, HT1.out, fun x hx => ?_⟩, HB.out⟩
        obtain ⟨j, hj⟩ := List.getElem?_of_mem hx
        exact HD.out j x (by rw [← HN.out]; exact (List.getElem?_eq_some_iff.1 hj).1) hj
theorem fill_set {α : Type} (os : List α) (z : α) (j : Nat) (x : α) : (os ++ List.replicate (j + 1) z).set os.length x = (os ++ [x]) ++ List.replicate j z := by
  rw [List.set_append_right _ _ (Nat.le_refl _), Nat.sub_self, List.replicate_succ, List.set_cons_zero]
  simp
/-- A row of records that is being filled: the places from 'os' on are zero. -/
structure VFill (w : World) (b G n : Nat) (os : List VotO) (j : Nat) : Prop where
  row : w.ownsRow b 77 9 (.slice (some ⟨G, 0, none⟩) n n) n ((os ++ List.replicate j VotO.zero).flatMap VotO.cells)
  weak : ∀ o ∈ os, w.ownsRow b 2 1 o.v o.r.l.length (I64 o.r.l)
  apart : os.Pairwise fun a b => a.v.ownBlock = none ∨ a.v.ownBlock ≠ b.v.ownBlock
theorem pair_snoc {os : List VotO} {w : World} {b b2 : Nat} {o : VotO} (hp : os.Pairwise fun a b => a.v.ownBlock = none ∨ a.v.ownBlock ≠ b.v.ownBlock) (hw : ∀ o ∈ os, w.ownsRow b 2 1 o.v o.r.l.length (I64 o.r.l))
    {w2 : World} (ho : w2.ownsRow b2 2 1 o.v o.r.l.length (I64 o.r.l)) (hb : w.heap.size ≤ b2) : (os ++ [o]).Pairwise fun a b => a.v.ownBlock = none ∨ a.v.ownBlock ≠ b.v.ownBlock := by
  rw [List.pairwise_append]
  refine ⟨hp, List.pairwise_singleton _ _, fun a ha c hc => ?_⟩
  rw [List.mem_singleton] at hc
  subst hc
  exact own_apart (hw a ha) ho hb
theorem VFill.store {w w2 : World} {b b2 G n j : Nat} {os : List VotO} {o : VotO} (h : VFill w b G n os (j + 1)) (hne : 2 ≠ 77) (hb2 : Below w.heap.size w w2) (ho : w2.ownsRow b2 2 1 o.v o.r.l.length (I64 o.r.l)) (hb : w.heap.size ≤ b2) (hbb : b ≤ b2) :
    VFill (setCells w2 G (os.length * 9) o.cells) b G n (os ++ [o]) j := by
  have hr := ostep hb2 h.row
  have hS := own_setRec VotO.len (k := os.length) o (by simp) hr
  rw [fill_set] at hS
  refine ⟨hS.1, fun p hp => ?_, pair_snoc h.apart h.weak ho hb⟩
  rw [List.mem_append, List.mem_singleton] at hp
  rcases hp with hp | rfl
  · exact kept_apart hne (ostep hb2 (h.weak p hp)) hr hS.2
  · exact kept_apart hne (own_base ho hbb) hr hS.2
theorem Try.info_Voted : (Try.prog.info? 77).map (fun i => (i.zero, i.size, i.bytes)) = some (some (.agg #[.int .i64 0, .int .i64 0, .int .i64 0, .int .i64 0, .string ⟨#[]⟩, .int .i64 0, .bool false, .slice none 0 0, .int .i64 0]), 9, 96) := by kernel_rfl
theorem map_snoc {os : List VotO} {l : List VotR} {k : Nat} {o : VotO} (h : os.map VotO.r = l.take k) (hk : l[k]? = some o.r) : (os ++ [o]).map VotO.r = l.take (k + 1) := by
  rw [List.map_append, h, take_snoc l k o.r hk]
  rfl
set_option maxHeartbeats 4000000 in
theorem laws_toVotedS {A : Option Addr} {cap n : Nat} {l : List VotA} (w w0 : World) (hA : ArgS w A n cap 9 (l.flatMap VotA.cells)) (hl : l.length = n) (hk : ∀ r ∈ l, r.ok w0) (h0 : Below w0.heap.size w0 w) (hz : ∀ r ∈ l, r.r.l.length ≤ 1048576) (hn : n ≤ 1048576) :
    Calls Try.prog 19 #[.slice A n cap] w fun e w' => ∃ v os, e = .returned v ∧ os.map VotO.r = l.map VotA.r ∧ VRow w' w.heap.size v os ∧ Below w.heap.size w w' := by
  obtain ⟨i0, hi0, hz0, hz1, hz2⟩ := info_parts Try.info_Voted
  have HN := Hid.in_ hl
  have HA := Hid.in_ hA
  have HO := Hid.in_ hk
  have HZ := Hid.in_ hz
  have H0 := Hid.in_ h0
  clear hA hl hk hz h0
  go_enter Try.func19, Try.ntmps19
  go_wp2_with (at_make; refine wpList_make_full _ rfl _ _ _ rfl w.heap.size 77 i0 _ 9 Try.underlying35 hi0 hz0 hz1 _ _ _ _ n rfl rfl rfl rfl (by rw [hz2]; omega) (by unfold maxLen; omega) (Nat.le_refl _) ?_; intro w1 hown hgrow)
  have HF : Hid (VFill w1 w.heap.size w.heap.size n [] n ∧ Below w.heap.size w w1) := by
    refine ⟨⟨?_, (fun o ho => by cases ho), List.Pairwise.nil⟩, (Below.refl _ _).grown hgrow (Nat.le_refl _) (by simp)⟩
    rw [List.nil_append, ← made_flat VotO.len VotO.zero n]
    exact hown
  clear hown hgrow
  go_loopg [4] n (fun m i wr => ∃ k : Nat, k + m = n ∧ i = .int .i64 k ∧ ∃ os : List VotO, Hid (os.length = k ∧ os.map VotO.r = (l.map VotA.r).take k) ∧ Hid (VFill wr w.heap.size w.heap.size n os m ∧ Below w.heap.size w wr))
  case atStart => exact ⟨0, by omega, rfl, [], ⟨rfl, rfl⟩, HF⟩
  case round =>
    clear HF
    obtain ⟨k, hkm, rfl, os, HOS, HF⟩ := hrel
    have HK := Hid.in_ hkm
    clear hkm
    by_cases hlt : k < n
    · obtain ⟨b, o, rfl, hb, hc⟩ := HA.out.2.2.2 (by omega) (by omega)
      obtain ⟨m, hm⟩ := get_lt l k (by rw [HN.out]; exact hlt)
      have hB : BoxAt wr b (o + k * 9) m.cells := ((BoxAt.elem VotA.len hc hm).step HF.out.2)
      obtain ⟨c0, c1, c2, c3, c4, c5, c6, c7, c8⟩ := boxAt9 hB
      have HC := Hid.in_ hc
      have HM := Hid.in_ hm
      have HAM := Hid.in_ (((HO.out m (List.mem_of_getElem? hm)).1.below H0.out).below HF.out.2)
      have HZM := Hid.in_ (HZ.out m (List.mem_of_getElem? hm))
      clear hB hc hm
      obtain ⟨⟨mc, mh, mn, ms, md, mt, mx, ml, mvo⟩, mA, mcap⟩ := m
      go_wp2_with fail
      refine (laws_toVoted _ _ _ _ _ _ _ _ _ HAM.out rfl HZM.out).mono ?_
      rintro e w2 ⟨v, rfl, ho2, hb2⟩
      clear c0 c1 c2 c3 c4 c5 c6 c7 c8
      have hw : w.heap.size ≤ wr.heap.size := HF.out.2.size
      obtain ⟨j, rfl⟩ : ∃ j, gk = j + 1 := ⟨gk - 1, by have := HK.out; omega⟩
      have hF2 := VFill.store (o := ⟨⟨mc, mh, mn, ms, md, mt, mx, ml, mvo⟩, v⟩) HF.out.1 (by decide) hb2 ho2 (Nat.le_refl _) hw
      rw [HOS.out.1] at hF2
      have hr2 := ostep hb2 HF.out.1.row
      have hlen : k < (os ++ List.replicate (j + 1) VotO.zero).length := by rw [List.length_append, List.length_replicate, HOS.out.1]; omega
      obtain ⟨y, hy⟩ := get_lt _ k hlen
      obtain ⟨A', c', hv, _, _, hA'⟩ := own_shape hr2
      obtain ⟨g', hg', _, _, hbox, hfz⟩ := hA' (by omega)
      obtain ⟨rfl⟩ : w.heap.size = g' := by injection hv with h1 h2 h3; rw [hg'] at h1; injection h1 with h1; injection h1
      obtain ⟨c0, c1, c2, c3, c4, c5, c6, c7, c8⟩ := boxAt9 (Box.elem VotO.len hbox hy)
      have f0 := hfz (k * 9)
      have f1 := hfz (k * 9 + 1)
      have f2 := hfz (k * 9 + 2)
      have f3 := hfz (k * 9 + 3)
      have f4 := hfz (k * 9 + 4)
      have f5 := hfz (k * 9 + 5)
      have f6 := hfz (k * 9 + 6)
      have f7 := hfz (k * 9 + 7)
      have f8 := hfz (k * 9 + 8)
      have HF2 := Hid.in_ (And.intro hF2 (Below.setCells (Nat.le_refl _) (VotO.cells ⟨⟨mc, mh, mn, ms, md, mt, mx, ml, mvo⟩, v⟩) (k * 9) (HF.out.2.trans (hb2.mono HF.out.2.size))))
      have HOS2 := Hid.in_ (And.intro (show (os ++ [(⟨⟨mc, mh, mn, ms, md, mt, mx, ml, mvo⟩, v⟩ : VotO)]).length = k + 1 by rw [List.length_append, HOS.out.1]; rfl) (map_snoc (o := ⟨⟨mc, mh, mn, ms, md, mt, mx, ml, mvo⟩, v⟩) HOS.out.2 (by rw [List.getElem?_map, HM.out]; rfl)))
      have hvs : ∃ A2 c2, v = .slice A2 ml.length c2 := by obtain ⟨A2, c2, h, _⟩ := own_shape ho2; exact ⟨A2, c2, h⟩
      obtain ⟨A2, c2', rfl⟩ := hvs
      clear hF2 hbox hfz hA' hv hg' hy hr2 hb2 HF hw ho2 hlen HAM HM HC
      go_wp2
      have hk := HK.out
      go_roundg j
      case measure => omega
      case rel => exact ⟨k + 1, by omega, by go_num, _, HOS2, HF2⟩
    · have hk := HK.out
      obtain rfl : k = n := by omega
      obtain rfl : gk = 0 := by omega
      have HE := Hid.in_ (show os.map VotO.r = l.map VotA.r ∧ VRow wr w.heap.size (.slice (some ⟨w.heap.size, 0, none⟩) k k) os from ⟨by rw [HOS.out.2, List.take_of_length_le (by rw [List.length_map, HN.out]; exact Nat.le_refl _)], by
        have hr := HF.out.1.row
        rw [List.replicate_zero, List.append_nil] at hr
        refine ⟨?_, HF.out.1.weak, HF.out.1.apart⟩
        rw [HOS.out.1]
        exact hr⟩)
      go_wp2
      go_ret
      exact ⟨_, os, rfl, HE.out.1, HE.out.2, HF.out.2⟩
set_option maxHeartbeats 2000000 in
theorem laws_eqVotedS {v1 v2 : Value} {b1 b2 : Nat} {l1 l2 : List VotO} (w : World) (h1 : VRow w b1 v1 l1) (h2 : VRow w b2 v2 l2) (h12 : l1.map VotO.r = l2.map VotO.r) :
    Calls Try.prog 21 #[v1, v2] w fun e w' => e = .returned (.bool true) ∧ Below w.heap.size w w' := by
  have W1 := Hid.in_ h1.weak
  have W2 := Hid.in_ h2.weak
  obtain ⟨n, hn1⟩ : ∃ n, l1.length = n := ⟨_, rfl⟩
  have hn2 : l2.length = n := by have := congrArg List.length h12; rw [List.length_map, List.length_map] at this; omega
  obtain ⟨A1, c1, rfl, hl1, hn, hA1⟩ := own_shape h1.row
  obtain ⟨A2, c2, rfl, hl2, _, hA2⟩ := own_shape h2.row
  rw [hn1] at hA1 hn ⊢
  rw [hn2] at hA2 ⊢
  have HL1 := Hid.in_ hn1
  have HL2 := Hid.in_ hn2
  have HE := Hid.in_ h12
  have H1 := Hid.in_ hA1
  have H2 := Hid.in_ hA2
  clear hA1 hA2 hl1 hl2 h1 h2 h12 hn1 hn2
  go_enter Try.func21, Try.ntmps21
  go_wp2
  go_loopg [5] n (fun m i wr => ∃ k : Nat, k + m = n ∧ i = .int .i64 k ∧ Below w.heap.size w wr)
  case atStart => exact ⟨0, by omega, rfl, Below.refl _ _⟩
  case round =>
    obtain ⟨k, hkm, rfl, hbw⟩ := hrel
    have HK := Hid.in_ hkm
    have HB := Hid.in_ hbw
    clear hkm hbw
    by_cases hlt : k < n
    · obtain ⟨g1, rfl, _, hg1, hx1, _⟩ := H1.out (by omega)
      obtain ⟨g2, rfl, _, hg2, hx2, _⟩ := H2.out (by omega)
      obtain ⟨⟨mr, mv⟩, hm⟩ := get_lt l1 k (by rw [HL1.out]; exact hlt)
      obtain ⟨⟨qr, qv⟩, hq⟩ := get_lt l2 k (by rw [HL2.out]; exact hlt)
      have he : mr = qr := by
        have e1 := map_get HE.out hm
        rw [List.getElem?_map, hq] at e1
        injection e1 with e1
        exact e1.symm
      subst he
      obtain ⟨c0, c1, c2, c3, c4, c5, c6, c7, c8⟩ := boxAt9 ((Box.elem VotO.len hx1 hm).step HB.out)
      obtain ⟨d0, d1, d2, d3, d4, d5, d6, d7, d8⟩ := boxAt9 ((Box.elem VotO.len hx2 hq).step HB.out)
      have HM1 := Hid.in_ (ostep HB.out (W1.out _ (List.mem_of_getElem? hm)))
      have HM2 := Hid.in_ (ostep HB.out (W2.out _ (List.mem_of_getElem? hq)))
      clear hx1 hx2 hm hq
      obtain ⟨mc, mh, mn, ms, md, mt, mx, ml, mvo⟩ := mr
      go_wp2_with fail
      go_still_tail 8, (by kernel_rfl)
      change wpList _ _ _ _ _ wr.drew
      have HB2 : Hid (Below w.heap.size w wr.drew) := HB.out.drew
      have HN1 : Hid (wr.drew.ownsRow b1 2 1 mv ml.length (I64 ml)) := HM1.out
      have HN2 : Hid (wr.drew.ownsRow b2 2 1 qv ml.length (I64 ml)) := HM2.out
      clear HM1 HM2
      generalize wr.drew = w2 at *
      clear c0 c1 c2 c3 c4 c5 c6 c7 c8 d0 d1 d2 d3 d4 d5 d6 d7 d8
      go_wp2_with fail
      refine (laws_eqVoted _ _ _ _ _ _ _ _ _ HN1.out HN2.out).mono ?_
      rintro e w3 ⟨rfl, hb3⟩
      go_wp2
      have hk := HK.out
      go_roundg (gk - 1)
      case measure => omega
      case rel => exact ⟨k + 1, by omega, by go_num, bstep HB2.out hb3⟩
    · have hk := HK.out
      obtain rfl : k = n := by omega
      go_wp2
      go_ret
      exact ⟨rfl, HB.out⟩
end Go.Proofs.Ytlelgpknkgjaeaa
