/- Rows of rows of found sectors: as arguments that came in, 'szFoundSS', 'toFoundSS', 'eqFoundSS', 'markFoundSS' of the laws. -/
import Derived.Test.YtlelgpknkgjaeaaRecF
import Derived.Test.YtlelgpknkgjaeaaSame
import Derived.Test.YtlelgpknkgjaeaaMkS
import Derived.Test.YtlelgpknkgjaeaaVots
import Derived.Test.YtlelgpknkgjaeaaTch
namespace Go.Proofs.Ytlelgpknkgjaeaa
open Go.ChangeShapes Go.WideShapes Go.ChangeAt Go.RowKit
set_option linter.unusedSimpArgs false
set_option linter.unusedVariables false
set_option maxRecDepth 8000

/-- A list and where it lies: in memory of the calls' own. -/
structure FsO where
  r : List FndR
  v : Value
def FsO.cells (o : FsO) : List Value := [o.v]
theorem FsO.len (o : FsO) : o.cells.length = 1 := rfl
def FsO.zero : FsO := ⟨[], .slice none 0 0⟩
/-- A list and where it lies: in memory that came in. -/
structure FsA where
  r : List FndR
  A : Option Addr
  cap : Nat
def FsA.cells (a : FsA) : List Value := [.slice a.A a.r.length a.cap]
theorem FsA.len (a : FsA) : a.cells.length = 1 := rfl
def FsA.ok (w : World) (a : FsA) : Prop := ArgS w a.A a.r.length a.cap 8 (a.r.flatMap FndR.cells) ∧ ∀ x ∈ a.r, x.ok
def sumL (l : List (List FndR)) (k : Nat) : Nat := ((l.take k).map List.length).sum
theorem sumL_next {l : List (List FndR)} {k : Nat} {m : List FndR} (h : l[k]? = some m) : sumL l (k + 1) = sumL l k + m.length := by
  unfold sumL
  rw [take_snoc l k m h, List.map_append, List.sum_append]
  simp
theorem sumL_mono (l : List (List FndR)) : ∀ (n k : Nat), k ≤ n → sumL l k ≤ sumL l n := by
  intro n
  induction n with
  | zero => intro k hk; obtain rfl : k = 0 := by omega
            exact Nat.le_refl _
  | succ n ih =>
    intro k hk
    rcases Nat.lt_or_ge k (n + 1) with h | h
    · refine Nat.le_trans (ih k (by omega)) ?_
      cases hn : l[n]? with
      | none =>
        unfold sumL
        rw [List.take_add_one, hn]
        simp
      | some m => rw [sumL_next hn]; omega
    · obtain rfl : k = n + 1 := by omega
      exact Nat.le_refl _
/-- A row of rows in memory of the calls' own. -/
structure FsRow (w : World) (b : Nat) (v : Value) (os : List FsO) : Prop where
  row : w.ownsRow b 101 1 v os.length (os.flatMap FsO.cells)
  each : ∀ o ∈ os, w.ownsRow b 128 8 o.v o.r.length (o.r.flatMap FndR.cells)
  apart : os.Pairwise fun a b => a.v.ownBlock = none ∨ a.v.ownBlock ≠ b.v.ownBlock
theorem FsRow.step {w w' : World} {b : Nat} {v : Value} {os : List FsO} (k : Below w.heap.size w w') (h : FsRow w b v os) : FsRow w' b v os :=
  ⟨ostep k h.row, fun o ho => ostep k (h.each o ho), h.apart⟩
theorem FsRow.base {w : World} {b b' : Nat} {v : Value} {os : List FsO} (h : FsRow w b v os) (hb : b' ≤ b) : FsRow w b' v os :=
  ⟨own_base h.row hb, fun o ho => own_base (h.each o ho) hb, h.apart⟩
theorem fso_get {os : List FsO} {l : List (List FndR)} (h : os.map FsO.r = l) {k : Nat} {o : FsO} (ho : os[k]? = some o) : l[k]? = some o.r := by
  subst h
  rw [List.getElem?_map, ho]
  rfl
section
variable {H : Type} {enc : TypeId × Value → H} {w : World} {base : Nat} {held : Bool}
theorem open_FsA {m : Nat} {cs : List Value} {y : DataW H × List MemPlace} (h : DataW.trod enc Try.prog w base (fun _ => true) held m 99 cs = some y) : ∃ r : FsA, cs = r.cells ∧ r.ok w := by
  obtain ⟨A, cap, l, hcs, hA, hok⟩ := open_rows FndR.len Try.underlying99 (by kernel_rfl) (fun _ _ _ h => open_FndR h) h
  exact ⟨⟨l, A, cap⟩, hcs, hA, hok⟩
theorem slice_FsA {r0 : Reach} {b0 : Nat} {v : Value} {d : DataW H} {p : List MemPlace} (hv : Value.okWide Try.prog w r0 b0 58 v) (h : DataW.Trod enc Try.prog w base (fun _ => true) held 58 v d p) :
    ∃ (A : Option Addr) (cap : Nat) (l : List FsA), v = .slice A l.length cap ∧ ArgS w A l.length cap 1 (l.flatMap FsA.cells) ∧ ∀ r ∈ l, r.ok w := by
  obtain ⟨A, n, cap, rfl⟩ := okWide_slice Try.underlying58 hv
  obtain ⟨fuel, hf⟩ := h
  obtain ⟨A', cap', l, hcs, hA, hok⟩ := open_rows FsA.len Try.underlying58 (by kernel_rfl) (fun _ _ _ h => open_FsA h) hf
  obtain ⟨rfl, rfl, rfl⟩ : A = A' ∧ n = l.length ∧ cap = cap' := by simpa [Value.cells] using hcs
  exact ⟨_, _, l, rfl, hA, hok⟩
end
set_option maxHeartbeats 1000000 in
theorem laws_szFoundSS {A : Option Addr} {cap n : Nat} {l : List FsA} (left : Int) (w w0 : World) (hA : ArgS w A n cap 1 (l.flatMap FsA.cells)) (hl : l.length = n) (hk : ∀ r ∈ l, r.ok w0) (hw : Below w0.heap.size w0 w) (h0 : 0 ≤ left) (h1 : left ≤ 1048576) :
    Calls Try.prog 35 #[.slice A n cap, .int .i64 left] w fun e w' => (e = .returned (.int .i64 (-1)) ∨ ∃ r : Int, e = .returned (.int .i64 r) ∧ 0 ≤ r ∧ r + n + sumL (l.map FsA.r) n ≤ left ∧ ∀ x ∈ l, ∀ f ∈ x.r, (f.d.size : Int) ≤ left) ∧ Below w.heap.size w w' := by
  have hm : n ≤ 9223372036854775807 := Nat.le_trans hA.2.1 hA.2.2.1
  have HN := Hid.in_ hl
  have HA := Hid.in_ hA
  have HO := Hid.in_ hk
  have HW := Hid.in_ hw
  clear hA hl hk hw
  by_cases hlt : left < n
  · go_enter Try.func35, Try.ntmps35
    go_wp2
    go_ret
    exact ⟨.inl rfl, Below.refl _ _⟩
  · go_enter Try.func35, Try.ntmps35
    go_wp2
    go_loopg [1, 5] n (fun m t i wr => ∃ (k : Nat) (t' : Int), k + m = n ∧ i = .int .i64 k ∧ t = .int .i64 t' ∧ 0 ≤ t' ∧ t' + n + sumL (l.map FsA.r) k ≤ left ∧ Hid (∀ j x, j < k → l[j]? = some x → ∀ f ∈ x.r, (f.d.size : Int) ≤ left) ∧ Hid (Below w.heap.size w wr))
    case atStart => exact ⟨0, left - n, by omega, rfl, rfl, by omega, by simp [sumL], fun j x hj => by omega, Below.refl _ _⟩
    case round =>
      obtain ⟨k, t', hkm, rfl, rfl, ht0, ht1, HD, HB⟩ := hrel
      have HK := Hid.in_ hkm
      clear hkm
      by_cases hlk : k < n
      · obtain ⟨b, o, rfl, hb, hc⟩ := HA.out.2.2.2 (by omega) (by omega)
        obtain ⟨m, hm'⟩ := get_lt l k (by rw [HN.out]; exact hlk)
        have hbx := (BoxAt.elem FsA.len hc hm').step HB.out
        rw [Nat.mul_one] at hbx
        have c0 : wr.cell? ⟨b, o + k, none⟩ = some (.slice m.A m.r.length m.cap) := hbx 0 _ rfl
        obtain ⟨hAm, hd⟩ := HO.out m (List.mem_of_getElem? hm')
        have HAM := Hid.in_ (ArgS.below (ArgS.below hAm HW.out) HB.out)
        have HDM := Hid.in_ hd
        have hNm : m.r.length ≤ 9223372036854775807 := Nat.le_trans hAm.2.1 hAm.2.2.1
        have HSN := Hid.in_ (sumL_next (show (l.map FsA.r)[k]? = some m.r by rw [List.getElem?_map, hm']; rfl))
        have HM := Hid.in_ hm'
        clear hc hm' hAm hbx hd
        have HT0 := Hid.in_ ht0
        have HT1 := Hid.in_ ht1
        clear ht0 ht1
        go_wp2_with fail
        refine (laws_szFoundS _ _ HAM.out rfl HDM.out HT0.out (by have := HT1.out; omega)).mono ?_
        rintro e w2 ⟨rfl | ⟨r, rfl, hr0, hr1, hr2⟩, hb2⟩
        · have HB2 := Hid.in_ (HB.out.trans (hb2.mono HB.out.size))
          clear c0 hb2
          go_wp2
          go_ret
          exact ⟨.inl rfl, HB2.out⟩
        · have HB2 := Hid.in_ (HB.out.trans (hb2.mono HB.out.size))
          clear c0 hb2
          have ht1 := HT1.out
          have HD2 := Hid.in_ (show ∀ j x, j < k + 1 → l[j]? = some x → ∀ f ∈ x.r, (f.d.size : Int) ≤ left from fun j x hj hx => by
            rcases Nat.lt_or_ge j k with h | h
            · exact HD.out j x h hx
            · obtain rfl : j = k := by omega
              rw [HM.out] at hx
              injection hx with hx
              subst hx
              intro f hf
              have := hr2 f hf
              omega)
          have HQ := Hid.in_ (show r + n + sumL (l.map FsA.r) (k + 1) ≤ left by rw [HSN.out]; omega)
          clear ht1 hr1 hr2
          go_wp2
          have hk := HK.out
          go_roundg (gk - 1)
          case measure => omega
          case rel => exact ⟨k + 1, r, by omega, by go_num, rfl, hr0, HQ.out, HD2, HB2⟩
      · have hk := HK.out
        obtain rfl : k = n := by omega
        have HT1 := Hid.in_ ht1
        clear ht1
        go_wp2
        go_ret
        refine ⟨.inr ⟨t', rfl, ht0, HT1.out, fun x hx => ?_⟩, HB.out⟩
        obtain ⟨j, hj⟩ := List.getElem?_of_mem hx
        exact HD.out j x (by rw [← HN.out]; exact (List.getElem?_eq_some_iff.1 hj).1) hj
/-- A row that is being filled: the places from 'os' on are zero. -/
structure FFill (w : World) (b G n : Nat) (os : List FsO) (j : Nat) : Prop where
  row : w.ownsRow b 101 1 (.slice (some ⟨G, 0, none⟩) n n) n ((os ++ List.replicate j FsO.zero).flatMap FsO.cells)
  each : ∀ o ∈ os, w.ownsRow b 128 8 o.v o.r.length (o.r.flatMap FndR.cells)
  apart : os.Pairwise fun a b => a.v.ownBlock = none ∨ a.v.ownBlock ≠ b.v.ownBlock
theorem fpair_snoc {os : List FsO} {w : World} {b b2 : Nat} {o : FsO} (hp : os.Pairwise fun a b => a.v.ownBlock = none ∨ a.v.ownBlock ≠ b.v.ownBlock) (hw : ∀ o ∈ os, w.ownsRow b 128 8 o.v o.r.length (o.r.flatMap FndR.cells))
    {w2 : World} (ho : w2.ownsRow b2 128 8 o.v o.r.length (o.r.flatMap FndR.cells)) (hb : w.heap.size ≤ b2) : (os ++ [o]).Pairwise fun a b => a.v.ownBlock = none ∨ a.v.ownBlock ≠ b.v.ownBlock := by
  rw [List.pairwise_append]
  refine ⟨hp, List.pairwise_singleton _ _, fun a ha c hc => ?_⟩
  rw [List.mem_singleton] at hc
  subst hc
  exact own_apart (hw a ha) ho hb
theorem FFill.store {w w2 : World} {b b2 G n j : Nat} {os : List FsO} {o : FsO} (h : FFill w b G n os (j + 1)) (hb2 : Below w.heap.size w w2) (ho : w2.ownsRow b2 128 8 o.v o.r.length (o.r.flatMap FndR.cells)) (hb : w.heap.size ≤ b2) (hbb : b ≤ b2) :
    FFill (setCells w2 G (os.length * 1) o.cells) b G n (os ++ [o]) j := by
  have hr := ostep hb2 h.row
  have hS := own_setRec FsO.len (k := os.length) o (by simp) hr
  rw [fill_set] at hS
  refine ⟨hS.1, fun p hp => ?_, fpair_snoc h.apart h.each ho hb⟩
  rw [List.mem_append, List.mem_singleton] at hp
  rcases hp with hp | rfl
  · exact kept_apart (by decide) (ostep hb2 (h.each p hp)) hr hS.2
  · exact kept_apart (by decide) (own_base ho hbb) hr hS.2
theorem fmap_snoc {os : List FsO} {l : List (List FndR)} {k : Nat} {o : FsO} (h : os.map FsO.r = l.take k) (hk : l[k]? = some o.r) : (os ++ [o]).map FsO.r = l.take (k + 1) := by
  rw [List.map_append, h, take_snoc l k o.r hk]
  rfl
theorem Try.info_Founds : (Try.prog.info? 101).map (fun i => (i.zero, i.size, i.bytes)) = some (some (.slice none 0 0), 1, 24) := by kernel_rfl
set_option maxHeartbeats 2000000 in
theorem laws_toFoundSS {A : Option Addr} {cap n : Nat} {l : List FsA} (w w0 : World) (hA : ArgS w A n cap 1 (l.flatMap FsA.cells)) (hl : l.length = n) (hk : ∀ r ∈ l, r.ok w0) (h0 : Below w0.heap.size w0 w) (hz : ∀ r ∈ l, r.r.length ≤ 1048576) (hn : n ≤ 1048576) :
    Calls Try.prog 37 #[.slice A n cap] w fun e w' => ∃ v os, e = .returned v ∧ os.map FsO.r = l.map FsA.r ∧ FsRow w' w.heap.size v os ∧ Below w.heap.size w w' := by
  obtain ⟨i0, hi0, hz0, hz1, hz2⟩ := info_parts Try.info_Founds
  have HN := Hid.in_ hl
  have HA := Hid.in_ hA
  have HO := Hid.in_ hk
  have HZ := Hid.in_ hz
  have H0 := Hid.in_ h0
  clear hA hl hk hz h0
  go_enter Try.func37, Try.ntmps37
  go_wp2_with (at_make; refine wpList_make_full _ rfl _ _ _ rfl w.heap.size 101 i0 _ 1 Try.underlying62 hi0 hz0 hz1 _ _ _ _ n rfl rfl rfl rfl (by rw [hz2]; omega) (by unfold maxLen; omega) (Nat.le_refl _) ?_; intro w1 hown hgrow)
  have HF : Hid (FFill w1 w.heap.size w.heap.size n [] n ∧ Below w.heap.size w w1) := by
    refine ⟨⟨?_, (fun o ho => by cases ho), List.Pairwise.nil⟩, (Below.refl _ _).grown hgrow (Nat.le_refl _) (by simp)⟩
    rw [List.nil_append, ← made_flat FsO.len FsO.zero n]
    exact hown
  clear hown hgrow
  go_loopg [4] n (fun m i wr => ∃ k : Nat, k + m = n ∧ i = .int .i64 k ∧ ∃ os : List FsO, Hid (os.length = k ∧ os.map FsO.r = (l.map FsA.r).take k) ∧ Hid (FFill wr w.heap.size w.heap.size n os m ∧ Below w.heap.size w wr))
  case atStart => exact ⟨0, by omega, rfl, [], ⟨rfl, rfl⟩, HF⟩
  case round =>
    clear HF
    obtain ⟨k, hkm, rfl, os, HOS, HF⟩ := hrel
    have HK := Hid.in_ hkm
    clear hkm
    by_cases hlt : k < n
    · obtain ⟨b, o, rfl, hb, hc⟩ := HA.out.2.2.2 (by omega) (by omega)
      obtain ⟨m, hm⟩ := get_lt l k (by rw [HN.out]; exact hlt)
      have hB := ((BoxAt.elem FsA.len hc hm).step HF.out.2)
      rw [Nat.mul_one] at hB
      have c0 : wr.cell? ⟨b, o + k, none⟩ = some (.slice m.A m.r.length m.cap) := hB 0 _ rfl
      have HM := Hid.in_ hm
      have HAM := Hid.in_ (ArgS.below (ArgS.below (HO.out m (List.mem_of_getElem? hm)).1 H0.out) HF.out.2)
      have HZM := Hid.in_ (HZ.out m (List.mem_of_getElem? hm))
      clear hB hc hm
      obtain ⟨ml, mA, mcap⟩ := m
      go_wp2_with fail
      refine (laws_toFoundS _ HAM.out rfl HZM.out).mono ?_
      rintro e w2 ⟨v, rfl, ho2, hb2⟩
      clear c0
      have hw : w.heap.size ≤ wr.heap.size := HF.out.2.size
      obtain ⟨j, rfl⟩ : ∃ j, gk = j + 1 := ⟨gk - 1, by have := HK.out; omega⟩
      have hF2 := FFill.store (o := ⟨ml, v⟩) HF.out.1 hb2 ho2 (Nat.le_refl _) hw
      rw [HOS.out.1, Nat.mul_one] at hF2
      have hr2 := ostep hb2 HF.out.1.row
      have hlen : k < (os ++ List.replicate (j + 1) FsO.zero).length := by rw [List.length_append, List.length_replicate, HOS.out.1]; omega
      obtain ⟨y, hy⟩ := get_lt _ k hlen
      obtain ⟨A', c', hv, _, _, hA'⟩ := own_shape hr2
      obtain ⟨g', hg', _, _, hbox, hfz⟩ := hA' (by omega)
      obtain ⟨rfl⟩ : w.heap.size = g' := by injection hv with h1 h2 h3; rw [hg'] at h1; injection h1 with h1; injection h1
      have hbx := Box.elem FsO.len hbox hy
      rw [Nat.mul_one] at hbx
      have c0 : w2.cell? ⟨w.heap.size, k, none⟩ = some y.v := by have := hbx 0 _ rfl; exact this
      have f0 := hfz k
      have HF2 := Hid.in_ (And.intro hF2 (Below.setCells (Nat.le_refl _) (FsO.cells ⟨ml, v⟩) k (HF.out.2.trans (hb2.mono HF.out.2.size))))
      have HOS2 := Hid.in_ (And.intro (show (os ++ [(⟨ml, v⟩ : FsO)]).length = k + 1 by rw [List.length_append, HOS.out.1]; rfl) (fmap_snoc (o := ⟨ml, v⟩) HOS.out.2 (by rw [List.getElem?_map, HM.out]; rfl)))
      have hvs : ∃ A2 c2, v = .slice A2 ml.length c2 := by obtain ⟨A2, c2, h, _⟩ := own_shape ho2; exact ⟨A2, c2, h⟩
      obtain ⟨A2, c2', rfl⟩ := hvs
      clear hF2 hbox hbx hfz hA' hv hg' hy hr2 hb2 HF hw ho2 hlen HAM HM
      go_wp2
      have hk := HK.out
      go_roundg j
      case measure => omega
      case rel => exact ⟨k + 1, by omega, by go_num, _, HOS2, HF2⟩
    · have hk := HK.out
      obtain rfl : k = n := by omega
      obtain rfl : gk = 0 := by omega
      have HE := Hid.in_ (show os.map FsO.r = l.map FsA.r ∧ FsRow wr w.heap.size (.slice (some ⟨w.heap.size, 0, none⟩) k k) os from ⟨by rw [HOS.out.2, List.take_of_length_le (by rw [List.length_map, HN.out]; exact Nat.le_refl _)], by
        have hr := HF.out.1.row
        rw [List.replicate_zero, List.append_nil] at hr
        refine ⟨?_, HF.out.1.each, HF.out.1.apart⟩
        rw [HOS.out.1]
        exact hr⟩)
      go_wp2
      go_ret
      exact ⟨_, os, rfl, HE.out.1, HE.out.2, HF.out.2⟩
set_option maxHeartbeats 2000000 in
theorem laws_eqFoundSS {v1 v2 : Value} {b1 b2 : Nat} {l1 l2 : List FsO} (w : World) (h1 : FsRow w b1 v1 l1) (h2 : FsRow w b2 v2 l2) (h12 : l1.map FsO.r = l2.map FsO.r) :
    Calls Try.prog 39 #[v1, v2] w fun e w' => e = .returned (.bool true) ∧ Below w.heap.size w w' := by
  have W1 := Hid.in_ h1.each
  have W2 := Hid.in_ h2.each
  obtain ⟨n, hn1⟩ : ∃ n, l1.length = n := ⟨_, rfl⟩
  have hn2 : l2.length = n := by have := congrArg List.length h12; rw [List.length_map, List.length_map] at this; omega
  obtain ⟨A1, c1, rfl, hl1, hn, hA1⟩ := own_shape h1.row
  obtain ⟨A2, c2, rfl, hl2, _, hA2⟩ := own_shape h2.row
  rw [hn1] at hA1 hn ⊢
  rw [hn2] at hA2 ⊢
  have HL1 := Hid.in_ hn1
  have HL2 := Hid.in_ hn2
  have HE := Hid.in_ h12
  have H1 := Hid.in_ hA1
  have H2 := Hid.in_ hA2
  clear hA1 hA2 hl1 hl2 h1 h2 h12 hn1 hn2
  go_enter Try.func39, Try.ntmps39
  go_wp2
  go_loopg [5] n (fun m i wr => ∃ k : Nat, k + m = n ∧ i = .int .i64 k ∧ Hid (Below w.heap.size w wr))
  case atStart => exact ⟨0, by omega, rfl, Below.refl _ _⟩
  case round =>
    obtain ⟨k, hkm, rfl, HB⟩ := hrel
    have HK := Hid.in_ hkm
    clear hkm
    by_cases hlt : k < n
    · obtain ⟨g1, rfl, _, hg1, hx1, _⟩ := H1.out (by omega)
      obtain ⟨g2, rfl, _, hg2, hx2, _⟩ := H2.out (by omega)
      obtain ⟨⟨mr, mv⟩, hm⟩ := get_lt l1 k (by rw [HL1.out]; exact hlt)
      obtain ⟨⟨qr, qv⟩, hq⟩ := get_lt l2 k (by rw [HL2.out]; exact hlt)
      have he : mr = qr := by
        have e1 := fso_get HE.out hm
        rw [List.getElem?_map, hq] at e1
        injection e1 with e1
        exact e1.symm
      subst he
      have hbx1 := (Box.elem FsO.len hx1 hm).step HB.out
      have hbx2 := (Box.elem FsO.len hx2 hq).step HB.out
      rw [Nat.mul_one] at hbx1 hbx2
      have c0 : wr.cell? ⟨g1, k, none⟩ = some mv := by have := hbx1 0 _ rfl; exact this
      have d0 : wr.cell? ⟨g2, k, none⟩ = some qv := by have := hbx2 0 _ rfl; exact this
      have HO1 := Hid.in_ (ostep HB.out (W1.out _ (List.mem_of_getElem? hm)))
      have HO2 := Hid.in_ (ostep HB.out (W2.out _ (List.mem_of_getElem? hq)))
      clear hx1 hx2 hbx1 hbx2 hm hq
      go_wp2_with fail
      go_still_tail 8, (by kernel_rfl)
      go_wp2_with fail
      refine (laws_eqFoundS _ (ostep (Below.refl _ _).drew HO1.out) (ostep (Below.refl _ _).drew HO2.out)).mono ?_
      rintro e w2 ⟨rfl, hb2⟩
      have HB2 := Hid.in_ (bstep HB.out.drew hb2)
      clear c0 d0 hb2
      go_wp2
      have hk := HK.out
      go_roundg (gk - 1)
      case measure => omega
      case rel => exact ⟨k + 1, by omega, by go_num, HB2⟩
    · have hk := HK.out
      obtain rfl : k = n := by omega
      go_wp2
      go_ret
      exact ⟨rfl, HB.out⟩
def fndT (t : TypeId) : Bool := t == 128
theorem fndT_f : fndT 128 = true := by decide
theorem fndT_s : fndT 101 = false := by decide
set_option maxHeartbeats 2000000 in
theorem laws_markFoundSS {v : Value} {b n : Nat} {os : List FsO} {l : List (List FndR)} (m : Nat) (w : World) (h : FsRow w b v os) (hl : os.map FsO.r = l) (hn : l.length = n) (hm : 0 < m) (hm2 : m ≤ 1048576) (hn2 : n ≤ 1048576) (hs : sumL l n ≤ 1048576) (hbw : b ≤ w.heap.size) :
    Calls Try.prog 40 #[v, .int .i64 m] w fun e w' => e = .returned (.int .i64 ((m + 8 * sumL l n : Nat) : Int)) ∧ Tch fndT b w w' := by
  have hno : os.length = n := by rw [← hn, ← hl, List.length_map]
  have HE0 := Hid.in_ (show ∀ j o, 0 ≤ j → os[j]? = some o → w.ownsRow b 128 8 o.v o.r.length (o.r.flatMap FndR.cells) from fun j o _ ho => h.each o (List.mem_of_getElem? ho))
  have HAP := Hid.in_ h.apart
  have HX := Hid.in_ hno
  have HL := Hid.in_ hl
  have HP := Hid.in_ (show ∀ k, k ≤ n → sumL l k ≤ 1048576 from fun k hk => Nat.le_trans (sumL_mono l n k hk) hs)
  obtain ⟨A, c, rfl, _, hcn, hA⟩ := own_shape h.row
  rw [hno] at hcn hA ⊢
  have HR0 := Hid.in_ (show w.ownsRow b 101 1 (.slice A n c) n (os.flatMap FsO.cells) from by have := h.row; rw [hno] at this; exact this)
  clear h hl hno hn hs hA
  go_enter Try.func40, Try.ntmps40
  go_wp2
  go_loopg [1, 5] n (fun r m' i wr => ∃ k q : Nat, k + r = n ∧ q = m + 8 * sumL l k ∧ i = .int .i64 k ∧ m' = .int .i64 q ∧ Hid (∀ j o, k ≤ j → os[j]? = some o → wr.ownsRow b 128 8 o.v o.r.length (o.r.flatMap FndR.cells)) ∧ Hid (Tch fndT b w wr))
  case atStart => exact ⟨0, m, by omega, by simp [sumL], rfl, rfl, HE0, Tch.refl _ _ _⟩
  case round =>
    obtain ⟨k, q, hkm, hq, rfl, rfl, HE, HT⟩ := hrel
    have HK := Hid.in_ hkm
    have HQ := Hid.in_ hq
    clear hkm
    by_cases hlt : k < n
    · obtain ⟨⟨ol, ov⟩, ho⟩ := get_lt os k (by rw [HX.out]; exact hlt)
      have hrow := HT.out.own HR0.out fndT_s
      obtain ⟨A', c', hv, _, _, hA'⟩ := own_shape hrow
      obtain ⟨g, hg, _, _, hx, _⟩ := hA' (by omega)
      obtain ⟨rfl, rfl⟩ : A = A' ∧ c = c' := by injection hv with h1 h2 h3; exact ⟨h1, h3⟩
      subst hg
      have hbx := Box.elem FsO.len hx ho
      rw [Nat.mul_one] at hbx
      have c0 : wr.cell? ⟨g, k, none⟩ = some ov := by have := hbx 0 _ rfl; exact this
      have HO : Hid (wr.ownsRow b 128 8 ov ol.length (ol.flatMap FndR.cells)) := Hid.in_ (HE.out k _ (Nat.le_refl _) ho)
      have HG := Hid.in_ ho
      have hq1 := HP.out k (by omega)
      have hlk := fso_get HL.out ho
      have hsn : sumL l (k + 1) = sumL l k + ol.length := sumL_next hlk
      have hq2 := HP.out (k + 1) (by omega)
      have HSN := Hid.in_ hsn
      have hqb : 0 < q ∧ q ≤ 16777216 := by omega
      have hob : ol.length ≤ 1048576 := by omega
      have HQB := Hid.in_ hqb
      have HOB := Hid.in_ hob
      clear hbx hx hrow hv hA' hlk hq hsn hq1 hq2 hqb hob
      go_wp2_with fail
      refine (laws_markFoundS q _ HO.out HQB.out.1 HQB.out.2 HOB.out).mono ?_
      rintro e w2 ⟨rfl, _, hg2⟩
      have HT2 := Hid.in_ (HT.out.trans (Tch.of_grown HO.out hg2 fndT_f (Nat.le_refl _) (by have := HT.out.size; omega)))
      have HE2 := Hid.in_ (show ∀ j p, k + 1 ≤ j → os[j]? = some p → w2.ownsRow b 128 8 p.v p.r.length (p.r.flatMap FndR.cells) from fun j p hj hp => by
        refine (HE.out j p (by omega) hp).kept hg2 ?_
        have h1 : k < os.length := (List.getElem?_eq_some_iff.1 HG.out).1
        have h2 : j < os.length := (List.getElem?_eq_some_iff.1 hp).1
        have hap := List.pairwise_iff_getElem.1 HAP.out k j h1 h2 (by omega)
        rw [(List.getElem?_eq_some_iff.1 HG.out).2, (List.getElem?_eq_some_iff.1 hp).2] at hap
        rcases hap with h | h
        · rw [h]
          cases p.v.ownBlock with
          | none => exact .inl rfl
          | some g => exact .inr (by simp)
        · exact .inr (Ne.symm h))
      clear c0 hg2
      go_wp2
      have hk := HK.out
      have hq := HQ.out
      go_roundg (gk - 1)
      case measure => omega
      case rel => exact ⟨k + 1, q + 8 * ol.length, by omega, by rw [HSN.out]; omega, by go_num, rfl, HE2, HT2⟩
    · have hk := HK.out
      obtain rfl : k = n := by omega
      have HQ2 := Hid.in_ hq
      clear hq
      go_wp2
      go_ret
      exact ⟨show Ending.returned (.int .i64 ((q : Nat) : Int)) = _ by rw [HQ2.out], HT.out⟩
end Go.Proofs.Ytlelgpknkgjaeaa
