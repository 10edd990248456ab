/- 'SpecFeatures' of the program and of the reference (the calls themselves), and the marks of tracks. -/
import Derived.Test.YtdnkjbgfaniafaaSpecF
namespace Go.Proofs.Ytdnkjbgfaniafaa
open Go.ChangeShapes Go.WideShapes Go.ChangeAt Go.RowKit
set_option linter.unusedVariables false
set_option linter.unusedSimpArgs false
set_option maxRecDepth 4000

set_option maxHeartbeats 4000000 in
theorem impl_SpecFeatures (f g cy hd : Int) {v : Value} {n b0 : Nat} {l : List SecR} (w : World) (h : w.ownsRow b0 92 8 v n (l.flatMap SecR.cells)) (hd0 : ∀ x ∈ l, x.d.size ≤ 1048576) (hn2 : n ≤ 1048576) :
    Calls Try.prog 50 #[.agg #[.int .i64 f, .int .i64 g, v], .int .i64 cy, .int .i64 hd] w fun e w' => ∃ v', e = .returned (.tuple #[v', .int .i64 (spcfR f g l cy hd).2]) ∧ w'.ownsRow w.heap.size 115 3 v' (spcfR f g l cy hd).1.length ((spcfR f g l cy hd).1.flatMap FeatR.cells) ∧ Below w.heap.size w w' := by
  obtain ⟨i0, hti, hz0, hz1, hz2⟩ := info_parts Try.info_Found
  have hal := balloc (Below.refl w.heap.size w) (.cells #[.int .i64 f, .int .i64 g, v] 61)
  have HCK := Hid.in_ (impl_checkTrack f g cy hd (w.alloc (.cells #[.int .i64 f, .int .i64 g, v] 61)) (ostep hal h) hd0)
  have HT0 := Hid.in_ (TrkAt.fresh (t := 61) (f := f) (g := g) (v := v) w)
  have HB0 := Hid.in_ hal
  obtain ⟨A, c, rfl, hl, hn, hA⟩ := own_shape h
  have HL : Hid (l.length = n) := by rw [flat_len SecR.len] at hl; unfold Hid; omega
  have H1 := Hid.in_ hA
  clear hal h hA hl
  by_cases hc : trkCode f g l cy hd = 0
  · have HV := Hid.in_ (spcf_ok HL.out hc)
    rw [hc] at HCK
    clear hc
    go_enter Try.func50, Try.ntmps50
    go_wp2_with fail
    generalize w.alloc (.cells #[.int .i64 f, .int .i64 g, .slice A n c] 61) = w1 at *
    refine HCK.out.mono ?_
    rintro e w2 ⟨rfl, hb2⟩
    have HB2 := Hid.in_ (bstep HB0.out hb2)
    obtain ⟨s0, s1, s2⟩ := HT0.out.step hb2
    clear hb2
    go_wp2_with fail
    go_loopg [9, 23] n (fun m v i wr => ∃ k : Nat, k + m = n ∧ i = .int .i64 k ∧ Hid (wr.ownsRow w.heap.size 90 8 v (fndsTo l k).length ((fndsTo l k).flatMap FndR.cells)) ∧ Hid (Below w.heap.size w wr))
    case atStart => exact ⟨0, by omega, rfl, World.ownsRow_nil _ _ _ _, HB2.out⟩
    case round =>
      obtain ⟨k, hkm, rfl, HI, HB⟩ := hrel
      have HK := Hid.in_ hkm
      clear hkm s0 s1 s2
      by_cases hlt : k < n
      · obtain ⟨g1, rfl, _, hg1, hx1, _⟩ := H1.out (by omega)
        obtain ⟨m, hm⟩ := get_lt l k (by rw [HL.out]; exact hlt)
        obtain ⟨x0, x1, x2, x3, x4, x5, x6, x7⟩ := boxAt8 ((Box.elem SecR.len hx1 hm).step HB.out)
        have HLL := Hid.in_ (fndsTo_len l k)
        have HSN := Hid.in_ (fndsTo_next hm)
        clear hx1 hm
        obtain ⟨mc, mh, mn, ms, md, mx, my, mz⟩ := m
        have HSC := Hid.in_ (fun t ht => fnd_cells (l := fndsTo l k) (m := ⟨mc, mh, mn, ms, md, mx, my, mz⟩) (t := t) rfl rfl rfl rfl rfl ht)
        cases my <;> cases mz
        all_goals
          go_wp2_with (at_builtin; refine wpList_append_own _ rfl _ _ 39 rfl w.heap.size 90 i0 (.agg #[.int .i64 0, .int .i64 0, .int .i64 0, .int .i64 0, .string ByteArray.empty, .int .i64 0, .bool false, .int .i64 0]) 8 72 Try.underlying39 hti hz0 hz1 hz2 rfl (by decide) _ _ _ rfl (((HI.out.alloc _).alloc _).alloc _) ⟨_, 0, none⟩ 1 1 [_, _, _, _, _, _, _, _] rfl rfl (cells8b (by simp)) (fun x hx => by simp at hx; rcases hx with rfl | rfl | rfl | rfl | rfl | rfl | rfl | rfl <;> rfl) (by have := HLL.out; unfold maxLen; omega) (by have := HLL.out; omega) (balloc (balloc (balloc HB.out _) _) _).size ?_; intro v6 w6 ho6 hg6 _)
          have HB6 := Hid.in_ (bgrown (balloc (balloc (balloc HB.out _) _) _) (((HI.out.alloc _).alloc _).alloc _) (Nat.le_refl _) hg6)
          have HO6 := Hid.in_ (show w6.ownsRow w.heap.size 90 8 v6 (fndsTo l (k + 1)).length ((fndsTo l (k + 1)).flatMap FndR.cells) by rw [HSN.out, List.length_append, ← HSC.out _ rfl]; exact ho6)
          clear ho6 hg6
          have hk := HK.out
          go_roundg (gk - 1)
          case measure => omega
          case rel => exact ⟨k + 1, by omega, by go_num, HO6, HB6⟩
      · have hk := HK.out
        obtain rfl : k = n := by omega
        have HN := Hid.in_ (fndsTo_all HL.out)
        have HFE := Hid.in_ (impl_sectorFeatures (n := k) cy hd wr (show wr.ownsRow w.heap.size 90 8 _ k ((fndsTo l k).flatMap FndR.cells) from by have h := HI.out; rw [HN.out] at h; exact h) hn2)
        go_wp2_with fail
        refine HFE.out.mono ?_
        rintro e w7 ⟨v7, rfl, ho7, hb7⟩
        have HO := Hid.in_ (own_base ho7 HB.out.size)
        have HB7 := Hid.in_ (bstep HB.out hb7)
        clear ho7 hb7
        go_wp2
        go_ret2
        rw [HV.out]
        exact ⟨_, rfl, HO.out, HB7.out⟩
  · have HV := Hid.in_ (spcf_no rfl hc)
    generalize trkCode f g l cy hd = code at *
    have hcb : (code != 0) = true := by simpa using hc
    go_enter Try.func50, Try.ntmps50
    go_wp2_with fail
    generalize w.alloc (.cells #[.int .i64 f, .int .i64 g, .slice A n c] 61) = w1 at *
    refine HCK.out.mono ?_
    rintro e w2 ⟨rfl, hb2⟩
    have HB2 := Hid.in_ (bstep HB0.out hb2)
    clear hb2
    go_wp2
    go_ret2
    rw [HV.out]
    exact ⟨_, rfl, World.ownsRow_nil _ _ _ _, HB2.out⟩
set_option maxHeartbeats 4000000 in
theorem spec_SpecFeatures (f g cy hd : Int) {v : Value} {n b0 : Nat} {l : List SecR} (w : World) (h : w.ownsRow b0 92 8 v n (l.flatMap SecR.cells)) (hd0 : ∀ x ∈ l, x.d.size ≤ 1048576) (hn2 : n ≤ 1048576) :
    Calls Try.prog 49 #[.agg #[.int .i64 f, .int .i64 g, v], .int .i64 cy, .int .i64 hd] w fun e w' => ∃ v', e = .returned (.tuple #[v', .int .i64 (spcfR f g l cy hd).2]) ∧ w'.ownsRow w.heap.size 115 3 v' (spcfR f g l cy hd).1.length ((spcfR f g l cy hd).1.flatMap FeatR.cells) ∧ Below w.heap.size w w' := by
  have hal := balloc (Below.refl w.heap.size w) (.cells #[.int .i64 f, .int .i64 g, v] 61)
  have HVT := Hid.in_ (spec_ValidTrackSpec f g (w.alloc (.cells #[.int .i64 f, .int .i64 g, v] 61)) (ostep hal h) hd0)
  have HT0 := Hid.in_ (TrkAt.fresh (t := 61) (f := f) (g := g) (v := v) w)
  have HB0 := Hid.in_ hal
  have HFO := Hid.in_ (fun (w1 : World) (hb : Below w.heap.size w w1) (hT : TrkAt w1 w.heap.size f g v) => spec_l11Found w.heap.size f g w1 hT (ostep hb h) hn2)
  have HL : Hid (l.length = n) := by have := h.1; rw [flat_len SecR.len] at this; unfold Hid; omega
  obtain ⟨A, c, rfl, _, _, _⟩ := own_shape h
  clear hal h
  cases hv : validTrack f g l
  · have HV := Hid.in_ (spcf_no (code1 (cy := cy) (hd := hd) hv) (by decide))
    rw [hv] at HVT
    clear hv
    go_enter Try.func49, Try.ntmps49
    go_wp2_with fail
    refine HVT.out.mono ?_
    rintro e w2 ⟨rfl, hb2⟩
    have HB2 := Hid.in_ (bstep HB0.out hb2)
    clear hb2
    go_wp2
    go_ret2
    rw [HV.out]
    exact ⟨_, rfl, World.ownsRow_nil _ _ _ _, HB2.out⟩
  · rw [hv] at HVT
    have HVV := Hid.in_ hv
    clear hv
    cases h1 : (inB cy 0 255 && inB hd 0 255)
    · have HV := Hid.in_ (spcf_no (code2 (cy := cy) (hd := hd) HVV.out h1) (by decide))
      go_enter Try.func49, Try.ntmps49
      go_wp2_with fail
      refine HVT.out.mono ?_
      rintro e w2 ⟨rfl, hb2⟩
      have HB2 := Hid.in_ (bstep HB0.out hb2)
      clear hb2
      go_wp2_with (go_at_call 75; refine (bool_is (spec_l11Track _ _ _) (by assumption)).mono ?_; rintro e w' ⟨rfl, rfl⟩)
      go_ret2
      rw [HV.out]
      exact ⟨_, rfl, World.ownsRow_nil _ _ _ _, HB2.out⟩
    · have HV := Hid.in_ (spcf_ok HL.out (code0 (cy := cy) (hd := hd) HVV.out h1))
      go_enter Try.func49, Try.ntmps49
      go_wp2_with fail
      refine HVT.out.mono ?_
      rintro e w2 ⟨rfl, hb2⟩
      have HB2 := Hid.in_ (bstep HB0.out hb2)
      have HT2 := Hid.in_ (HT0.out.step hb2)
      clear hb2
      go_wp2_with (go_at_call 75; refine (bool_is (spec_l11Track _ _ _) (by assumption)).mono ?_; rintro e w' ⟨rfl, rfl⟩)
      refine (HFO.out _ HB2.out HT2.out).mono ?_
      rintro e w3 ⟨v3, rfl, ho3, hb3⟩
      have HB3 := Hid.in_ (bstep HB2.out hb3)
      have HFE := Hid.in_ (spec_l11Features cy hd w3 ho3 hn2)
      clear ho3 hb3
      go_wp2_with fail
      refine HFE.out.mono ?_
      rintro e w7 ⟨v7, rfl, ho7, hb7⟩
      have HO := Hid.in_ (own_base ho7 HB3.out.size)
      have HB7 := Hid.in_ (bstep HB3.out hb7)
      clear ho7 hb7
      go_wp2
      go_ret2
      rw [HV.out]
      exact ⟨_, rfl, HO.out, HB7.out⟩
theorem laws_markTrackSpec (f g : Int) {v : Value} {n b : Nat} {l : List SecR} (m : Nat) (w : World) (h : w.ownsRow b 92 8 v n (l.flatMap SecR.cells)) (hm : 0 < m) (hm2 : m ≤ 16777216) (hn2 : n ≤ 1048576) :
    Calls Try.prog 42 #[.agg #[.int .i64 f, .int .i64 g, v], .int .i64 m] w fun e w' => e = .returned (.int .i64 ((m + 8 * n : Nat) : Int)) ∧ w'.ownsRow b 92 8 v n ((SecR.marks m n).flatMap SecR.cells) ∧ w.grownBy w' v.ownBlock := by
  have hal := balloc (Below.refl w.heap.size w) (.cells #[.int .i64 f, .int .i64 g, v] 61)
  have HM := Hid.in_ (laws_markSectorSpecS m (w.alloc (.cells #[.int .i64 f, .int .i64 g, v] 61)) (ostep hal h) hm hm2 hn2)
  obtain ⟨A, c, rfl, _, _, _⟩ := own_shape h
  clear h
  go_enter Try.func42, Try.ntmps42
  go_wp2_with fail
  refine HM.out.mono ?_
  rintro e w2 ⟨rfl, ho, hg⟩
  have HO := Hid.in_ (And.intro ho ((grown_below hal _).trans hg))
  clear ho hg
  go_wp2
  go_ret
  exact ⟨rfl, HO.out⟩
theorem laws_heldTrackSpec (f g : Int) {v : Value} {n b : Nat} (m : Nat) (w : World) (h : w.ownsRow b 92 8 v n ((SecR.marks m n).flatMap SecR.cells)) (hm : 0 < m) (hm2 : m ≤ 16777216) (hn2 : n ≤ 1048576) :
    Calls Try.prog 43 #[.agg #[.int .i64 f, .int .i64 g, v], .int .i64 m] w fun e w' => e = .returned (.int .i64 ((m + 8 * n : Nat) : Int)) ∧ Below w.heap.size w w' := by
  have hal := balloc (Below.refl w.heap.size w) (.cells #[.int .i64 f, .int .i64 g, v] 61)
  have HM := Hid.in_ (laws_heldSectorSpecS m (w.alloc (.cells #[.int .i64 f, .int .i64 g, v] 61)) (ostep hal h) hm hm2 hn2)
  have HB := Hid.in_ hal
  obtain ⟨A, c, rfl, _, _, _⟩ := own_shape h
  have hne : ¬ (((m + 8 * n : Nat) : Int) < 0) := by omega
  clear h hal
  go_enter Try.func43, Try.ntmps43
  go_wp2_with fail
  refine HM.out.mono ?_
  rintro e w2 ⟨rfl, hb⟩
  have HB2 := Hid.in_ (bstep HB.out hb)
  clear hb
  go_wp2
  go_ret
  exact ⟨rfl, HB2.out⟩
end Go.Proofs.Ytdnkjbgfaniafaa
