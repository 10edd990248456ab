/- 'FnExactPlainTrack': for every input the law returns true, and each argument reads behind the call as it read before. No condition. -/
import Derived.Test.YtlelgpknkgjaeaaLaw
import Derived.Test.YtlelgpknkgjaeaaPlainI
import Derived.Test.YtlelgpknkgjaeaaPlainS
import Derived.Test.YtlelgpknkgjaeaaSpecFT
import Derived.Test.YtlelgpknkgjaeaaTrackArg
import Derived.Test.YtlelgpknkgjaeaaRows
namespace Go.Proofs.Ytlelgpknkgjaeaa
open Go.ChangeShapes Go.WideShapes Go.ChangeAt Go.RowKit
open Go.ChangeMaps (open_string shut_string)
set_option linter.unusedVariables false
theorem own_apart_r {w1 w2 : World} {b1 b2 : Nat} {e1 e2 : TypeId} {s1 s2 n1 n2 : Nat} {v1 v2 : Value} {xs1 xs2 : List Value} (h1 : w1.ownsRow b1 e1 s1 v1 n1 xs1) (h2 : w2.ownsRow b2 e2 s2 v2 n2 xs2) (hb : w1.heap.size ≤ b2) :
    v2.ownBlock = none ∨ v2.ownBlock ≠ v1.ownBlock := by
  cases h : v2.ownBlock with
  | none => exact .inl rfl
  | some g =>
    refine .inr fun he => ?_
    have := (h2.lt g h).1
    have := (h1.lt g he.symm).2
    omega
theorem trk_grown {w w' : World} {b : Nat} {f g : Int} {v : Value} {q : Option Nat} (h : TrkAt w b f g v) (hg : w.grownBy w' q) (hne : q ≠ some b) : TrkAt w' b f g v :=
  ⟨hg.cell h.1 (fun e => hne e.symm), hg.cell h.2.1 (fun e => hne e.symm), hg.cell h.2.2 (fun e => hne e.symm)⟩
set_option maxRecDepth 20000 in
set_option maxHeartbeats 8000000 in
theorem FnExactPlainTrack_walk (f0 g0 : Int) (A0 : Option Addr) (cap0 : Nat) (l0 : List SecR) (w : World) (s0 : ArgS w A0 l0.length cap0 8 (l0.flatMap SecR.cells)) (k0 : ∀ r ∈ l0, r.ok) (a1 : Int) (w1 : (Lit.int .i64 a1).wf = true) (a2 : Int) (w2 : (Lit.int .i64 a2).wf = true) :
    Calls Try.prog 5 #[.agg #[.int .i64 f0, .int .i64 g0, .slice A0 l0.length cap0], .int .i64 a1, .int .i64 a2] w fun e w' => e = .returned (.bool true) ∧ Below w.heap.size w w' := by
  obtain ⟨n, hn⟩ : ∃ n, l0.length = n := ⟨_, rfl⟩
  rw [hn] at s0 ⊢
  have HN := Hid.in_ hn
  have HS := Hid.in_ s0
  have HK0 := Hid.in_ k0
  clear s0 k0 hn w1 w2
  have hle := plnR_len f0 g0 l0 a1 a2
  have HSPR := Hid.in_ (fun (w : World) (v : Value) (b : Nat) (ho : w.ownsRow b 85 8 v n (l0.flatMap SecR.cells)) (hz : ∀ x ∈ l0, x.d.size ≤ 1048576) (hn2 : n ≤ 1048576) => spec_PlainTrack f0 g0 a1 a2 w ho hz hn2)
  have HIMR := Hid.in_ (fun (w : World) (v : Value) (b : Nat) (ho : w.ownsRow b 85 8 v n (l0.flatMap SecR.cells)) (hz : ∀ x ∈ l0, x.d.size ≤ 1048576) (hn2 : n ≤ 1048576) => impl_PlainTrack f0 g0 a1 a2 w ho hz hn2)
  generalize plnR f0 g0 l0 a1 a2 = R at *
  obtain ⟨pf, pg, pl, pc⟩ := R
  change pl.length ≤ 8 at hle
  obtain ⟨N, hN⟩ : ∃ N, pl.length = N := ⟨_, rfl⟩
  have HSP := Hid.in_ (fun (w : World) (v : Value) (b : Nat) (ho : w.ownsRow b 85 8 v n (l0.flatMap SecR.cells)) (hz : ∀ x ∈ l0, x.d.size ≤ 1048576) (hn2 : n ≤ 1048576) => show Calls Try.prog 23 #[.agg #[.int .i64 f0, .int .i64 g0, v], .int .i64 a1, .int .i64 a2] w fun e w' => ∃ A c, e = .returned (.tuple #[.agg #[.int .i64 pf, .int .i64 pg, .slice A N c], .int .i64 pc]) ∧ w'.ownsRow w.heap.size 85 8 (.slice A N c) N (pl.flatMap SecR.cells) ∧ Below w.heap.size w w' from
    (HSPR.out w v b ho hz hn2).mono fun e w' ⟨v', he, ho', hb⟩ => by
      change w'.ownsRow _ _ _ _ pl.length _ at ho'
      rw [hN] at ho'
      obtain ⟨A, c, rfl, _, _, _⟩ := own_shape ho'
      exact ⟨A, c, he, ho', hb⟩)
  have HIM := Hid.in_ (fun (w : World) (v : Value) (b : Nat) (ho : w.ownsRow b 85 8 v n (l0.flatMap SecR.cells)) (hz : ∀ x ∈ l0, x.d.size ≤ 1048576) (hn2 : n ≤ 1048576) => show Calls Try.prog 25 #[.agg #[.int .i64 f0, .int .i64 g0, v], .int .i64 a1, .int .i64 a2] w fun e w' => ∃ A c, e = .returned (.tuple #[.agg #[.int .i64 pf, .int .i64 pg, .slice A N c], .int .i64 pc]) ∧ w'.ownsRow w.heap.size 85 8 (.slice A N c) N (pl.flatMap SecR.cells) ∧ Below w.heap.size w w' from
    (HIMR.out w v b ho hz hn2).mono fun e w' ⟨v', he, ho', hb⟩ => by
      change w'.ownsRow _ _ _ _ pl.length _ at ho'
      rw [hN] at ho'
      obtain ⟨A, c, rfl, _, _, _⟩ := own_shape ho'
      exact ⟨A, c, he, ho', hb⟩)
  rw [hN] at hle
  have hne : ¬ (((1 + 8 * N : Nat) : Int) < 0) := by omega
  have hne2 : ¬ (((1 + 8 * n : Nat) : Int) < 0) := by omega
  clear HSPR HIMR hN
  have HB0 := Hid.in_ (balloc (Below.refl w.heap.size w) (.cells #[.int .i64 f0, .int .i64 g0, .slice A0 n cap0] 40))
  have HT0 := Hid.in_ (TrkAt.fresh (t := 40) (f := f0) (g := g0) (v := .slice A0 n cap0) w)
  go_enter Try.func5, Try.ntmps5
  go_wp2_with fail
  generalize w.alloc (.cells #[.int .i64 f0, .int .i64 g0, .slice A0 n cap0] 40) = w0 at *
  refine (laws_szTrackSpec _ _ _ _ (HS.out.below HB0.out) HN.out HK0.out (by omega) (by omega)).mono ?_
  rintro e w2 ⟨rfl | ⟨r, rfl, hr0, hr1, hsz⟩, hb1⟩
  · have HB := Hid.in_ (bstep HB0.out hb1)
    go_wp2
    go_ret
    exact ⟨rfl, HB.out⟩
  have hn2 : n ≤ 1048576 := by omega
  have HZ := Hid.in_ (show ∀ x ∈ l0, x.d.size ≤ 1048576 from fun x hx => by have := hsz x hx; omega)
  have HB2 := Hid.in_ (bstep HB0.out hb1)
  have HT02 := Hid.in_ (HT0.out.step hb1)
  clear hb1 hsz HB0 HT0
  have C0 := Hid.in_ (show ∀ w', Below w2.heap.size w2 w' → Calls Try.prog 24 #[.agg #[.int .i64 f0, .int .i64 g0, .slice A0 n cap0]] w' fun e w'' => ∃ v, e = .returned (.agg #[.int .i64 f0, .int .i64 g0, v]) ∧ w''.ownsRow w'.heap.size 85 8 v n (l0.flatMap SecR.cells) ∧ Below w'.heap.size w' w'' from
    fun w' hw => laws_toTrackSpec _ _ w' (HS.out.below (bstep HB2.out hw)) HN.out hn2)
  obtain ⟨x0, x1, x2⟩ := HT02.out
  go_wp2_with fail
  refine (C0.out _ (Below.refl _ _)).mono ?_
  rintro e w3 ⟨v3, rfl, ho3, hb3⟩
  have HB3 := Hid.in_ hb3
  have HO3 := Hid.in_ ho3
  obtain ⟨B3, d3, hv3, _⟩ := own_shape ho3
  subst hv3
  clear ho3 hb3 x0 x1 x2
  go_wp2_with fail
  refine (HSP.out _ _ _ HO3.out HZ.out hn2).mono ?_
  rintro e w4 ⟨A4, c4, rfl, ho4, hb4⟩
  have hB4 := HB3.out.trans (hb4.mono HB3.out.size)
  have hal4 := balloc (Below.refl w4.heap.size w4) (.cells #[.int .i64 pf, .int .i64 pg, .slice A4 N c4] 44)
  have HB4 := Hid.in_ (bstep hB4 hal4)
  have HP4 := Hid.in_ (ostep hal4 ho4)
  have HTP4 := Hid.in_ (TrkAt.fresh (t := 44) (f := pf) (g := pg) (v := .slice A4 N c4) w4)
  obtain ⟨tp, htp⟩ : ∃ t, w4.heap.size = t := ⟨_, rfl⟩
  rw [htp] at HTP4
  have HTP := Hid.in_ htp
  have HPS := Hid.in_ (show (w4.alloc (.cells #[.int .i64 pf, .int .i64 pg, .slice A4 N c4] 44)).heap.size = tp + 1 from by rw [← htp]; unfold World.alloc; exact Array.size_push _)
  obtain ⟨x0, x1, x2⟩ := HT02.out.step HB4.out
  clear hb4 HO3 ho4 hB4 hal4
  go_wp2_with fail
  generalize w4.alloc (.cells #[.int .i64 pf, .int .i64 pg, .slice A4 N c4] 44) = w4a at *
  clear htp
  refine (C0.out _ HB4.out).mono ?_
  rintro e w5 ⟨v5, rfl, ho5, hb5⟩
  have hB5 := HB4.out.trans (hb5.mono HB4.out.size)
  obtain ⟨B5, d5, hv5, _⟩ := own_shape ho5
  subst hv5
  have hb56 := balloc (Below.refl w5.heap.size w5) (.cells #[.int .i64 f0, .int .i64 g0, .slice B5 n d5] 44)
  have hB6 := bstep hB5 hb56
  have hT6 := TrkAt.fresh (t := 44) (f := f0) (g := g0) (v := .slice B5 n d5) w5
  have ho6 := ostep hb56 ho5
  obtain ⟨tx, htx⟩ : ∃ t, w5.heap.size = t := ⟨_, rfl⟩
  have HTX := Hid.in_ htx
  have HO5 := Hid.in_ ho5
  have HP6 := Hid.in_ (ostep hb56 (ostep hb5 HP4.out))
  have HTP6 := Hid.in_ ((HTP4.out.step hb5).step hb56)
  have HS46 := Hid.in_ (hb5.trans (hb56.mono hb5.size))
  have HXS := Hid.in_ (show (w5.alloc (.cells #[.int .i64 f0, .int .i64 g0, .slice B5 n d5] 44)).heap.size = tx + 1 from by rw [← htx]; unfold World.alloc; exact Array.size_push _)
  have HBX := Hid.in_ (show tp + 1 ≤ tx from by rw [← htx, ← HPS.out]; exact hb5.size)
  rw [htx] at hT6
  have HT6 := Hid.in_ hT6
  obtain ⟨c0, c1, c2⟩ := hT6
  clear x0 x1 x2
  go_wp2_with fail
  generalize w5.alloc (.cells #[.int .i64 f0, .int .i64 g0, .slice B5 n d5] 44) = w6 at *
  clear htx
  refine (HIM.out _ _ _ ho6 HZ.out hn2).mono ?_
  rintro e w7 ⟨A7, c7, rfl, ho7, hb7⟩
  have hb78 := balloc (Below.refl w7.heap.size w7) (.cells #[.int .i64 pf, .int .i64 pg, .slice A7 N c7] 44)
  have hb68 := hb7.trans (hb78.mono hb7.size)
  have HB8 := Hid.in_ (hB6.trans (hb68.mono hB6.size))
  have hTQ := TrkAt.fresh (t := 44) (f := pf) (g := pg) (v := .slice A7 N c7) w7
  obtain ⟨tq, htq⟩ : ∃ t, w7.heap.size = t := ⟨_, rfl⟩
  rw [htq] at hTQ
  have HTQ8 := Hid.in_ hTQ
  have HTP8 := Hid.in_ (HTP6.out.step hb68)
  have HTX8 := Hid.in_ (HT6.out.step hb68)
  have HX8 := Hid.in_ (ostep hb68 ho6)
  have HP8 := Hid.in_ (ostep hb68 HP6.out)
  have HQ7 := Hid.in_ ho7
  have HQ8 := Hid.in_ (ostep hb78 ho7)
  have HG6 := Hid.in_ hB6.size
  have HQT := Hid.in_ htq
  have HQX := Hid.in_ (show tx + 1 ≤ tq from by rw [← htq, ← HXS.out]; exact hb7.size)
  obtain ⟨y0, y1, y2⟩ := HTP8.out
  clear c0 c1 c2 ho5 hB5 hb5 hb56 hB6 ho7 hb7 hb78 hb68
  go_wp2_with fail
  generalize w7.alloc (.cells #[.int .i64 pf, .int .i64 pg, .slice A7 N c7] 44) = w8 at *
  clear htq
  refine (laws_eqTrackSpec _ _ _ HQ8.out HP8.out).mono ?_
  rintro e w9 ⟨rfl, hb9⟩
  have HB9 := Hid.in_ (bstep HB8.out hb9)
  have HTP9 := Hid.in_ (HTP8.out.step hb9)
  have HTX9 := Hid.in_ (HTX8.out.step hb9)
  have HTQ9 := Hid.in_ (TrkAt.step hTQ hb9)
  have HX9 := Hid.in_ (ostep hb9 HX8.out)
  have HP9 := Hid.in_ (ostep hb9 HP8.out)
  have HQ9 := Hid.in_ (ostep hb9 HQ8.out)
  have HA9 := Hid.in_ (HT02.out.step HB9.out)
  clear hb9 hTQ y0 y1 y2
  go_upto_region 10 with fail
  go_cut [53] (fun s53 wy => s53 = .bool false ∧ Hid (Below w9.heap.size w9 wy))
  case first =>
    obtain ⟨x0, x1, x2⟩ := HTX9.out
    obtain ⟨b0, b1, b2⟩ := HA9.out
    go_region_with (first
      | (go_at_call 24; refine (C0.out _ ?_).mono ?_; exact HB9.out.drew; rintro e wa ⟨va, rfl, hoa, hba⟩; have hba' := ((Below.refl w9.heap.size w9).drew).trans hba; obtain ⟨b3, b4, b5⟩ := HTX9.out.step hba'; have hO := ostep hba' HX9.out)
      | (go_at_call 26; refine (laws_eqTrackSpec _ _ _ hO hoa).mono ?_; rintro e we ⟨rfl, hbc⟩; have hbc' := hba'.trans (hbc.mono hba'.size)))
    all_goals
      go_wp2_with fail
      go_meet
      exact ⟨rfl, hbc'⟩
  case rest =>
    obtain ⟨rfl, HBz⟩ := hcut
    have HBc := Hid.in_ (bstep HB9.out HBz.out)
    have HXc := Hid.in_ (ostep HBz.out HX9.out)
    have HPc := Hid.in_ (ostep HBz.out HP9.out)
    have HQc := Hid.in_ (ostep HBz.out HQ9.out)
    have HTPc := Hid.in_ (HTP9.out.step HBz.out)
    have HTQc := Hid.in_ (HTQ9.out.step HBz.out)
    have HTXc := Hid.in_ (HTX9.out.step HBz.out)
    obtain ⟨x0, x1, x2⟩ := HTXc.out
    go_wp2_with fail
    refine (laws_markTrackSpec f0 g0 1 _ HXc.out (by omega) (by omega) hn2).mono ?_
    rintro e w10 ⟨rfl, ho10, hg10⟩
    have hB10 := bgrown HBc.out HXc.out HB4.out.size hg10
    have p10 := HPc.out.kept hg10 (own_apart HP4.out HO5.out (Nat.le_refl _))
    have q10 := HQc.out.kept hg10 (own_apart_r HO5.out HQ7.out (by rw [HTX.out, HXS.out]; exact Nat.le_succ _))
    have hxb : ∀ t, (t = tp ∨ t = tq) → (Value.slice B5 n d5).ownBlock ≠ some t := fun t ht e => by
      have h1 := HO5.out.lt t e
      rw [HTX.out, HPS.out] at h1
      have := HQX.out
      rcases ht with rfl | rfl <;> omega
    have hTP10 := trk_grown HTPc.out hg10 (hxb _ (.inl rfl))
    have hTQ10 := trk_grown HTQc.out hg10 (hxb _ (.inr rfl))
    have HTP10 := Hid.in_ hTP10
    have HTQ10 := Hid.in_ hTQ10
    obtain ⟨y0, y1, y2⟩ := hTP10
    obtain ⟨z0, z1, z2⟩ := hTQ10
    clear ho10 x0 x1 x2 hxb
    go_wp2_with fail
    refine (laws_eqTrackSpec _ _ _ q10 p10).mono ?_
    rintro e w11 ⟨rfl, hb11⟩
    have hB11 := bstep hB10 hb11
    have p11 := ostep hb11 p10
    have q11 := ostep hb11 q10
    have HTP11 := Hid.in_ (HTP10.out.step hb11)
    have HTQ11 := Hid.in_ (HTQ10.out.step hb11)
    clear p10 q10 y0 y1 y2 z0 z1 z2
    obtain ⟨z0, z1, z2⟩ := HTQ11.out
    go_wp2_with fail
    refine (laws_markTrackSpec pf pg 1 _ q11 (by omega) (by omega) (by omega)).mono ?_
    rintro e w12 ⟨rfl, ho12, hg12⟩
    have hB12 := bgrown hB11 q11 HG6.out hg12
    have p12 := p11.kept hg12 (own_apart HP4.out HQ7.out HS46.out.size)
    have hqb : ∀ t, (t = tp ∨ t = tq) → (Value.slice A7 N c7).ownBlock ≠ some t := fun t ht e => by
      have h1 := HQ7.out.lt t e
      rw [HQT.out, HXS.out] at h1
      have := HBX.out
      rcases ht with rfl | rfl <;> omega
    have hTP12 := trk_grown HTP11.out hg12 (hqb _ (.inl rfl))
    have hTQ12 := trk_grown HTQ11.out hg12 (hqb _ (.inr rfl))
    have HTP12 := Hid.in_ hTP12
    have HTQ12 := Hid.in_ hTQ12
    clear z0 z1 z2 hTP12 hqb
    obtain ⟨z0, z1, z2⟩ := hTQ12
    go_wp2_with fail
    refine (laws_heldTrackSpec pf pg 1 _ ho12 (by omega) (by omega) (by omega)).mono ?_
    rintro e w13 ⟨rfl, hb13⟩
    have hB13 := bstep hB12 hb13
    have HTP13 := Hid.in_ (HTP12.out.step hb13)
    have HTQ13 := Hid.in_ (HTQ12.out.step hb13)
    obtain ⟨x0, x1, x2⟩ := HT02.out.step hB13
    clear z0 z1 z2
    go_wp2_with fail
    refine (C0.out _ hB13).mono ?_
    rintro e w14 ⟨v14, rfl, ho14, hb14⟩
    have hB14 := bstep hB13 hb14
    obtain ⟨B14, d14, hv14, _⟩ := own_shape ho14
    subst hv14
    clear x0 x1 x2
    go_wp2_with fail
    refine (HIM.out _ _ _ ho14 HZ.out hn2).mono ?_
    rintro e w15 ⟨A15, c15, rfl, ho15, hb15⟩
    have hal15 := balloc (Below.refl w15.heap.size w15) (.cells #[.int .i64 pf, .int .i64 pg, .slice A15 N c15] 44)
    have HB15 := Hid.in_ (bstep (bstep hB14 hb15) hal15)
    have hP15 := ostep hal15 (ostep hb15 (ostep hb14 (ostep hb13 p12)))
    have hQ15 := ostep hal15 (ostep hb15 (ostep hb14 (ostep hb13 ho12)))
    have hR15 := ostep hal15 ho15
    have HTQ15 := Hid.in_ (((HTQ13.out.step hb14).step hb15).step hal15)
    obtain ⟨y0, y1, y2⟩ := ((HTP13.out.step hb14).step hb15).step hal15
    clear hal15 ho15 ho14 hb14 hb15 hB14
    go_wp2_with fail
    generalize w15.alloc (.cells #[.int .i64 pf, .int .i64 pg, .slice A15 N c15] 44) = w15a at *
    refine (laws_eqTrackSpec _ _ _ hR15 hP15).mono ?_
    rintro e w16 ⟨rfl, hb16⟩
    have hB16 := bstep HB15.out hb16
    have hQ16 := ostep hb16 hQ15
    clear y0 y1 y2
    obtain ⟨z0, z1, z2⟩ := HTQ15.out.step hb16
    go_wp2_with fail
    refine (laws_heldTrackSpec pf pg 1 _ hQ16 (by omega) (by omega) (by omega)).mono ?_
    rintro e w17 ⟨rfl, hb17⟩
    have hB17 := bstep hB16 hb17
    go_wp2
    go_ret
    exact ⟨rfl, bstep HB2.out hB17⟩

set_option maxRecDepth 100000 in
theorem FnExactPlainTrack_lifted (os : Os) (started : os.Started) (H : Type) (enc : TypeId × Value → H) :
    ReturnsInHanded {} Try.checked os 5 .any (Rows.fnExactPlainTrackSpec.pre6 enc Try.prog Try.f5 Rows.fnExactPlainTrackRow.domain false) (Rows.fnExactPlainTrackSpec.post enc Try.prog Try.f5 false true false false) := by
  refine returnsInHanded_of_change (C := Try.checked) Try.own started (by kernel_rfl) Try.func5
    (ChangeSpec.witness6 (enc := enc) (C := Try.checked) false ⟨#[], #[.agg #[.int .i64 0, .int .i64 0, .slice none 0 0], .int .i64 0, .int .i64 0], []⟩ 8 (by kernel_rfl) (by kernel_rfl) (by kernel_rfl) (by kernel_rfl)) ?_
  intro W base args ds gs before hval0 hW hcnd _
  have hval : ∀ (j : Nat) t v, Try.f5.params[j]? = some t → args[j]? = some v → Value.okWide Try.prog W .any base t v := hval0
  have hW' := hW
  obtain ⟨p, q, hA0, hV, hbe, hfz, hnd⟩ := hW
  have hA : DataW.TrodAll enc Try.prog W 0 (fun _ => true) true Try.f5.params.toList args.toList ds p := hA0
  rw [Try.params5] at hA hval
  obtain ⟨v0, vs0, d0, ds0, p0, q0, hargs, rfl, rfl, h0, r0⟩ := trodAll_cons hA
  obtain ⟨v1, vs1, d1, ds1, p1, q1, rfl, rfl, rfl, h1, r1⟩ := trodAll_cons r0
  obtain ⟨v2, vs2, d2, ds2, p2, q2, rfl, rfl, rfl, h2, r2⟩ := trodAll_cons r1
  obtain ⟨rfl, rfl, rfl⟩ := trodAll_nil r2
  obtain rfl : args = #[v0, v1, v2] := by cases args; simp_all
  obtain ⟨rfl, _⟩ := trodVars_none hV
  obtain ⟨f0, g0, A0, cap0, l0, rfl, s0, k0, wf0, wg0⟩ := byval_Track (hval 0 40 v0 rfl rfl) h0
  obtain ⟨a1, rfl, rfl, rfl, w1⟩ := open_int Try.underlying2 (hval 1 2 v1 rfl rfl) h1
  obtain ⟨a2, rfl, rfl, rfl, w2⟩ := open_int Try.underlying2 (hval 2 2 v2 rfl rfl) h2
  clear hA0 hval0
  refine (FnExactPlainTrack_walk f0 g0 A0 cap0 l0 W s0 k0 a1 w1 a2 w2).mono fun e W' ⟨he, hb⟩ => ?_
  subst he
  exact ⟨_, rfl, law_post Try.laidOut (by kernel_rfl) rfl Try.underlying4 rfl rfl hW' hb⟩

theorem FnExactPlainTrack_over : Rows.fnExactPlainTrackRow.holds Try.pinned (OpenSpec.ofChange Rows.fnExactPlainTrackSpec) :=
  OpenClaim.holds_of_wide 5 Try.f5 rfl rfl rfl rfl rfl rfl rfl ⟨rfl, rfl, rfl, rfl, rfl⟩ rfl rfl rfl rfl rfl (by kernel_rfl) Try.func5 (by kernel_rfl)
    (of_decide_eq_true (by kernel_rfl)) (by unfold Func.isWrapper; first | (rw [if_pos (by decide +kernel)]; kernel_rfl) | (rw [if_neg (by decide +kernel)]; exact ⟨rfl, rfl⟩))
    (fun os started H enc _ => FnExactPlainTrack_lifted os started H enc)

theorem FnExactPlainTrack_proved : Rows.FnExactPlainTrackSaid := FnExactPlainTrack_over
#print axioms FnExactPlainTrack_proved
end Go.Proofs.Ytlelgpknkgjaeaa
