/- 'PlainTrack' of the program. -/
import Derived.Test.YtlelgpknkgjaeaaPlain
import Derived.Laws.ResultCell
namespace Go.Proofs.Ytlelgpknkgjaeaa
open Go.ChangeShapes Go.WideShapes Go.ChangeAt Go.RowKit
set_option linter.unusedVariables false
set_option linter.unusedSimpArgs false
set_option maxRecDepth 4000

theorem put3p {w : World} {b : Nat} {a0 a1 a2 : Value} (h : Wr w b [a0, a1, a2]) (x0 x1 x2 : Value) : Wr (((w.setCell ⟨b, 0, none⟩ x0).setCell ⟨b, 1, none⟩ x1).setCell ⟨b, 2, none⟩ x2) b [x0, x1, x2] :=
  ((h.set x0 (i := 0) (by simp)).set x1 (i := 1) (by simp)).set x2 (i := 2) (by simp)
theorem sec_get! (l : List SecR) (j : Nat) (hj : j < l.length) : l[j]? = some l[j]! := by
  rw [List.getElem!_eq_getElem?_getD, List.getElem?_eq_getElem hj]
  rfl
theorem own_cap' {w : World} {base : Nat} {e : TypeId} {size n c : Nat} {A : Option Addr} {xs : List Value} (h : w.ownsRow base e size (.slice A n c) n xs) : n ≤ c := by
  rcases h.2 with ⟨hv, h0⟩ | ⟨g, cap, cur, hv, _, _, hc, _⟩
  · omega
  · injection hv with _ _ h3
    omega
theorem dup_any {l : List SecR} {k : Nat} {m : SecR} (hm : secAt l k = m) (hk : k ≤ l.length) : dupAt l k = (l.take k).any (sameS m) := by
  unfold dupAt
  rw [hm]
set_option maxHeartbeats 16000000 in
theorem impl_PlainTrack (f g cy hd : Int) {v : Value} {n b0 : Nat} {l : List SecR} (w : World) (h : w.ownsRow b0 85 8 v n (l.flatMap SecR.cells)) (hd0 : ∀ x ∈ l, x.d.size ≤ 1048576) (hn2 : n ≤ 1048576) :
    Calls Try.prog 25 #[.agg #[.int .i64 f, .int .i64 g, v], .int .i64 cy, .int .i64 hd] w fun e w' => ∃ v', e = .returned (.tuple #[.agg #[.int .i64 (plnR f g l cy hd).f, .int .i64 (plnR f g l cy hd).g, v'], .int .i64 (plnR f g l cy hd).c]) ∧ w'.ownsRow w.heap.size 85 8 v' (plnR f g l cy hd).l.length ((plnR f g l cy hd).l.flatMap SecR.cells) ∧ Below w.heap.size w w' := by
  obtain ⟨i0, hti, hz0, hz1, hz2⟩ := info_parts Try.info_SectorSpec
  obtain ⟨hT0, hR0, hB0⟩ := wr_two w 44 [.int .i64 f, .int .i64 g, v] [.int .i64 0, .int .i64 0, .slice none 0 0]
  have HCK := Hid.in_ (impl_checkTrack f g cy hd ((w.alloc (.cells [.int .i64 f, .int .i64 g, v].toArray 44)).alloc (.cells [.int .i64 0, .int .i64 0, .slice none 0 0].toArray 44)) (ostep hB0 h) hd0)
  have hcap : ∀ A c, v = .slice A n c → n ≤ c := fun A c e => by subst e; exact own_cap' h
  obtain ⟨A, c, rfl, hl, hn, hA⟩ := own_shape h
  have hnc := hcap A c rfl
  have HL : Hid (l.length = n) := by rw [flat_len SecR.len] at hl; unfold Hid; omega
  have H1 := Hid.in_ hA
  have HT0 := Hid.in_ hT0
  have HR0 := Hid.in_ hR0
  have HB0 := Hid.in_ hB0
  clear h hA hl hT0 hR0 hB0 hcap
  by_cases hc : trkCode f g l cy hd = 0
  · have HV := Hid.in_ (pln_ok HL.out hc)
    rw [hc] at HCK
    clear hc
    go_enter Try.func25, Try.ntmps25
    go_wp2_with fail
    change Calls Try.prog 60 _ ((w.alloc (.cells [.int .i64 f, .int .i64 g, .slice A n c].toArray 44)).alloc (.cells [.int .i64 0, .int .i64 0, .slice none 0 0].toArray 44)) _
    generalize ((w.alloc (.cells [.int .i64 f, .int .i64 g, .slice A n c].toArray 44)).alloc (.cells [.int .i64 0, .int .i64 0, .slice none 0 0].toArray 44)) = w1 at *
    refine HCK.out.mono ?_
    rintro e w2 ⟨rfl, hb2⟩
    have HB2 := Hid.in_ (bstep HB0.out hb2)
    have HT2 := Hid.in_ (Wr.step hb2 HT0.out)
    have HR2 := Hid.in_ (Wr.step hb2 HR0.out)
    obtain ⟨⟨s0, s1, s2⟩, _⟩ := wr3 HT2.out
    obtain ⟨tb, htb⟩ : ∃ tb, w.heap.size = tb := ⟨_, rfl⟩
    rw [htb] at s0 s1 s2
    have s3 := cstep (balloc (Below.refl w2.heap.size w2) (.cells #[.int .i64 f, .int .i64 g, .slice none 0 0] 44)) s2
    obtain ⟨B, hBB⟩ : ∃ B, w2.heap.size = B := ⟨_, rfl⟩
    have hlt1 : tb + 1 < B := by have := HR2.out.lt; omega
    have HS := Hid.in_ (show OSt w2 (w2.alloc (.cells #[.int .i64 f, .int .i64 g, .slice none 0 0] 44)) B (B + 1) f g (.slice none 0 0) [] from ⟨World.ownsRow_nil _ _ _ _, by rw [← hBB]; exact Wr.new w2 [.int .i64 f, .int .i64 g, .slice none 0 0] 44, by rw [← hBB]; exact balloc (Below.refl _ _) _, by omega, by rw [← hBB]; simp⟩)
    have HTB := Hid.in_ (And.intro htb hBB)
    clear hb2
    go_wp2_with fail
    clear htb hBB s0 s1 s2 s3
    go_loopg [29] n (fun m i wr => ∃ k : Nat, k + m = n ∧ i = .int .i64 k ∧ ∃ v, Hid (OSt w2 wr B (B + 1) f g v (plainTo l cy hd k)))
    case atStart => exact ⟨0, by omega, rfl, _, HS⟩
    case round =>
      clear HS
      obtain ⟨k, hkm, rfl, v, HO⟩ := hrel
      have HK := Hid.in_ hkm
      clear hkm
      by_cases hlt : k < n
      · obtain ⟨g1, rfl, hbg1, hg1, hx1, _⟩ := H1.out (by omega)
        obtain ⟨m, hm⟩ := get_lt l k (by rw [HL.out]; exact hlt)
        have HWE := Hid.in_ (HB2.out.trans (HO.out.bel.mono (by rw [← HTB.out.2]; exact HB2.out.size)))
        have hTT : Wr wr tb [.int .i64 f, .int .i64 g, .slice (some ⟨g1, 0, none⟩) n c] := Wr.low HO.out.bel (by rw [← HTB.out.1]; exact HT2.out) (by omega)
        obtain ⟨⟨t0, t1, t2⟩, _⟩ := wr3 hTT
        obtain ⟨x0, x1, x2, x3, x4, x5, x6, x7⟩ := boxAt8 ((Box.elem SecR.len hx1 hm).step HWE.out)
        have HX := Hid.in_ hx1
        have HM := Hid.in_ (secAt_eq hm)
        have HLL := Hid.in_ (show (plainTo l cy hd k).length ≤ 1048576 from by have := plainTo_len l cy hd k; omega)
        have HTT := Hid.in_ hTT
        clear hm hx1 hTT
        obtain ⟨mc, mh, mn, ms, md, mx, my, mz⟩ := m
        obtain ⟨r, hr⟩ : ∃ r, wr.heap.size = r := ⟨_, rfl⟩
        have HAL := Hid.in_ (balloc (Below.refl wr.heap.size wr) (.cells #[.int .i64 mc, .int .i64 mh, .int .i64 mn, .int .i64 ms, .string md, .bool mx, .bool my, .bool mz] 85))
        have HSW := Hid.in_ (Wr.new wr [.int .i64 mc, .int .i64 mh, .int .i64 mn, .int .i64 ms, .string md, .bool mx, .bool my, .bool mz] 85)
        rw [hr] at HSW
        obtain ⟨bd, hbd⟩ : ∃ b, dupAt l k = b := ⟨_, rfl⟩
        obtain ⟨bc, ec⟩ : ∃ b : Bool, (mc != cy) = b := ⟨_, rfl⟩
        obtain ⟨bh, eh⟩ : ∃ b : Bool, (mh != hd) = b := ⟨_, rfl⟩
        have HDR := Hid.in_ (show dropAt l cy hd k = (bd || (bc || bh)) by unfold dropAt; rw [hbd, HM.out, ec, eh])
        have HBD := Hid.in_ hbd
        have HCF := Hid.in_ (fun (w1 : World) (hb : Below w.heap.size w w1) (hF : r < w1.heap.size) (hB : Box w1 r (SecR.cells ⟨mc, mh, mn, ms, md, mx, my, mz⟩)) =>
          show Calls Try.prog 61 #[.slice (some ⟨g1, 0, none⟩) k c, .func (.func 62) #[] #[.pointer (some ⟨r, 0, none⟩)]] w1 fun e w' => e = .returned (.bool bd) ∧ Below w1.heap.size w1 w' from by
            rw [← HBD.out, dup_any HM.out (show k ≤ l.length by rw [HL.out]; omega)]
            exact AnyQ.slices_ContainsFunc Try.lays61 8 Try.isAgg85 Try.sizeOf85 SecR.cells (fun _ => rfl) (fun y => sameS ⟨mc, mh, mn, ms, md, mx, my, mz⟩ y) 62 #[.pointer (some ⟨r, 0, none⟩)]
              (enters_of Try.func62 (by kernel_rfl) rfl) g1 0 k c l w1 (impl_ptPred ⟨mc, mh, mn, ms, md, mx, my, mz⟩ r w1 hF hB) (by rw [HL.out]; omega) (by omega) (Nat.lt_of_lt_of_le hg1 hb.size) (fun j hj q u hu => by
                have hjm : l[j]? = some l[j]! := by rw [List.getElem!_eq_getElem?_getD, List.getElem?_eq_getElem hj]; rfl
                have := (Box.elem SecR.len HX.out hjm).step hb q u hu
                rw [Nat.zero_add]
                exact this))
        have hb1 := HWE.out.trans (HAL.out.mono HWE.out.size)
        have t3 := cstep HAL.out t2
        have hkc : (k : Int) ≤ (c : Int) := by omega
        have hvr : v.ownBlock ≠ some r := fun e => by have := (HO.out.row.lt r e).2; omega
        have hBr : B < r := by rw [← hr]; exact HO.out.out.lt
        have HVR := Hid.in_ hvr
        have HBR := Hid.in_ hBr
        clear hbd hvr
        go_wp2_with fail
        refine (HCF.out _ hb1 HSW.out.lt HSW.out.box).mono ?_
        rintro e w5 ⟨rfl, hb5⟩
        have HS5 := Hid.in_ (Wr.step hb5 HSW.out)
        have HO5 := Hid.in_ ((HO.out.alloc _).step hb5)
        obtain ⟨⟨y0, y1, y2, y3, y4, y5, y6, y7⟩, z0, z1, z2, z3, z4, z5, z6, z7⟩ := wr8 HS5.out
        have c2 := HO5.out.out.box 2 _ rfl
        have hne1 : B ≠ r := Nat.ne_of_lt hBr
        have hne2 : r ≠ B := fun e => hne1 e.symm
        clear hb5 x0 x1 x2 x3 x4 x5 x6 x7 t0 t1 t2 t3 hb1 hBr HCF
        cases hdd : (bd || (bc || bh))
        case true =>
          have HN := Hid.in_ (plain_no (l := l) (cy := cy) (hd := hd) (k := k) (by rw [HDR.out, hdd]))
          cases bd <;> cases bc <;> cases bh
          case false.false.false => simp at hdd
          all_goals
            clear hdd
            go_wp2
            have hk := HK.out
            go_roundg (gk - 1)
            case measure => omega
            case rel => exact ⟨k + 1, by omega, by go_num, v, HO5.out.cast HN.out.symm⟩
        case false =>
          obtain ⟨rfl, rfl, rfl⟩ : bd = false ∧ bc = false ∧ bh = false := by cases bd <;> cases bc <;> cases bh <;> simp at hdd ⊢
          have HN := Hid.in_ (plain_yes (l := l) (cy := cy) (hd := hd) (k := k) HM.out (by rw [HDR.out]; rfl))
          have HO8 := Hid.in_ (((HO5.out.set (S := r) (i := 6) HBR.out HVR.out (.bool false)).set (S := r) (i := 7) HBR.out HVR.out (.bool false)).set (S := r) (i := 5) HBR.out HVR.out (.bool false))
          have h63 : (plainTo l cy hd k).length + 1 ≤ maxLen := by have := HLL.out; unfold maxLen; omega
          have hby : (plainTo l cy hd k).length * 56 + 56 ≤ 140737488355328 := by have := HLL.out; omega
          have HS8 := Hid.in_ (((HS5.out.set (.bool false) (i := 6) (by simp)).set (.bool false) (i := 7) (by simp)).set (.bool false) (i := 5) (by simp))
          change Hid (Wr _ r [.int .i64 mc, .int .i64 mh, .int .i64 mn, .int .i64 ms, .string md, .bool false, .bool false, .bool false]) at HS8
          clear hdd
          go_upto_region 11 with fail
          clear y0 y1 y2 y3 y4 y5 y6 y7 z0 z1 z2 z3 z4 z5 z6 z7 c2
          generalize (((w5.setCell ⟨r, 6, none⟩ (.bool false)).setCell ⟨r, 7, none⟩ (.bool false)).setCell ⟨r, 5, none⟩ (.bool false)) = w8 at *
          obtain ⟨⟨y0, y1, y2, y3, y4, y5, y6, y7⟩, _⟩ := wr8 HS8.out
          have c2 := HO8.out.out.box 2 _ rfl
          have hvB : v.ownBlock ≠ some B := fun e => by have := (HO8.out.row.lt B e).1; omega
          go_wp2_with (at_builtin; refine wpList_append_lies _ rfl _ _ 42 rfl (B + 1) 85 i0 (.agg #[.int .i64 0, .int .i64 0, .int .i64 0, .int .i64 0, .string ByteArray.empty, .bool false, .bool false, .bool false]) 8 56 Try.underlying42 hti hz0 hz1 hz2 rfl (by decide) _ _ _ rfl (HO8.out.alloc _).row ⟨_, 0, none⟩ 1 1 [_, _, _, _, _, _, _, _] rfl rfl (cells8b (by simp)) (fun x hx => by simp at hx; rcases hx with rfl | rfl | rfl | rfl | rfl | rfl | rfl | rfl <;> rfl) (by decide) h63 (by omega) (HO8.out.alloc _).hH _ rfl ?_; intro g6 cp6 w6 ho6 hg6 hat6 hlt6; have HP := Hid.in_ ((HO8.out.alloc _).push (x := strip ⟨mc, mh, mn, ms, md, mx, my, mz⟩) ho6 hg6); have d2 := hg6.cell (cstep (balloc (Below.refl _ _) _) c2) (fun e => hvB e.symm); have d3 := (World.frozen?_of_block (hg6.block B (HO8.out.alloc _).out.lt (fun e => hvB e.symm))).trans ((HO8.out.alloc _).out.soft 2); clear ho6 hg6 hat6 hlt6 y0 y1 y2 y3 y4 y5 y6 y7 c2)
          have hk := HK.out
          go_roundg (gk - 1)
          case measure => omega
          case rel => exact ⟨k + 1, by omega, by go_num, _, HP.out.cast HN.out.symm⟩
      · have hk := HK.out
        obtain rfl : k = n := by omega
        obtain ⟨N5, hN5⟩ : ∃ N, (plainTo l cy hd k).length = N := ⟨_, rfl⟩
        have HROW := HO.out.row
        rw [hN5] at HROW
        obtain ⟨A5, c5, hv5, _, _, _⟩ := own_shape HROW
        subst hv5
        obtain ⟨⟨c0, c1, c2⟩, _⟩ := wr3 HO.out.out
        have hRR : Wr wr (tb + 1) [.int .i64 0, .int .i64 0, .slice none 0 0] := Wr.low HO.out.bel (by rw [← HTB.out.1]; exact HR2.out) hlt1
        obtain ⟨⟨r0, r1, r2⟩, r3, r4, r5⟩ := wr3 hRR
        obtain ⟨⟨d0, d1, d2⟩, _⟩ := wr3 (put3p hRR (.int .i64 f) (.int .i64 g) (.slice A5 N5 c5))
        have hown : ∀ i x (w' : World), w'.ownsRow (B + 1) 85 8 (.slice A5 N5 c5) N5 ((plainTo l cy hd k).flatMap SecR.cells) → (w'.setCell ⟨tb + 1, i, none⟩ x).ownsRow (B + 1) 85 8 (.slice A5 N5 c5) N5 ((plainTo l cy hd k).flatMap SecR.cells) := fun i x w' hw => hw.kept (grown_setS w' (tb + 1) i x) (.inr fun e => by have := (hw.lt _ e).1; omega)
        have HF := Hid.in_ (own_base (hown 2 (.slice A5 N5 c5) _ (hown 1 (.int .i64 g) _ (hown 0 (.int .i64 f) _ HROW))) (show tb ≤ B + 1 by omega))
        have HBF := Hid.in_ ((((HB2.out.trans (HO.out.bel.mono (by rw [HTB.out.1]; omega))).setCell (p := ⟨tb + 1, 0, none⟩) (by show w.heap.size ≤ tb + 1; rw [HTB.out.1]; omega) (.int .i64 f)).setCell (p := ⟨tb + 1, 1, none⟩) (by show w.heap.size ≤ tb + 1; rw [HTB.out.1]; omega) (.int .i64 g)).setCell (p := ⟨tb + 1, 2, none⟩) (by show w.heap.size ≤ tb + 1; rw [HTB.out.1]; omega) (.slice A5 N5 c5))
        have HN5 := Hid.in_ hN5
        clear hown hRR HROW hN5
        go_wp2
        (try simp only [Exit.inBlock, Exit.then])
        rw [HV.out]
        refine bodyPost_ret ?_ rfl ⟨.slice A5 N5 c5, rfl, ?_, HBF.out⟩
        · rw [results_cell_tmp rfl]
          simp [go_sem, Result.andThen, d0, d1, d2]
        · rw [HTB.out.1]
          show World.ownsRow _ tb 85 8 (.slice A5 N5 c5) (plainTo l cy hd k).length _
          rw [HN5.out]
          exact HF.out
  · have HV := Hid.in_ (pln_no rfl hc)
    generalize trkCode f g l cy hd = code at *
    have hcb : (code != 0) = true := by simpa using hc
    go_enter Try.func25, Try.ntmps25
    go_wp2_with fail
    change Calls Try.prog 60 _ ((w.alloc (.cells [.int .i64 f, .int .i64 g, .slice A n c].toArray 44)).alloc (.cells [.int .i64 0, .int .i64 0, .slice none 0 0].toArray 44)) _
    generalize ((w.alloc (.cells [.int .i64 f, .int .i64 g, .slice A n c].toArray 44)).alloc (.cells [.int .i64 0, .int .i64 0, .slice none 0 0].toArray 44)) = w1 at *
    refine HCK.out.mono ?_
    rintro e w2 ⟨rfl, hb2⟩
    have HB2 := Hid.in_ (bstep HB0.out hb2)
    have hRR := Wr.step hb2 HR0.out
    obtain ⟨⟨r0, r1, r2⟩, r3, r4, r5⟩ := wr3 hRR
    obtain ⟨⟨d0, d1, d2⟩, _⟩ := wr3 (put3p hRR (.int .i64 0) (.int .i64 0) (.slice none 0 0))
    clear hb2 hRR
    go_wp2
    (try simp only [Exit.inBlock, Exit.then])
    rw [HV.out]
    refine bodyPost_ret ?_ rfl ⟨.slice none 0 0, rfl, World.ownsRow_nil _ _ _ _, ?_⟩
    · rw [results_cell_tmp rfl]
      simp [go_sem, Result.andThen, d0, d1, d2]
    · exact ((HB2.out.setCell (p := ⟨w.heap.size + 1, 0, none⟩) (Nat.le_succ _) _).setCell (p := ⟨w.heap.size + 1, 1, none⟩) (Nat.le_succ _) _).setCell (p := ⟨w.heap.size + 1, 2, none⟩) (Nat.le_succ _) _
end Go.Proofs.Ytlelgpknkgjaeaa
