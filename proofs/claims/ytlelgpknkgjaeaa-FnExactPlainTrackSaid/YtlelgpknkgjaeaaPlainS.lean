/- 'PlainTrack' of the reference. -/
import Derived.Test.YtlelgpknkgjaeaaPlain
import Derived.Laws.ResultCell
namespace Go.Proofs.Ytlelgpknkgjaeaa
open Go.ChangeShapes Go.WideShapes Go.ChangeAt Go.RowKit
set_option linter.unusedVariables false
set_option linter.unusedSimpArgs false
set_option maxRecDepth 4000

theorem put3q {w : World} {b : Nat} {a0 a1 a2 : Value} (h : Wr w b [a0, a1, a2]) (x0 x1 x2 : Value) : Wr (((w.setCell ⟨b, 0, none⟩ x0).setCell ⟨b, 1, none⟩ x1).setCell ⟨b, 2, none⟩ x2) b [x0, x1, x2] :=
  ((h.set x0 (i := 0) (by simp)).set x1 (i := 1) (by simp)).set x2 (i := 2) (by simp)
theorem sameS_comm (a b : SecR) : sameS a b = sameS b a := by
  unfold sameS
  rw [BEq.comm (a := a.c), BEq.comm (a := a.h), BEq.comm (a := a.n), BEq.comm (a := a.s)]
def twTo (l : List SecR) (t0 : Bool) (m : SecR) : Nat → Bool
  | 0 => t0
  | j + 1 => twTo l t0 m j || sameS (secAt l j) m
theorem twTo_is (l : List SecR) (t0 : Bool) (m : SecR) : ∀ k, k ≤ l.length → twTo l t0 m k = (t0 || (l.take k).any (sameS m))
  | 0, _ => by simp [twTo]
  | k + 1, h => by
    obtain ⟨x, hx⟩ := get_lt l k (by omega)
    show (twTo l t0 m k || sameS (secAt l k) m) = _
    rw [twTo_is l t0 m k (by omega), take_snoc l k x hx, List.any_append, secAt_eq hx, sameS_comm x m, Bool.or_assoc]
    simp
/-- The state of the reference's loop: the rest of the track (block B), the sectors so far. -/
structure PSt (w1 w : World) (B H : Nat) (f g : Int) (v : Value) (L : List SecR) : Prop where
  row : w.ownsRow H 85 8 v L.length (L.flatMap SecR.cells)
  out : Wr w B [.int .i64 f, .int .i64 g, v]
  bel : Below H w1 w
  nB : v.ownBlock ≠ some B
  HB : H ≤ B
theorem PSt.step {w1 w w' : World} {B H : Nat} {f g : Int} {v : Value} {L : List SecR} (h : PSt w1 w B H f g v L) (k : Below w.heap.size w w') : PSt w1 w' B H f g v L :=
  ⟨ostep k h.row, Wr.step k h.out, h.bel.trans (k.mono (Nat.le_trans h.HB (Nat.le_of_lt h.out.lt))), h.nB, h.HB⟩
theorem PSt.alloc {w1 w : World} {B H : Nat} {f g : Int} {v : Value} {L : List SecR} (h : PSt w1 w B H f g v L) (o : Obj) : PSt w1 (w.alloc o) B H f g v L := h.step (balloc (Below.refl _ _) o)
theorem PSt.cast {w1 w : World} {B H : Nat} {f g : Int} {v : Value} {L M : List SecR} (h : PSt w1 w B H f g v L) (e : L = M) : PSt w1 w B H f g v M := by rw [← e]; exact h
theorem PSt.push {w1 w w' : World} {B H gg cap : Nat} {f g : Int} {v : Value} {L : List SecR} (h : PSt w1 w B H f g v L) {x : SecR}
    (ho : w'.ownsRow H 85 8 (.slice (some ⟨gg, 0, none⟩) (L.length + 1) cap) (L.length + 1) (L.flatMap SecR.cells ++ x.cells)) (hg : w.grownBy w' v.ownBlock) (hat : v.ownBlock = some gg ∨ gg = w.heap.size) :
    PSt w1 (w'.setCell ⟨B, 2, none⟩ (.slice (some ⟨gg, 0, none⟩) (L.length + 1) cap)) B H f g (.slice (some ⟨gg, 0, none⟩) (L.length + 1) cap) (L ++ [x]) := by
  have hb : Below H w1 w' := h.bel.grown hg (Nat.le_trans h.HB (Nat.le_of_lt h.out.lt)) (fun k hk => (h.row.lt k hk).1)
  have hW : Wr w' B [.int .i64 f, .int .i64 g, v] := ⟨fun j u hu => hg.cell (h.out.box j u hu) (fun e => h.nB e.symm), fun i => (World.frozen?_of_block (hg.block B h.out.lt (fun e => h.nB e.symm))).trans (h.out.soft i), Nat.lt_of_lt_of_le h.out.lt hg.size⟩
  have hgB : gg ≠ B := fun e => by
    rcases hat with h1 | h1
    · exact h.nB (by rw [h1, e])
    · have := h.out.lt; omega
  have hn : (Value.slice (some ⟨gg, 0, none⟩) (L.length + 1) cap).ownBlock ≠ some B := fun e => hgB (by simpa [Value.ownBlock] using e)
  refine ⟨?_, hW.set _ (i := 2) (by simp), hb.setCell (p := ⟨B, 2, none⟩) h.HB _, hn, h.HB⟩
  rw [List.length_append, flat_snoc]
  exact ho.kept (grown_setS w' B 2 _) (.inr hn)
set_option maxHeartbeats 16000000 in
theorem spec_PlainTrack (f g cy hd : Int) {v : Value} {n b0 : Nat} {l : List SecR} (w : World) (h : w.ownsRow b0 85 8 v n (l.flatMap SecR.cells)) (hd0 : ∀ x ∈ l, x.d.size ≤ 1048576) (hn2 : n ≤ 1048576) :
    Calls Try.prog 23 #[.agg #[.int .i64 f, .int .i64 g, v], .int .i64 cy, .int .i64 hd] w fun e w' => ∃ v', e = .returned (.tuple #[.agg #[.int .i64 (plnR f g l cy hd).f, .int .i64 (plnR f g l cy hd).g, v'], .int .i64 (plnR f g l cy hd).c]) ∧ w'.ownsRow w.heap.size 85 8 v' (plnR f g l cy hd).l.length ((plnR f g l cy hd).l.flatMap SecR.cells) ∧ Below w.heap.size w w' := by
  obtain ⟨i0, hti, hz0, hz1, hz2⟩ := info_parts Try.info_SectorSpec
  obtain ⟨hT0, hR0, hB0⟩ := wr_two w 44 [.int .i64 f, .int .i64 g, v] [.int .i64 0, .int .i64 0, .slice none 0 0]
  have HVT := Hid.in_ (spec_ValidTrackSpec f g ((w.alloc (.cells [.int .i64 f, .int .i64 g, v].toArray 44)).alloc (.cells [.int .i64 0, .int .i64 0, .slice none 0 0].toArray 44)) (ostep hB0 h) hd0)
  obtain ⟨A, c, rfl, hl, hn, hA⟩ := own_shape h
  have HL : Hid (l.length = n) := by rw [flat_len SecR.len] at hl; unfold Hid; omega
  have H1 := Hid.in_ hA
  have HT0 := Hid.in_ hT0
  have HR0 := Hid.in_ hR0
  have HB0 := Hid.in_ hB0
  obtain ⟨tb, htb⟩ : ∃ tb, w.heap.size = tb := ⟨_, rfl⟩
  have HTB := Hid.in_ htb
  rw [htb] at HT0 HR0
  obtain ⟨⟨s0, s1, s2⟩, _⟩ := wr3 HT0.out
  obtain ⟨w1, hw1⟩ : ∃ w1 : World, w1 = ((w.alloc (.cells [.int .i64 f, .int .i64 g, .slice A n c].toArray 44)).alloc (.cells [.int .i64 0, .int .i64 0, .slice none 0 0].toArray 44)) := ⟨_, rfl⟩
  rw [← hw1] at HVT HT0 HR0 HB0 s0 s1 s2
  have HE0 := Hid.in_ (show ((w.alloc (.cells #[.int .i64 f, .int .i64 g, .slice A n c] 44)).alloc (.cells #[.int .i64 0, .int .i64 0, .slice none 0 0] 44)) = w1 from hw1.symm)
  clear hw1
  clear h hA hl hT0 hR0 hB0
  have hbad : ∀ (code : Int), trkCode f g l cy hd = code → code ≠ 0 → ∀ w2, Below w.heap.size w w2 → Wr w2 (tb + 1) [.int .i64 0, .int .i64 0, .slice none 0 0] → plnR f g l cy hd = ⟨0, 0, [], code⟩ ∧ Below w.heap.size w (((w2.setCell ⟨tb + 1, 0, none⟩ (.int .i64 0)).setCell ⟨tb + 1, 1, none⟩ (.int .i64 0)).setCell ⟨tb + 1, 2, none⟩ (.slice none 0 0)) := fun code h1 h2 w2 h3 h4 =>
    ⟨pln_no h1 h2, ((h3.setCell (p := ⟨tb + 1, 0, none⟩) (by show w.heap.size ≤ tb + 1; omega) _).setCell (p := ⟨tb + 1, 1, none⟩) (by show w.heap.size ≤ tb + 1; omega) _).setCell (p := ⟨tb + 1, 2, none⟩) (by show w.heap.size ≤ tb + 1; omega) _⟩
  have HBAD := Hid.in_ hbad
  clear hbad
  have hnt : ¬ tb = tb + 1 := by omega
  cases hv : validTrack f g l
  · rw [hv] at HVT
    have HC := Hid.in_ (code1 (cy := cy) (hd := hd) hv)
    go_enter Try.func23, Try.ntmps23
    go_wp2_with fail
    rw [HE0.out]
    refine HVT.out.mono ?_
    rintro e w2 ⟨rfl, hb2⟩
    have hB2 := bstep HB0.out hb2
    have hRR := Wr.step hb2 HR0.out
    have HV := Hid.in_ (HBAD.out _ HC.out (by decide) w2 hB2 hRR)
    obtain ⟨⟨r0, r1, r2⟩, r3, r4, r5⟩ := wr3 hRR
    obtain ⟨⟨d0, d1, d2⟩, _⟩ := wr3 (put3q hRR (.int .i64 0) (.int .i64 0) (.slice none 0 0))
    clear hb2 hRR hB2 s0 s1 s2
    go_wp2
    (try simp only [Exit.inBlock, Exit.then])
    rw [HV.out.1]
    refine bodyPost_ret ?_ rfl ⟨.slice none 0 0, rfl, World.ownsRow_nil _ _ _ _, HV.out.2⟩
    rw [results_cell_tmp rfl]
    simp [go_sem, Result.andThen, d0, d1, d2]
  · rw [hv] at HVT
    have HVV := Hid.in_ hv
    clear hv
    cases h1 : (inB cy 0 255 && inB hd 0 255)
    · have HC := Hid.in_ (code2 (cy := cy) (hd := hd) HVV.out h1)
      go_enter Try.func23, Try.ntmps23
      go_wp2_with fail
      rw [HE0.out]
      refine HVT.out.mono ?_
      rintro e w2 ⟨rfl, hb2⟩
      have hB2 := bstep HB0.out hb2
      have hRR := Wr.step hb2 HR0.out
      have HV := Hid.in_ (HBAD.out _ HC.out (by decide) w2 hB2 hRR)
      obtain ⟨⟨r0, r1, r2⟩, r3, r4, r5⟩ := wr3 hRR
      obtain ⟨⟨d0, d1, d2⟩, _⟩ := wr3 (put3q hRR (.int .i64 0) (.int .i64 0) (.slice none 0 0))
      clear hb2 hRR hB2 s0 s1 s2
      go_wp2_with (go_at_call 58; refine (bool_is (spec_l11Track _ _ _) (by assumption)).mono ?_; rintro e w' ⟨rfl, rfl⟩)
      (try simp only [Exit.inBlock, Exit.then])
      rw [HV.out.1]
      refine bodyPost_ret ?_ rfl ⟨.slice none 0 0, rfl, World.ownsRow_nil _ _ _ _, HV.out.2⟩
      rw [results_cell_tmp rfl]
      simp [go_sem, Result.andThen, d0, d1, d2]
    · have HV := Hid.in_ (pln_ok HL.out (code0 (cy := cy) (hd := hd) HVV.out h1))
      clear HBAD
      go_enter Try.func23, Try.ntmps23
      go_wp2_with fail
      rw [HE0.out]
      refine HVT.out.mono ?_
      rintro e w2 ⟨rfl, hb2⟩
      have HB2 := Hid.in_ (bstep HB0.out hb2)
      have HT2 := Hid.in_ (Wr.step hb2 HT0.out)
      have HR2 := Hid.in_ (Wr.step hb2 HR0.out)
      clear s0 s1 s2 HE0
      obtain ⟨⟨s0, s1, s2⟩, _⟩ := wr3 HT2.out
      obtain ⟨E, hEE⟩ : ∃ E, w2.heap.size = E := ⟨_, rfl⟩
      have hlt1 : tb + 1 < E := by have := HR2.out.lt; omega
      have HE := Hid.in_ hEE
      have hal1 := balloc (Below.refl w2.heap.size w2) (.cells #[] 85)
      have hs1 : (w2.alloc (.cells #[] 85)).heap.size = E + 1 := by unfold World.alloc; rw [← hEE]; exact Array.size_push _
      have HS := Hid.in_ (show PSt w2 ((w2.alloc (.cells #[] 85)).alloc (.cells #[.int .i64 f, .int .i64 g, .slice (some ⟨E, 0, none⟩) 0 0] 44)) (E + 1) E f g (.slice (some ⟨E, 0, none⟩) 0 0) [] from by
        refine ⟨?_, ?_, ?_, ?_, by omega⟩
        · have h := World.ownsRow_lit (base := E) (size := 8) (e := 85) w2 #[] 0 (by omega) (by decide) (by decide)
          rw [hEE] at h
          exact ostep (balloc (Below.refl _ _) _) h
        · have h := Wr.new (w2.alloc (.cells #[] 85)) [.int .i64 f, .int .i64 g, .slice (some ⟨E, 0, none⟩) 0 0] 44
          rw [hs1] at h
          exact h
        · rw [← hEE]
          exact balloc hal1 _
        · simp [Value.ownBlock])
      have t0' := cstep hal1 s0
      have t1' := cstep hal1 s1
      clear hb2 hal1
      go_wp2_with (go_at_call 58; refine (bool_is (spec_l11Track _ _ _) (by assumption)).mono ?_; rintro e w' ⟨rfl, rfl⟩)
      clear t0' t1' s0 s1 s2 hs1
      go_loopg [9] n (fun m i wr => ∃ k : Nat, k + m = n ∧ i = .int .i64 k ∧ ∃ v, Hid (PSt w2 wr (E + 1) E f g v (plainTo l cy hd k)))
      case atStart => exact ⟨0, by omega, rfl, _, HS⟩
      case round =>
        clear HS
        obtain ⟨k, hkm, rfl, v, HO⟩ := hrel
        have HK := Hid.in_ hkm
        clear hkm
        have hTT : Wr wr tb [.int .i64 f, .int .i64 g, .slice A n c] := Wr.low HO.out.bel HT2.out (by omega)
        obtain ⟨⟨t0, t1, t2⟩, _⟩ := wr3 hTT
        by_cases hlt : k < n
        · obtain ⟨g1, rfl, hbg1, hg1, hx1, _⟩ := H1.out (by omega)
          obtain ⟨m, hm⟩ := get_lt l k (by rw [HL.out]; exact hlt)
          have HWE := Hid.in_ (HB2.out.trans (HO.out.bel.mono (by rw [← HE.out]; exact HB2.out.size)))
          obtain ⟨x0, x1, x2, x3, x4, x5, x6, x7⟩ := boxAt8 ((Box.elem SecR.len hx1 hm).step HWE.out)
          have HX := Hid.in_ hx1
          have HM := Hid.in_ (secAt_eq hm)
          have HLL := Hid.in_ (show (plainTo l cy hd k).length ≤ 1048576 from by have := plainTo_len l cy hd k; omega)
          clear hm hx1
          obtain ⟨mc, mh, mn, ms, md, mx, my, mz⟩ := m
          obtain ⟨r, hr⟩ : ∃ r, wr.heap.size = r := ⟨_, rfl⟩
          have HAL := Hid.in_ (balloc (Below.refl wr.heap.size wr) (.cells #[.int .i64 mc, .int .i64 mh, .int .i64 mn, .int .i64 ms, .string md, .bool mx, .bool my, .bool mz] 85))
          have HSW := Hid.in_ (Wr.new wr [.int .i64 mc, .int .i64 mh, .int .i64 mn, .int .i64 ms, .string md, .bool mx, .bool my, .bool mz] 85)
          rw [hr] at HSW
          have HO3 := Hid.in_ (HO.out.alloc (.cells #[.int .i64 mc, .int .i64 mh, .int .i64 mn, .int .i64 ms, .string md, .bool mx, .bool my, .bool mz] 85))
          have HT3 := Hid.in_ (Wr.step HAL.out hTT)
          have HW3 := Hid.in_ (bstep HWE.out HAL.out)
          have hBr : E + 1 < r := by rw [← hr]; exact HO.out.out.lt
          have HR := Hid.in_ hr
          have HBR := Hid.in_ hBr
          obtain ⟨bc, ec⟩ : ∃ b : Bool, (mc != cy) = b := ⟨_, rfl⟩
          obtain ⟨bh, eh⟩ : ∃ b : Bool, (mh != hd) = b := ⟨_, rfl⟩
          have HDR := Hid.in_ (show dropAt l cy hd k = twTo l (bc || bh) ⟨mc, mh, mn, ms, md, mx, my, mz⟩ k by
            rw [twTo_is l _ _ k (by rw [HL.out]; omega)]
            unfold dropAt dupAt
            rw [HM.out, ec, eh, Bool.or_comm])
          clear hTT
          go_upto_region 10 with fail
          clear x0 x1 x2 x3 x4 x5 x6 x7 t0 t1 t2 hr
          change Hid (Wr (wr.alloc (.cells #[.int .i64 mc, .int .i64 mh, .int .i64 mn, .int .i64 ms, .string md, .bool mx, .bool my, .bool mz] 85)) r _) at HSW
          generalize wr.alloc (.cells #[.int .i64 mc, .int .i64 mh, .int .i64 mn, .int .i64 ms, .string md, .bool mx, .bool my, .bool mz] 85) = w3 at *
          obtain ⟨⟨y0, y1, y2, y3, y4, y5, y6, y7⟩, _⟩ := wr8 HSW.out
          go_cut [11] (fun b wx => b = .bool (bc || bh) ∧ wx = w3)
          case first =>
            rcases bc <;> rcases bh
            all_goals
              go_wp2_with fail
              go_meet
              exact ⟨rfl, rfl⟩
          case rest =>
            obtain ⟨rfl, rfl⟩ := hcut
            clear y0 y1 y2 y3 y4 y5 y6 y7 ec eh
            generalize (bc || bh) = tw at *
            go_wp2_with fail
            obtain ⟨gO, rfl⟩ : ∃ g, g = gk := ⟨_, rfl⟩
            go_loopg [11, 12] k (fun m b i wi => ∃ j : Nat, j + m = k ∧ i = .int .i64 j ∧ b = .bool (twTo l tw ⟨mc, mh, mn, ms, md, mx, my, mz⟩ j) ∧ Hid (Below wc.heap.size wc wi))
            case atStart => exact ⟨0, by omega, rfl, rfl, Below.refl _ _⟩
            case round =>
              obtain ⟨j, hjm, rfl, rfl, HI⟩ := hrel
              have HJ := Hid.in_ hjm
              clear hjm
              by_cases hlj : j < k
              · obtain ⟨y, hy⟩ := get_lt l j (by rw [HL.out]; omega)
                have hjn : (j : Int) < (n : Int) := by omega
                obtain ⟨x0, x1, x2, x3, x4, x5, x6, x7⟩ := boxAt8 ((Box.elem SecR.len HX.out hy).step (bstep HW3.out HI.out))
                obtain ⟨⟨t0, t1, t2⟩, _⟩ := wr3 (Wr.step HI.out HT3.out)
                have HSI := Hid.in_ (Wr.step HI.out HSW.out)
                have HTN := Hid.in_ (show twTo l tw ⟨mc, mh, mn, ms, md, mx, my, mz⟩ (j + 1) = (twTo l tw ⟨mc, mh, mn, ms, md, mx, my, mz⟩ j || ((y.c == mc) && ((y.h == mh) && ((y.n == mn) && (y.s == ms))))) from by show (_ || sameS (secAt l j) _) = _; rw [secAt_eq hy]; rfl)
                clear hy
                have HAI := Hid.in_ (balloc (Below.refl wr.heap.size wr) (.cells #[.int .i64 y.c, .int .i64 y.h, .int .i64 y.n, .int .i64 y.s, .string y.d, .bool y.x, .bool y.y, .bool y.z] 85))
                obtain ⟨⟨z0, z1, z2, z3, z4, z5, z6, z7⟩, _⟩ := wr8 (Wr.step HAI.out HSI.out)
                have HI2 := Hid.in_ (bstep HI.out HAI.out)
                generalize twTo l tw ⟨mc, mh, mn, ms, md, mx, my, mz⟩ j = T at *
                cases T
                case true =>
                  go_wp2
                  have hj := HJ.out
                  go_roundg (gk - 1)
                  case measure => omega
                  case rel => exact ⟨j + 1, by omega, by go_num, by rw [HTN.out]; rfl, HI2⟩
                case false =>
                  cases e0 : (y.c == mc)
                  case false =>
                    go_wp2
                    have hj := HJ.out
                    go_roundg (gk - 1)
                    case measure => omega
                    case rel => exact ⟨j + 1, by omega, by go_num, by rw [HTN.out, e0]; rfl, HI2⟩
                  case true =>
                    cases e1 : (y.h == mh)
                    case false =>
                      go_wp2
                      have hj := HJ.out
                      go_roundg (gk - 1)
                      case measure => omega
                      case rel => exact ⟨j + 1, by omega, by go_num, by rw [HTN.out, e0, e1]; rfl, HI2⟩
                    case true =>
                      cases e2 : (y.n == mn)
                      case false =>
                        go_wp2
                        have hj := HJ.out
                        go_roundg (gk - 1)
                        case measure => omega
                        case rel => exact ⟨j + 1, by omega, by go_num, by rw [HTN.out, e0, e1, e2]; rfl, HI2⟩
                      case true =>
                        cases e3 : (y.s == ms)
                        all_goals
                          go_wp2
                          have hj := HJ.out
                          go_roundg (gk - 1)
                          case measure => omega
                          case rel => exact ⟨j + 1, by omega, by go_num, by rw [HTN.out, e0, e1, e2, e3]; rfl, HI2⟩
              · have hj := HJ.out
                obtain rfl : j = k := by omega
                have HOI := Hid.in_ (HO3.out.step HI.out)
                have HSI := Hid.in_ (Wr.step HI.out HSW.out)
                generalize hTT : twTo l tw ⟨mc, mh, mn, ms, md, mx, my, mz⟩ j = T at *
                clear hTT
                cases T
                case true =>
                  have HN := Hid.in_ (plain_no (l := l) (cy := cy) (hd := hd) (k := j) HDR.out)
                  go_wp2
                  have hk := HK.out
                  go_roundg (gO - 1)
                  case measure => omega
                  case rel => exact ⟨j + 1, by omega, by go_num, v, HOI.out.cast HN.out.symm⟩
                case false =>
                  have HN := Hid.in_ (plain_yes (l := l) (cy := cy) (hd := hd) (k := j) HM.out HDR.out)
                  have h63 : (plainTo l cy hd j).length + 1 ≤ maxLen := by have := HLL.out; unfold maxLen; omega
                  have hby : (plainTo l cy hd j).length * 56 + 56 ≤ 140737488355328 := by have := HLL.out; omega
                  obtain ⟨⟨y0, y1, y2, y3, y4, y5, y6, y7⟩, _⟩ := wr8 HSI.out
                  have c2 := HOI.out.out.box 2 _ rfl
                  have hvB := HOI.out.nB
                  have HVB := Hid.in_ hvB
                  clear hvB
                  go_wp2_with (at_builtin; refine wpList_append_lies _ rfl _ _ 42 rfl E 85 i0 (.agg #[.int .i64 0, .int .i64 0, .int .i64 0, .int .i64 0, .string ByteArray.empty, .bool false, .bool false, .bool false]) 8 56 Try.underlying42 hti hz0 hz1 hz2 rfl (by decide) _ _ _ rfl (HOI.out.alloc _).row ⟨_, 0, none⟩ 1 1 [_, _, _, _, _, _, _, _] rfl rfl (cells8b (by simp)) (fun x hx => by simp at hx; rcases hx with rfl | rfl | rfl | rfl | rfl | rfl | rfl | rfl <;> rfl) (by decide) h63 (by omega) (Nat.le_trans (Nat.le_succ E) (Nat.le_of_lt (HOI.out.alloc _).out.lt)) _ rfl ?_; intro g6 cp6 w6 ho6 hg6 hat6 hlt6; have HP := Hid.in_ ((HOI.out.alloc _).push (x := strip ⟨mc, mh, mn, ms, md, mx, my, mz⟩) ho6 hg6 hat6); have d2 := hg6.cell (cstep (balloc (Below.refl _ _) _) c2) (fun e => HVB.out e.symm); have d3 := (World.frozen?_of_block (hg6.block (E + 1) (HOI.out.alloc _).out.lt (fun e => HVB.out e.symm))).trans ((HOI.out.alloc _).out.soft 2); clear ho6 hg6 hat6 hlt6 y0 y1 y2 y3 y4 y5 y6 y7 c2)
                  have hk := HK.out
                  go_roundg (gO - 1)
                  case measure => omega
                  case rel => exact ⟨j + 1, by omega, by go_num, _, HP.out.cast HN.out.symm⟩
        · have hk := HK.out
          obtain rfl : k = n := by omega
          obtain ⟨N5, hN5⟩ : ∃ N, (plainTo l cy hd k).length = N := ⟨_, rfl⟩
          have HROW := HO.out.row
          rw [hN5] at HROW
          have hnlt : ∀ q, (q = tb + 1) → v.ownBlock ≠ some q := fun q hq e => by have := (HO.out.row.lt q e).1; omega
          obtain ⟨A5, c5, hv5, _, _, _⟩ := own_shape HROW
          subst hv5
          obtain ⟨⟨c0, c1, c2⟩, _⟩ := wr3 HO.out.out
          have hRR : Wr wr (tb + 1) [.int .i64 0, .int .i64 0, .slice none 0 0] := Wr.low HO.out.bel HR2.out hlt1
          obtain ⟨⟨r0, r1, r2⟩, r3, r4, r5⟩ := wr3 hRR
          obtain ⟨⟨d0, d1, d2⟩, _⟩ := wr3 (put3q hRR (.int .i64 f) (.int .i64 g) (.slice A5 N5 c5))
          have hown : ∀ i x (w' : World), w'.ownsRow E 85 8 (.slice A5 N5 c5) N5 ((plainTo l cy hd k).flatMap SecR.cells) → (w'.setCell ⟨tb + 1, i, none⟩ x).ownsRow E 85 8 (.slice A5 N5 c5) N5 ((plainTo l cy hd k).flatMap SecR.cells) := fun i x w' hw => hw.kept (grown_setS w' (tb + 1) i x) (.inr (hnlt _ rfl))
          have HF := Hid.in_ (own_base (hown 2 (.slice A5 N5 c5) _ (hown 1 (.int .i64 g) _ (hown 0 (.int .i64 f) _ HROW))) (show tb ≤ E by omega))
          have hbE : Below w.heap.size w wr := HB2.out.trans (HO.out.bel.mono (by rw [HTB.out]; omega))
          have HBF := Hid.in_ (((hbE.setCell (p := ⟨tb + 1, 0, none⟩) (by show w.heap.size ≤ tb + 1; rw [HTB.out]; omega) (.int .i64 f)).setCell (p := ⟨tb + 1, 1, none⟩) (by show w.heap.size ≤ tb + 1; rw [HTB.out]; omega) (.int .i64 g)).setCell (p := ⟨tb + 1, 2, none⟩) (by show w.heap.size ≤ tb + 1; rw [HTB.out]; omega) (.slice A5 N5 c5))
          have HN5 := Hid.in_ hN5
          clear hown hRR HROW hN5 hnlt hbE
          go_wp2
          (try simp only [Exit.inBlock, Exit.then])
          rw [HV.out]
          refine bodyPost_ret ?_ rfl ⟨.slice A5 N5 c5, rfl, ?_, HBF.out⟩
          · rw [results_cell_tmp rfl]
            simp [go_sem, Result.andThen, d0, d1, d2]
          · rw [HTB.out]
            show World.ownsRow _ tb 85 8 (.slice A5 N5 c5) (plainTo l cy hd k).length _
            rw [HN5.out]
            exact HF.out
end Go.Proofs.Ytlelgpknkgjaeaa
