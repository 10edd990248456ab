/- 'l11Features' of the reference: the features of sectors. -/
import Derived.Test.YtdnkjbgfaniafaaFeats
import Derived.Deep.DeepCutAuto
namespace Go.Proofs.Ytdnkjbgfaniafaa
open Go.ChangeShapes Go.WideShapes Go.ChangeAt Go.RowKit
set_option linter.unusedVariables false
set_option linter.unusedSimpArgs false
set_option maxRecDepth 4000

theorem len_push {M : List FeatR} {N : Nat} (h : M.length ≤ N) (b : Bool) (x : FeatR) : (M ++ (if b = true then [x] else [])).length ≤ N + 1 := by
  rw [List.length_append]
  cases b <;> simp <;> omega

set_option maxHeartbeats 16000000 in
theorem spec_l11Features {v : Value} {n b0 : Nat} {l : List FndR} (cy hd : Int) (w : World) (h : w.ownsRow b0 90 8 v n (l.flatMap FndR.cells)) (hn2 : n ≤ 1048576) :
    Calls Try.prog 82 #[v, .int .i64 cy, .int .i64 hd] w fun e w' => ∃ v', e = .returned v' ∧ w'.ownsRow w.heap.size 115 3 v' (featsTo l cy hd n).length ((featsTo l cy hd n).flatMap FeatR.cells) ∧ Below w.heap.size w w' := by
  obtain ⟨i0, hti, hz0, hz1, hz2⟩ := info_parts Try.info_Feature
  obtain ⟨A, c, rfl, hl, hn, hA⟩ := own_shape h
  have HL : Hid (l.length = n) := by rw [flat_len FndR.len] at hl; unfold Hid; omega
  have H1 := Hid.in_ hA
  clear hA hl h
  go_enter Try.func82, Try.ntmps82
  go_wp2
  go_loopg [7, 8] n (fun m v i wr => ∃ k : Nat, k + m = n ∧ i = .int .i64 k ∧ Hid (wr.ownsRow w.heap.size 115 3 v (featsTo l cy hd k).length ((featsTo l cy hd k).flatMap FeatR.cells)) ∧ Hid (Below w.heap.size w wr))
  case atStart => exact ⟨0, by omega, rfl, World.ownsRow_lit w #[] 0 (Nat.le_refl _) (by decide) (by decide), balloc (Below.refl _ _) _⟩
  case round =>
    obtain ⟨k, hkm, rfl, HI, HB⟩ := hrel
    have HK := Hid.in_ hkm
    clear hkm
    by_cases hlt : k < n
    · obtain ⟨g1, rfl, _, hg1, hx1, _⟩ := H1.out (by omega)
      obtain ⟨m, hm⟩ := get_lt l k (by rw [HL.out]; exact hlt)
      obtain ⟨x0, x1, x2, x3, x4, x5, x6, x7⟩ := boxAt8 ((Box.elem FndR.len hx1 hm).step HB.out)
      have HX := Hid.in_ hx1
      have HM := Hid.in_ (fndAt_eq hm)
      have HLL := Hid.in_ (featsTo_len l cy hd k)
      have HNN := Hid.in_ (show featsTo l cy hd (k + 1) = featsTo l cy hd k ++ featsAt l cy hd k from rfl)
      obtain ⟨r, hr⟩ : ∃ r, wr.heap.size = r := ⟨_, rfl⟩
      have HS0 := Hid.in_ (show SSt w (wr.alloc (.cells m.cells.toArray 90)) _ r m (featsTo l cy hd k) from ⟨ostep (balloc (Below.refl _ _) _) HI.out, by rw [← hr]; exact Box.new wr m.cells 90, by rw [← hr]; simp, by
        intro e
        have := (HI.out.lt _ e).2
        omega, balloc HB.out _⟩)
      obtain ⟨mc, mh, mn, ms, md, mt, ml, mp⟩ := m
      have HS := HS0
      obtain ⟨y0, y1, y2, y3, y4, y5, y6, y7⟩ := box8 HS.out.box
      cases e2 : (mt == 2)
      case true =>
        have HFA := Hid.in_ (featsAt_2 (cy := cy) (hd := hd) HM.out e2)
        go_wp2_with (at_builtin; refine wpList_append_lies _ rfl _ _ 68 rfl w.heap.size 115 i0 (.agg #[.int .i64 0, .int .i64 0, .int .i64 0]) 3 24 Try.underlying68 hti hz0 hz1 hz2 rfl (by decide) _ _ _ rfl (HS.out.alloc _).row ⟨_, 0, none⟩ 1 1 [_, _, _] rfl rfl (cells3a (by first | rfl | (simp; done) | (simp; omega))) (fun x hx => by simp at hx; rcases hx with rfl | rfl | rfl <;> rfl) (by decide) (by have := HLL.out; (try simp only [List.length_append, List.length_cons, List.length_nil]); unfold maxLen; omega) (by have := HLL.out; (try simp only [List.length_append, List.length_cons, List.length_nil]); omega) (HS.out.alloc _).below.size _ rfl ?_; intro g6 cp6 w6 ho6 hg6 hat6 hlt6; have HS := Hid.in_ ((HS.out.alloc _).push ho6 hg6 hat6); clear ho6 hg6 hat6 hlt6; obtain ⟨y0, y1, y2, y3, y4, y5, y6, y7⟩ := box8 HS.out.box)
        have hk := HK.out
        go_roundg (gk - 1)
        case measure => omega
        case rel => exact ⟨k + 1, by omega, by go_num, (HS.out.cast (by rw [HNN.out, HFA.out])).row, HS.out.below⟩
      case false =>
        obtain ⟨i, hi⟩ : ∃ i, firstOf l k = i := ⟨_, rfl⟩
        obtain ⟨bi, ei⟩ : ∃ b : Bool, decide (i < k) = b := ⟨_, rfl⟩
        obtain ⟨bc, ec⟩ : ∃ b : Bool, (mc != cy) = b := ⟨_, rfl⟩
        obtain ⟨bh, eh⟩ : ∃ b : Bool, (mh != hd) = b := ⟨_, rfl⟩
        obtain ⟨b3, e3⟩ : ∃ b : Bool, (mt == 3) = b := ⟨_, rfl⟩
        obtain ⟨b4, e4⟩ : ∃ b : Bool, (mt == 4) = b := ⟨_, rfl⟩
        have HFA := Hid.in_ (featsAt_n (cy := cy) (hd := hd) HM.out e2 hi ei ec eh e3 e4 rfl)
        have h34 : b3 = true → b4 = true → False := fun h3 h4 => by subst h3; subst h4; simp at e3 e4; omega
        have HFI := Hid.in_ (fun (w1 : World) (hb : Below w.heap.size w w1) => spec_l11First (n := n) (c := c) k w1 (HX.out.step hb) HL.out hlt (by omega))
        rw [hi] at HFI
        have hiq : i < k → (i : Int) < (k : Int) := fun h => by omega
        have hib : decide ((i : Int) < (k : Int)) = bi := by rw [← ei]; congr 1; exact propext ⟨fun h => by omega, fun h => by omega⟩
        clear hi hiq HX
        go_wp2_with fail
        refine (HFI.out _ HS.out.below).mono ?_
        rintro e w5 ⟨rfl, hb5⟩
        have HS := Hid.in_ (HS.out.step hb5)
        clear hb5 x0 x1 x2 x3 x4 x5 x6 x7 y0 y1 y2 y3 y4 y5 y6 y7
        go_upto_if 37 with fail
        go_cut [7] (fun v wx => Hid (SSt w wx v r ⟨mc, mh, mn, ms, md, mt, ml, mp⟩ (featsTo l cy hd k ++ (if bi = true then [⟨1, (k : Int), (i : Int)⟩] else []))))
        case first =>
          cases bi
          all_goals
            go_wp2_with (at_builtin; refine wpList_append_lies _ rfl _ _ 68 rfl w.heap.size 115 i0 (.agg #[.int .i64 0, .int .i64 0, .int .i64 0]) 3 24 Try.underlying68 hti hz0 hz1 hz2 rfl (by decide) _ _ _ rfl (HS.out.alloc _).row ⟨_, 0, none⟩ 1 1 [_, _, _] rfl rfl (cells3a (by first | rfl | (simp; done) | (simp; omega))) (fun x hx => by simp at hx; rcases hx with rfl | rfl | rfl <;> rfl) (by decide) (by have := HLL.out; (try simp only [List.length_append, List.length_cons, List.length_nil]); unfold maxLen; omega) (by have := HLL.out; (try simp only [List.length_append, List.length_cons, List.length_nil]); omega) (HS.out.alloc _).below.size _ rfl ?_; intro g6 cp6 w6 ho6 hg6 hat6 hlt6; have HS := Hid.in_ ((HS.out.alloc _).push ho6 hg6 hat6); clear ho6 hg6 hat6 hlt6; obtain ⟨y0, y1, y2, y3, y4, y5, y6, y7⟩ := box8 HS.out.box)
            go_meet
            refine SSt.cast HS.out ?_
            simp
        case rest =>
          have HS := hcut
          have HLL := Hid.in_ (len_push HLL.out bi ⟨1, (k : Int), (i : Int)⟩)
          generalize hL1 : featsTo l cy hd k ++ (if bi = true then [⟨1, (k : Int), (i : Int)⟩] else []) = L1 at HS HLL
          have HL1 := Hid.in_ hL1
          clear hcut hL1
          obtain ⟨y0, y1, y2, y3, y4, y5, y6, y7⟩ := box8 HS.out.box
          go_upto_region 12 with fail
          go_cut [53] (fun b wx => b = .bool (bc || bh) ∧ wx = wc)
          case first =>
            rcases bc <;> rcases bh
            all_goals
              go_wp2_with fail
              go_meet
              exact ⟨rfl, rfl⟩
          case rest =>
            obtain ⟨rfl, rfl⟩ := hcut
            generalize (bc || bh) = bf at *
            go_upto_if 53 with fail
            go_cut [7] (fun v wx => Hid (SSt w wx v r ⟨mc, mh, mn, ms, md, mt, ml, mp⟩ (L1 ++ (if bf = true then [⟨2, (k : Int), 0⟩] else []))))
            case first =>
              cases bf
              all_goals
                go_wp2_with (at_builtin; refine wpList_append_lies _ rfl _ _ 68 rfl w.heap.size 115 i0 (.agg #[.int .i64 0, .int .i64 0, .int .i64 0]) 3 24 Try.underlying68 hti hz0 hz1 hz2 rfl (by decide) _ _ _ rfl (HS.out.alloc _).row ⟨_, 0, none⟩ 1 1 [_, _, _] rfl rfl (cells3a (by first | rfl | (simp; done) | (simp; omega))) (fun x hx => by simp at hx; rcases hx with rfl | rfl | rfl <;> rfl) (by decide) (by have := HLL.out; (try simp only [List.length_append, List.length_cons, List.length_nil]); unfold maxLen; omega) (by have := HLL.out; (try simp only [List.length_append, List.length_cons, List.length_nil]); omega) (HS.out.alloc _).below.size _ rfl ?_; intro g6 cp6 w6 ho6 hg6 hat6 hlt6; have HS := Hid.in_ ((HS.out.alloc _).push ho6 hg6 hat6); clear ho6 hg6 hat6 hlt6; obtain ⟨y0, y1, y2, y3, y4, y5, y6, y7⟩ := box8 HS.out.box)
                go_meet
                refine SSt.cast HS.out ?_
                simp
            case rest =>
              have HS := hcut
              have HLL := Hid.in_ (len_push HLL.out bf ⟨2, (k : Int), 0⟩)
              generalize hL2 : L1 ++ (if bf = true then [⟨2, (k : Int), 0⟩] else []) = L2 at HS HLL
              have HL2 := Hid.in_ hL2
              clear hcut hL2 y0 y1 y2 y3 y4 y5 y6 y7
              obtain ⟨y0, y1, y2, y3, y4, y5, y6, y7⟩ := box8 HS.out.box
              rcases b3 <;> rcases b4 <;> rcases ml
              all_goals first | (exact (h34 rfl rfl).elim) | skip
              all_goals
                clear h34
                go_wp2_with (at_builtin; refine wpList_append_lies _ rfl _ _ 68 rfl w.heap.size 115 i0 (.agg #[.int .i64 0, .int .i64 0, .int .i64 0]) 3 24 Try.underlying68 hti hz0 hz1 hz2 rfl (by decide) _ _ _ rfl (HS.out.alloc _).row ⟨_, 0, none⟩ 1 1 [_, _, _] rfl rfl (cells3a (by first | rfl | (simp; done) | (simp; omega))) (fun x hx => by simp at hx; rcases hx with rfl | rfl | rfl <;> rfl) (by decide) (by have := HLL.out; (try simp only [List.length_append, List.length_cons, List.length_nil]); unfold maxLen; omega) (by have := HLL.out; (try simp only [List.length_append, List.length_cons, List.length_nil]); omega) (HS.out.alloc _).below.size _ rfl ?_; intro g6 cp6 w6 ho6 hg6 hat6 hlt6; have HS := Hid.in_ ((HS.out.alloc _).push ho6 hg6 hat6); clear ho6 hg6 hat6 hlt6; obtain ⟨y0, y1, y2, y3, y4, y5, y6, y7⟩ := box8 HS.out.box)
                have hk := HK.out
                go_roundg (gk - 1)
                case measure => omega
                case rel =>
                  have hR := (HS.out.cast (show _ = featsTo l cy hd (k + 1) from by rw [HNN.out, HFA.out, ← HL2.out, ← HL1.out]; simp)).row
                  (try simp only [List.length_append, List.length_cons, List.length_nil] at hR)
                  exact ⟨k + 1, by omega, by go_num, hR, HS.out.below⟩
    · have hk := HK.out
      obtain rfl : k = n := by omega
      go_wp2
      go_ret
      exact ⟨_, rfl, HI.out, HB.out⟩
end Go.Proofs.Ytdnkjbgfaniafaa
