/- 'heldVotedS' of the laws. -/
import Derived.Test.YtlelgpknkgjaeaaVotMk
import Derived.Test.YtlelgpknkgjaeaaMkS
import Derived.Test.YtlelgpknkgjaeaaI64
namespace Go.Proofs.Ytlelgpknkgjaeaa
open Go.ChangeShapes Go.WideShapes Go.ChangeAt Go.RowKit
set_option linter.unusedSimpArgs false
set_option linter.unusedVariables false
set_option maxRecDepth 8000

set_option maxHeartbeats 8000000 in
theorem laws_heldVotedS {v : Value} {b n : Nat} {os : List VotO} {l : List VotR} (m : Nat) (w : World) (h : VRow w b v os) (hl : os.map VotO.r = mkTo m l n) (hn : l.length = n) (hm : 0 < m) (hm2 : m ≤ 16777216) (hn2 : n ≤ 1048576) (hs2 : sumTo l n ≤ 1048576) (hs3 : ∀ k, k ≤ n → sumTo l k ≤ sumTo l n) :
    Calls Try.prog 41 #[v, .int .i64 m] w fun e w' => e = .returned (.int .i64 (posAt m l n : Nat)) ∧ Below w.heap.size w w' := by
  have hno : os.length = n := by have := congrArg List.length hl; rw [List.length_map, mkTo_len m l (by omega)] at this; omega
  have HW := Hid.in_ h.weak
  obtain ⟨A, c, rfl, _, hcn, hA⟩ := own_shape h.row
  rw [hno] at hcn hA ⊢
  have H1 := Hid.in_ hA
  have HNO := Hid.in_ hno
  have HL := Hid.in_ hl
  have HX := Hid.in_ hn
  have HP := Hid.in_ (show ∀ k, k ≤ n → posAt m l k ≤ 33554432 from fun k hk => by have := hs3 k hk; unfold posAt; omega)
  clear h hl hno hn hs2 hs3 hA
  go_enter Try.func41, Try.ntmps41
  go_wp2
  go_loopg [1, 5] n (fun r m' i wr => ∃ k q : Nat, k + r = n ∧ Hid (q = posAt m l k) ∧ i = .int .i64 k ∧ m' = .int .i64 q ∧ Hid (Below w.heap.size w wr))
  case atStart => exact ⟨0, m, by omega, show m = posAt m l 0 by simp [posAt, sumTo], rfl, rfl, Below.refl _ _⟩
  case round =>
    obtain ⟨k, q, hkm, HQ, rfl, rfl, HB⟩ := hrel
    have HK := Hid.in_ hkm
    clear hkm
    by_cases hlt : k < n
    · obtain ⟨g, rfl, _, hg, hx, _⟩ := H1.out (by omega)
      obtain ⟨⟨r, ov⟩, hr⟩ := get_lt os k (by rw [HNO.out]; exact hlt)
      obtain ⟨r0, hr0⟩ := get_lt l k (by rw [HX.out]; exact hlt)
      have hrm : r = VotR.mark q r0.l.length := by
        have h1 := mkTo_got m l hlt
        rw [← HL.out, List.getElem?_map, hr] at h1
        injection h1 with h1
        rw [show r = mkVAt m l k from h1]
        unfold mkVAt
        rw [vAt_eq hr0, ← HQ.out]
      have hqb : q ≤ 33554432 := by rw [HQ.out]; exact HP.out k (by omega)
      have HPN := Hid.in_ (posAt_next (m := m) hr0)
      obtain ⟨N, hN⟩ : ∃ N, r0.l.length = N := ⟨_, rfl⟩
      rw [hN] at hrm HPN
      have hNb : N ≤ 33554432 := by have := HP.out (k + 1) (by omega); rw [HPN.out] at this; omega
      have hwk := ostep HB.out (HW.out _ (List.mem_of_getElem? hr))
      have hB := (Box.elem VotO.len hx hr).step HB.out
      subst hrm
      have hwk2 : wr.ownsRow b 2 1 ov N (I64 (marks ((q + 7 : Nat) : Int) N)) := by
        have := hwk
        change wr.ownsRow b 2 1 ov (marks ((q + 7 : Nat) : Int) N).length (I64 (marks ((q + 7 : Nat) : Int) N)) at this
        have hlm : (marks ((q + 7 : Nat) : Int) N).length = N := by have := this.1; rw [I64_len] at this; simp [marks]
        rw [hlm] at this
        exact this
      have HWK := Hid.in_ hwk2
      obtain ⟨A9, c9, rfl, _, _, _⟩ := own_shape hwk2
      obtain ⟨c0, c1, c2, c3, c4, c5, c6, c7, c8⟩ := boxAt9 hB
      simp only [VotR.mark] at c0 c1 c2 c3 c4 c5 c6 c7 c8
      have HM := Hid.in_ (fun w => show Calls Try.prog 48 #[.int .i64 ((q : Int) + 1 + 1 + 1 + 1)] w _ from laws_markText (q + 4) w (by omega) (by omega))
      obtain ⟨S, hS⟩ : ∃ S, markT (q + 4) = S := ⟨_, rfl⟩
      rw [hS] at HM c4
      obtain ⟨b6, hb6⟩ : ∃ b, mod3 (q + 6) = b := ⟨_, rfl⟩
      have e6 := mod3_at (q := q) (i := 6) (x := (q : Int) + 1 + 1 + 1 + 1 + 1 + 1) (by omega) hb6
      have c0 : wr.cell? _ = some (.int .i64 ((q : Int))) := c0
      have c1 : wr.cell? _ = some (.int .i64 ((q : Int) + 1)) := c1
      have c2 : wr.cell? _ = some (.int .i64 ((q : Int) + 1 + 1)) := c2
      have c3 : wr.cell? _ = some (.int .i64 ((q : Int) + 1 + 1 + 1)) := c3
      have c5 : wr.cell? _ = some (.int .i64 ((q : Int) + 1 + 1 + 1 + 1 + 1)) := c5
      rw [hb6] at c6
      have HC4 := Hid.in_ c4
      have HC5 := Hid.in_ c5
      have HC6 := Hid.in_ c6
      have HC7 := Hid.in_ c7
      have HC8 := Hid.in_ (show wr.cell? ⟨g, k * 9 + 8, none⟩ = some (.int .i64 ((q : Int) + 7 + N)) by rw [c8]; congr 2)
      clear hx hB hr hr0 hN hwk hwk2 hS hb6 c5 c6 c7 c8
      go_wp2_with fail
      go_region_with (go_at_call 48; refine (HM.out _).mono ?_; rintro e w2 ⟨rfl, hb2⟩; have hb2' := ((Below.refl wr.heap.size wr).drew).trans hb2; have c4 := cstep hb2' HC4.out)
      all_goals
        have d5 := cstep hb2' HC5.out
        have d6 := cstep hb2' HC6.out
        have d7 := cstep hb2' HC7.out
        have d8 := cstep hb2' HC8.out
        have HWK2 := Hid.in_ (show Calls Try.prog 16 #[.slice A9 N c9, .int .i64 ((q : Int) + 1 + 1 + 1 + 1 + 1 + 1 + 1)] w2 fun e w' => e = .returned (.int .i64 ((q : Int) + 7 + N)) ∧ w2 = w' from laws_heldInt64S ((q + 7 : Nat) : Int) w2 (ostep hb2' HWK.out) (by omega) (by omega) (by omega))
        go_wp2_with fail
        refine HWK2.out.mono ?_
        rintro e w3 ⟨rfl, rfl⟩
        go_wp2
        have hk := HK.out
        go_roundg (gk - 1)
        case measure => omega
        case rel => exact ⟨k + 1, q + 8 + N, by omega, Hid.in_ (by rw [HPN.out, ← HQ.out]), by go_num, by go_num, HB.out.trans (hb2'.mono HB.out.size)⟩
    · have hk := HK.out
      obtain rfl : k = n := by omega
      have HQ2 := HQ
      go_wp2
      go_ret
      exact ⟨show Ending.returned (.int .i64 ((q : Nat) : Int)) = _ by rw [HQ2.out], HB.out⟩
end Go.Proofs.Ytlelgpknkgjaeaa
