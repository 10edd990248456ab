/- 'SpecsOf' of the program and of the reference: the descriptions of sectors that were found. -/
import Derived.Test.YtdnkjbgfaniafaaFounds
import Derived.Test.YtdnkjbgfaniafaaWr
import Derived.StillTailTactics
namespace Go.Proofs.Ytdnkjbgfaniafaa
open Go.ChangeShapes Go.WideShapes Go.ChangeAt Go.RowKit
set_option linter.unusedVariables false
set_option linter.unusedSimpArgs false
set_option maxRecDepth 4000

def badSt (r : FndR) : Bool := r.t == 2 || r.t == 4
def FndR.spec (r : FndR) : SecR := ⟨r.c, r.h, r.n, r.s, r.d, r.l, false, r.t == 3⟩
def specsTo (l : List FndR) (k : Nat) : List SecR := (l.take k).map FndR.spec
def specsR (l : List FndR) : List SecR × Int :=
  if okFnds l = false then ([], 1) else if l.any badSt = true then ([], 10) else if 8 < l.length then ([], 5) else (l.map FndR.spec, 0)
theorem specsR_len (l : List FndR) : (specsR l).1.length ≤ 8 := by
  unfold specsR
  split
  · exact Nat.zero_le _
  · split
    · exact Nat.zero_le _
    · split
      · exact Nat.zero_le _
      · show (l.map FndR.spec).length ≤ 8
        rw [List.length_map]
        omega
theorem specs_inv {l : List FndR} (h : okFnds l = false) : specsR l = ([], 1) := if_pos h
theorem specs_bad {l : List FndR} {k : Nat} {m : FndR} (hv : okFnds l = true) (h : l[k]? = some m) (hb : badSt m = true) : specsR l = ([], 10) := by
  unfold specsR
  rw [if_neg (by rw [hv]; decide), if_pos (List.any_eq_true.2 ⟨m, List.mem_of_getElem? h, hb⟩)]
theorem specs_none {l : List FndR} {n : Nat} (hl : l.length = n) (ha : ∀ j m, j < n → l[j]? = some m → badSt m = false) : l.any badSt = false := by
  rw [List.any_eq_false]
  intro m hm
  obtain ⟨j, hj, hx⟩ := List.getElem_of_mem hm
  rw [ha j m (by omega) (by rw [List.getElem?_eq_getElem hj, hx])]
  decide
theorem specs_full {l : List FndR} {n : Nat} (hv : okFnds l = true) (hl : l.length = n) (ha : ∀ j m, j < n → l[j]? = some m → badSt m = false) (h : 8 < n) : specsR l = ([], 5) := by
  unfold specsR
  rw [if_neg (by rw [hv]; decide), if_neg (by rw [specs_none hl ha]; decide), if_pos (by omega)]
theorem specs_done {l : List FndR} {n : Nat} (hv : okFnds l = true) (hl : l.length = n) (ha : ∀ j m, j < n → l[j]? = some m → badSt m = false) (h : ¬ 8 < n) : specsR l = (specsTo l n, 0) := by
  unfold specsR specsTo
  rw [if_neg (by rw [hv]; decide), if_neg (by rw [specs_none hl ha]; decide), if_neg (by omega), List.take_of_length_le (by omega)]
theorem bad_next {l : List FndR} {k : Nat} (h : ∀ j m, j < k → l[j]? = some m → badSt m = false) {m : FndR} (hm : l[k]? = some m) (hv : badSt m = false) : ∀ j m, j < k + 1 → l[j]? = some m → badSt m = false := fun j x hj hx => by
  rcases Nat.lt_or_ge j k with h1 | h1
  · exact h j x h1 hx
  · obtain rfl : j = k := by omega
    rw [hm] at hx
    injection hx with hx
    rw [← hx]
    exact hv
theorem specsTo_next {l : List FndR} {k : Nat} {m : FndR} (h : l[k]? = some m) : specsTo l (k + 1) = specsTo l k ++ [m.spec] := by
  unfold specsTo
  rw [take_snoc l k m h, List.map_append]
  rfl
theorem specsTo_len (l : List FndR) (k : Nat) : (specsTo l k).length ≤ k := by
  unfold specsTo
  rw [List.length_map, List.length_take]
  omega
theorem specsTo_all {l : List FndR} {n : Nat} (h : l.length = n) : (specsTo l n).length = n := by
  unfold specsTo
  rw [List.length_map, List.length_take]
  omega
theorem spec_cells {l : List SecR} {m : FndR} {c h n s : Int} {d : ByteArray} {x b3 : Bool} (e0 : m.c = c) (e1 : m.h = h) (e2 : m.n = n) (e3 : m.s = s) (e4 : m.d = d) (e5 : m.l = x) (e6 : (m.t == 3) = b3) :
    l.flatMap SecR.cells ++ [.int .i64 c, .int .i64 h, .int .i64 n, .int .i64 s, .string d, .bool x, .bool false, .bool b3] = (l ++ [m.spec]).flatMap SecR.cells := by
  subst e0 e1 e2 e3 e4 e5 e6
  exact (flat_snoc l m.spec).symm
theorem cells8 {w : World} {g : Nat} {a0 a1 a2 a3 a4 a5 a6 a7 : Value} {t : TypeId} (hg : g = w.heap.size) : ∀ j u, ([a0, a1, a2, a3, a4, a5, a6, a7] : List Value)[j]? = some u → (w.alloc (.cells #[a0, a1, a2, a3, a4, a5, a6, a7] t)).cell? ((⟨g, 0, none⟩ : Addr).add j) = some u := fun j u hu => by
  subst hg
  rw [addr_add, Nat.zero_add]
  exact Box.new w [a0, a1, a2, a3, a4, a5, a6, a7] t j u hu
theorem ret_specs {v : Value} {c d : Int} (h : c = d) : Ending.returned (.tuple #[v, .int .i64 c]) = .returned (.tuple #[v, .int .i64 d]) := by rw [h]
set_option maxHeartbeats 4000000 in
theorem impl_SpecsOf {v : Value} {n b0 : Nat} {l : List FndR} (w : World) (h : w.ownsRow b0 90 8 v n (l.flatMap FndR.cells)) (hd : ∀ x ∈ l, x.d.size ≤ 1048576) (hn2 : n ≤ 1048576) :
    Calls Try.prog 22 #[v] w fun e w' => ∃ v', e = .returned (.tuple #[v', .int .i64 (specsR l).2]) ∧ w'.ownsRow w.heap.size 92 8 v' (specsR l).1.length ((specsR l).1.flatMap SecR.cells) ∧ Below w.heap.size w w' := by
  obtain ⟨i0, hti, hz0, hz1, hz2⟩ := info_parts Try.info_SectorSpec
  have HVF := Hid.in_ (impl_validFounds w h hd)
  obtain ⟨A, c, rfl, hl, hn, hA⟩ := own_shape h
  have HL : Hid (l.length = n) := by rw [flat_len FndR.len] at hl; unfold Hid; omega
  have H1 := Hid.in_ hA
  clear hA hl h hd
  cases hv : okFnds l
  · rw [hv] at HVF
    have HV := Hid.in_ (specs_inv hv)
    clear hv
    go_enter Try.func22, Try.ntmps22
    go_wp2_with fail
    refine HVF.out.mono ?_
    rintro e w1 ⟨rfl, hb1⟩
    go_wp2
    go_ret2
    rw [HV.out]
    exact ⟨_, rfl, World.ownsRow_nil _ _ _ _, hb1⟩
  · rw [hv] at HVF
    have HVV := Hid.in_ hv
    clear hv
    go_enter Try.func22, Try.ntmps22
    go_wp2_with fail
    refine HVF.out.mono ?_
    rintro e w1 ⟨rfl, hb1⟩
    have HB1 := Hid.in_ hb1
    clear hb1 HVF
    go_wp2_with fail
    go_loopg [4, 12] n (fun m v i wr => ∃ k : Nat, k + m = n ∧ i = .int .i64 k ∧ Hid (wr.ownsRow w.heap.size 92 8 v (specsTo l k).length ((specsTo l k).flatMap SecR.cells)) ∧ Hid (∀ j m, j < k → l[j]? = some m → badSt m = false) ∧ Hid (Below w.heap.size w wr))
    case atStart => exact ⟨0, by omega, rfl, World.ownsRow_nil _ _ _ _, fun j m hj => by omega, HB1.out⟩
    case round =>
      clear HB1
      obtain ⟨k, hkm, rfl, HI, HA, HB⟩ := hrel
      have HK := Hid.in_ hkm
      clear hkm
      by_cases hlt : k < n
      · obtain ⟨g1, rfl, _, hg1, hx1, _⟩ := H1.out (by omega)
        obtain ⟨m, hm⟩ := get_lt l k (by rw [HL.out]; exact hlt)
        obtain ⟨x0, x1, x2, x3, x4, x5, x6, x7⟩ := boxAt8 ((Box.elem FndR.len hx1 hm).step HB.out)
        have HM := Hid.in_ hm
        have HLL := Hid.in_ (specsTo_len l k)
        obtain ⟨t, ht⟩ : ∃ t, m.t = t := ⟨_, rfl⟩
        rw [ht] at x5
        have HBS := Hid.in_ (show badSt m = (t == 2 || t == 4) by unfold badSt; rw [ht])
        have HTT := Hid.in_ ht
        clear hx1 hm ht
        by_cases h2 : t = 2
        · subst h2
          have HV := Hid.in_ (specs_bad HVV.out HM.out (by rw [HBS.out]; rfl))
          go_wp2
          go_ret2
          rw [HV.out]
          exact ⟨_, rfl, World.ownsRow_nil _ _ _ _, balloc HB.out _⟩
        · by_cases h4 : t = 4
          · subst h4
            have HV := Hid.in_ (specs_bad HVV.out HM.out (by rw [HBS.out]; rfl))
            go_wp2
            go_ret2
            rw [HV.out]
            exact ⟨_, rfl, World.ownsRow_nil _ _ _ _, balloc HB.out _⟩
          · have HQ := Hid.in_ (bad_next HA.out HM.out (by rw [HBS.out]; simp [h2, h4]))
            have e2 : (t == 2) = false := by simp [h2]
            have e4 : (t == 4) = false := by simp [h4]
            obtain ⟨b3, hb3⟩ : ∃ b3 : Bool, (t == 3) = b3 := ⟨_, rfl⟩
            obtain ⟨c0, hc0⟩ : ∃ c, m.c = c := ⟨_, rfl⟩
            obtain ⟨c1, hc1⟩ : ∃ c, m.h = c := ⟨_, rfl⟩
            obtain ⟨c2, hc2⟩ : ∃ c, m.n = c := ⟨_, rfl⟩
            obtain ⟨c3, hc3⟩ : ∃ c, m.s = c := ⟨_, rfl⟩
            obtain ⟨c4, hc4⟩ : ∃ c, m.d = c := ⟨_, rfl⟩
            obtain ⟨c5, hc5⟩ : ∃ c, m.l = c := ⟨_, rfl⟩
            have HSC := Hid.in_ (spec_cells (l := specsTo l k) hc0 hc1 hc2 hc3 hc4 hc5 (show (m.t == 3) = b3 by rw [HTT.out, hb3]))
            have HSN := Hid.in_ (specsTo_next HM.out)
            rw [hc0] at x0
            rw [hc1] at x1
            rw [hc2] at x2
            rw [hc3] at x3
            rw [hc4] at x4
            rw [hc5] at x6
            clear hc0 hc1 hc2 hc3 hc4 hc5
            go_wp2_with (at_builtin; refine wpList_append_own _ rfl _ _ 36 rfl w.heap.size 92 i0 (.agg #[.int .i64 0, .int .i64 0, .int .i64 0, .int .i64 0, .string ByteArray.empty, .bool false, .bool false, .bool false]) 8 56 Try.underlying36 hti hz0 hz1 hz2 rfl (by decide) _ _ _ rfl ((HI.out.alloc _).alloc _) ⟨wr.heap.size + 1, 0, none⟩ 1 1 [.int .i64 c0, .int .i64 c1, .int .i64 c2, .int .i64 c3, .string c4, .bool c5, .bool false, .bool b3] rfl rfl (cells8 (by simp)) (fun x hx => by simp at hx; rcases hx with rfl | rfl | rfl | rfl | rfl | rfl | rfl | rfl <;> rfl) (by have := HLL.out; unfold maxLen; omega) (by have := HLL.out; omega) (balloc (balloc HB.out _) _).size ?_; intro v6 w6 ho6 hg6 _)
            have HB6 := Hid.in_ (bgrown (balloc (balloc HB.out _) _) ((HI.out.alloc _).alloc _) (Nat.le_refl _) hg6)
            have HO6 := Hid.in_ (show w6.ownsRow w.heap.size 92 8 v6 (specsTo l (k + 1)).length ((specsTo l (k + 1)).flatMap SecR.cells) by rw [HSN.out, List.length_append, ← HSC.out]; exact ho6)
            clear ho6 hg6
            have hk := HK.out
            go_roundg (gk - 1)
            case measure => omega
            case rel => exact ⟨k + 1, by omega, by go_num, HO6, HQ, HB6⟩
      · have hk := HK.out
        obtain rfl : k = n := by omega
        have HN := Hid.in_ (specsTo_all HL.out)
        by_cases h8 : 8 < k
        · have HV := Hid.in_ (specs_full HVV.out HL.out HA.out h8)
          obtain ⟨A4, c4, rfl, _, _, _⟩ := own_shape HI.out
          have hN := HN.out
          go_wp2
          go_ret2
          rw [HV.out]
          exact ⟨_, rfl, World.ownsRow_nil _ _ _ _, HB.out⟩
        · have HV := Hid.in_ (specs_done HVV.out HL.out HA.out h8)
          obtain ⟨A4, c4, rfl, _, _, _⟩ := own_shape HI.out
          have hN := HN.out
          go_wp2
          go_ret2
          rw [HV.out]
          exact ⟨_, rfl, HI.out, HB.out⟩
set_option maxHeartbeats 4000000 in
theorem spec_l09Spec (m : FndR) (g o : Nat) (w : World) (hB : BoxAt w g o m.cells) (hg : g < w.heap.size) :
    Calls Try.prog 65 #[.pointer (some ⟨g, o, none⟩)] w fun e w' => e = .returned (.agg m.spec.cells.toArray) ∧ Below w.heap.size w w' := by
  have hWr := Wr.new w [.int .i64 0, .int .i64 0, .int .i64 0, .int .i64 0, .string ByteArray.empty, .bool false, .bool false, .bool false] 92
  have hB0 := balloc (Below.refl _ w) (.cells #[.int .i64 0, .int .i64 0, .int .i64 0, .int .i64 0, .string ByteArray.empty, .bool false, .bool false, .bool false] 92)
  have hBX := hB.step hB0
  change Wr (w.alloc (.cells #[.int .i64 0, .int .i64 0, .int .i64 0, .int .i64 0, .string ByteArray.empty, .bool false, .bool false, .bool false] 92)) w.heap.size _ at hWr
  obtain ⟨b3, hb3⟩ : ∃ b3 : Bool, (m.t == 3) = b3 := ⟨_, rfl⟩
  have HE := Hid.in_ (show m.spec.cells = [.int .i64 m.c, .int .i64 m.h, .int .i64 m.n, .int .i64 m.s, .string m.d, .bool m.l, .bool false, .bool b3] by rw [← hb3]; rfl)
  go_enter Try.func65, Try.ntmps65
  go_wp2_with fail
  have hE : (⟨#[]⟩ : ByteArray) = ByteArray.empty := rfl
  rw [hE]
  generalize w.alloc (.cells #[.int .i64 0, .int .i64 0, .int .i64 0, .int .i64 0, .string ByteArray.empty, .bool false, .bool false, .bool false] 92) = w1 at *
  obtain ⟨g1, hg1⟩ : ∃ g1, w.heap.size = g1 := ⟨_, rfl⟩
  rw [hg1] at hWr ⊢
  obtain ⟨x0, x1, x2, x3, x4, x5, x6, x7⟩ := boxAt8 hBX
  obtain ⟨⟨y0, y1, y2, y3, y4, y5, y6, y7⟩, f0, f1, f2, f3, f4, f5, f6, f7⟩ := wr8 hWr.drew
  have HB0 := Hid.in_ (show Below w.heap.size w w1.drew from hB0.drew)
  have HWR := Hid.in_ hWr.drew
  clear hWr hB0 hBX hB hE
  go_still_tail 30, (by kernel_rfl)
  change wpList _ _ _ _ _ w1.drew
  generalize w1.drew = w2 at *
  have hW := HWR.out.put8 (.int .i64 m.c) (.int .i64 m.h) (.int .i64 m.n) (.int .i64 m.s) (.string m.d) (.bool m.l) (.bool false) (.bool b3)
  obtain ⟨⟨d0, d1, d2, d3, d4, d5, d6, d7⟩, _⟩ := wr8 hW
  have HB := Hid.in_ (below_put8 HB0.out (b := g1) (by omega) (.int .i64 m.c) (.int .i64 m.h) (.int .i64 m.n) (.int .i64 m.s) (.string m.d) (.bool m.l) (.bool false) (.bool b3))
  clear hW
  go_wp2
  (try simp only [Exit.inBlock, Exit.then])
  refine bodyPost_ret ?_ rfl ⟨show Ending.returned (.agg #[.int .i64 m.c, .int .i64 m.h, .int .i64 m.n, .int .i64 m.s, .string m.d, .bool m.l, .bool false, .bool b3]) = _ by rw [HE.out], HB.out⟩
  simp [results, Try.results65, go_sem, d0, d1, d2, d3, d4, d5, d6, d7]
set_option maxHeartbeats 4000000 in
theorem spec_SpecsOf {v : Value} {n b0 : Nat} {l : List FndR} (w : World) (h : w.ownsRow b0 90 8 v n (l.flatMap FndR.cells)) (hd : ∀ x ∈ l, x.d.size ≤ 1048576) (hn2 : n ≤ 1048576) :
    Calls Try.prog 20 #[v] w fun e w' => ∃ v', e = .returned (.tuple #[v', .int .i64 (specsR l).2]) ∧ w'.ownsRow w.heap.size 92 8 v' (specsR l).1.length ((specsR l).1.flatMap SecR.cells) ∧ Below w.heap.size w w' := by
  obtain ⟨i0, hti, hz0, hz1, hz2⟩ := info_parts Try.info_SectorSpec
  have HVF := Hid.in_ (spec_l09List w h hd)
  obtain ⟨A, c, rfl, hl, hn, hA⟩ := own_shape h
  have HL : Hid (l.length = n) := by rw [flat_len FndR.len] at hl; unfold Hid; omega
  have H1 := Hid.in_ hA
  clear hA hl h hd
  cases hv : okFnds l
  · rw [hv] at HVF
    have HV := Hid.in_ (specs_inv hv)
    clear hv
    go_enter Try.func20, Try.ntmps20
    go_wp2_with fail
    refine HVF.out.mono ?_
    rintro e w1 ⟨rfl, hb1⟩
    go_wp2
    go_ret2
    rw [HV.out]
    exact ⟨_, rfl, World.ownsRow_nil _ _ _ _, hb1⟩
  · rw [hv] at HVF
    have HVV := Hid.in_ hv
    clear hv
    go_enter Try.func20, Try.ntmps20
    go_wp2_with fail
    refine HVF.out.mono ?_
    rintro e w1 ⟨rfl, hb1⟩
    have HB1 := Hid.in_ hb1
    clear hb1 HVF
    go_wp2_with fail
    go_loopg [4, 5] n (fun m v i wr => ∃ k : Nat, k + m = n ∧ i = .int .i64 k ∧ Hid (wr.ownsRow w.heap.size 92 8 v (specsTo l k).length ((specsTo l k).flatMap SecR.cells)) ∧ Hid (∀ j m, j < k → l[j]? = some m → badSt m = false) ∧ Hid (Below w.heap.size w wr))
    case atStart => exact ⟨0, by omega, rfl, (World.ownsRow_lit w1 #[] 0 HB1.out.size (by decide) (by decide)), fun j m hj => by omega, balloc HB1.out _⟩
    case round =>
      clear HB1
      obtain ⟨k, hkm, rfl, HI, HA, HB⟩ := hrel
      have HK := Hid.in_ hkm
      clear hkm
      by_cases hlt : k < n
      · obtain ⟨g1, rfl, _, hg1, hx1, _⟩ := H1.out (by omega)
        obtain ⟨m, hm⟩ := get_lt l k (by rw [HL.out]; exact hlt)
        obtain ⟨x0, x1, x2, x3, x4, x5, x6, x7⟩ := boxAt8 ((Box.elem FndR.len hx1 hm).step HB.out)
        have HM := Hid.in_ hm
        have HX := Hid.in_ hx1
        have HLL := Hid.in_ (specsTo_len l k)
        obtain ⟨t, ht⟩ : ∃ t, m.t = t := ⟨_, rfl⟩
        rw [ht] at x5
        have HBS := Hid.in_ (show badSt m = (t == 2 || t == 4) by unfold badSt; rw [ht])
        have HTT := Hid.in_ ht
        clear hx1 hm ht
        by_cases h2 : t = 2
        · subst h2
          have HV := Hid.in_ (specs_bad HVV.out HM.out (by rw [HBS.out]; rfl))
          go_wp2
          go_ret2
          rw [HV.out]
          exact ⟨_, rfl, World.ownsRow_nil _ _ _ _, HB.out⟩
        · by_cases h4 : t = 4
          · subst h4
            have HV := Hid.in_ (specs_bad HVV.out HM.out (by rw [HBS.out]; rfl))
            go_wp2
            go_ret2
            rw [HV.out]
            exact ⟨_, rfl, World.ownsRow_nil _ _ _ _, HB.out⟩
          · have HQ := Hid.in_ (bad_next HA.out HM.out (by rw [HBS.out]; simp [h2, h4]))
            have e2 : (t == 2) = false := by simp [h2]
            have e4 : (t == 4) = false := by simp [h4]
            have HSN := Hid.in_ (specsTo_next HM.out)
            clear x0 x1 x2 x3 x4 x6 x7
            have HMB := Hid.in_ ((Box.elem FndR.len HX.out HM.out).step HB.out)
            have HGL := Hid.in_ (show g1 < wr.heap.size from Nat.lt_of_lt_of_le hg1 HB.out.size)
            go_wp2_with fail
            refine (spec_l09Spec m g1 (k * 8) _ HMB.out HGL.out).mono ?_
            rintro e w5 ⟨rfl, hb5⟩
            have HB5 := Hid.in_ (bstep HB.out hb5)
            have HI5 := Hid.in_ (ostep hb5 HI.out)
            have HSC := Hid.in_ (show m.spec.cells = [.int .i64 m.c, .int .i64 m.h, .int .i64 m.n, .int .i64 m.s, .string m.d, .bool m.l, .bool false, .bool (m.t == 3)] from rfl)
            clear hb5 x5
            rw [HSC.out]
            go_wp2_with (at_builtin; refine wpList_append_own _ rfl _ _ 36 rfl w.heap.size 92 i0 (.agg #[.int .i64 0, .int .i64 0, .int .i64 0, .int .i64 0, .string ByteArray.empty, .bool false, .bool false, .bool false]) 8 56 Try.underlying36 hti hz0 hz1 hz2 rfl (by decide) _ _ _ rfl (HI5.out.alloc _) ⟨w5.heap.size, 0, none⟩ 1 1 [.int .i64 m.c, .int .i64 m.h, .int .i64 m.n, .int .i64 m.s, .string m.d, .bool m.l, .bool false, .bool (m.t == 3)] rfl rfl (cells8 rfl) (fun x hx => by simp at hx; rcases hx with rfl | rfl | rfl | rfl | rfl | rfl | rfl | rfl <;> rfl) (by have := HLL.out; unfold maxLen; omega) (by have := HLL.out; omega) (balloc HB5.out _).size ?_; intro v6 w6 ho6 hg6 _)
            have HB6 := Hid.in_ (bgrown (balloc HB5.out _) (HI5.out.alloc _) (Nat.le_refl _) hg6)
            have HO6 := Hid.in_ (show w6.ownsRow w.heap.size 92 8 v6 (specsTo l (k + 1)).length ((specsTo l (k + 1)).flatMap SecR.cells) by rw [HSN.out, List.length_append, flat_snoc, HSC.out]; exact ho6)
            clear ho6 hg6
            have hk := HK.out
            go_roundg (gk - 1)
            case measure => omega
            case rel => exact ⟨k + 1, by omega, by go_num, HO6, HQ, HB6⟩
      · have hk := HK.out
        obtain rfl : k = n := by omega
        have HN := Hid.in_ (specsTo_all HL.out)
        by_cases h8 : 8 < k
        · have HV := Hid.in_ (specs_full HVV.out HL.out HA.out h8)
          obtain ⟨A4, c4, rfl, _, _, _⟩ := own_shape HI.out
          have hN := HN.out
          go_wp2
          go_ret2
          rw [HV.out]
          exact ⟨_, rfl, World.ownsRow_nil _ _ _ _, HB.out⟩
        · have HV := Hid.in_ (specs_done HVV.out HL.out HA.out h8)
          obtain ⟨A4, c4, rfl, _, _, _⟩ := own_shape HI.out
          have hN := HN.out
          go_wp2
          go_ret2
          rw [HV.out]
          exact ⟨_, rfl, HI.out, HB.out⟩
end Go.Proofs.Ytdnkjbgfaniafaa
