/- 'slices.Compact' over addresses: neighbours that are equal are struck. -/
import Derived.Test.YtlelgpknkgjaeaaMgC
import Derived.Test.YtlelgpknkgjaeaaSame
import Derived.Lib.SliceRun
namespace Go.Proofs.Ytlelgpknkgjaeaa
open Go.ChangeShapes Go.WideShapes Go.ChangeAt Go.RowKit
set_option linter.unusedSimpArgs false
set_option linter.unusedVariables false
set_option maxRecDepth 4000

theorem setCells_eq (g : Nat) : ∀ (vs : List Value) (o : Nat) (w : World), w.setCells g o vs = setCells w g o vs
  | [], _, _ => rfl
  | v :: vs, o, w => setCells_eq g vs (o + 1) _
theorem setL_take : ∀ (vs : List Value) (o j : Nat) (xs : List Value), j ≤ o → (setL xs o vs).take j = xs.take j
  | [], _, _, _, _ => rfl
  | v :: vs, o, j, xs, h => by
    show (setL (xs.set o v) (o + 1) vs).take j = _
    rw [setL_take vs (o + 1) j (xs.set o v) (by omega)]
    exact List.take_set_of_le h
theorem own_take {w : World} {b g n cap s m : Nat} {e : TypeId} {xs : List Value} (h : w.ownsRow b e s (.slice (some ⟨g, 0, none⟩) n cap) n xs) (hm : m ≤ n) : w.ownsRow b e s (.slice (some ⟨g, 0, none⟩) m cap) m (xs.take (m * s)) := by
  have hl := h.1
  rcases h.2 with ⟨e1, _⟩ | ⟨g1, cap1, cur, e1, hb, hg, hnc, hcm, hcs, ht⟩
  · cases e1
  · injection e1 with e1 e2 e3
    injection e1 with e1
    injection e1 with e1
    subst e1 e3
    have hms : m * s ≤ n * s := Nat.mul_le_mul_right s hm
    refine ⟨by rw [List.length_take]; omega, .inr ⟨g, cap, cur, rfl, hb, hg, by omega, hcm, hcs, ?_⟩⟩
    rw [← ht, List.take_take, Nat.min_eq_left hms]
theorem flat_take {α : Type} {f : α → List Value} {s : Nat} (hf : ∀ x, (f x).length = s) (l : List α) (m : Nat) : (l.flatMap f).take (m * s) = (l.take m).flatMap f := by
  by_cases hm : m ≤ l.length
  · have e : l.flatMap f = (l.take m).flatMap f ++ (l.drop m).flatMap f := by rw [← List.flatMap_append, List.take_append_drop]
    have hl : ((l.take m).flatMap f).length = m * s := by rw [flat_len hf, List.length_take, Nat.min_eq_left hm]
    rw [e, List.take_append_of_le_length (by omega), List.take_of_length_le (by omega)]
  · rw [List.take_of_length_le (l := l) (by omega), List.take_of_length_le]
    rw [flat_len hf]
    exact Nat.mul_le_mul_right s (by omega)
theorem Try.eql_AdrR (a b : AdrR) (w : World) : (binOp .eql 136 (.agg #[.int .i64 a.c, .int .i64 a.h, .int .i64 a.n, .int .i64 a.s]) (.agg #[.int .i64 b.c, .int .i64 b.h, .int .i64 b.n, .int .i64 b.s])).run Try.prog w = .ok (.bool ((a.c == b.c) && ((a.h == b.h) && ((a.n == b.n) && ((a.s == b.s) && true))))) w := by
  have hE : (Op.equalIn 10000 136 (.agg #[.int .i64 a.c, .int .i64 a.h, .int .i64 a.n, .int .i64 a.s]) (.agg #[.int .i64 b.c, .int .i64 b.h, .int .i64 b.n, .int .i64 b.s])).run Try.prog w = .ok ((a.c == b.c) && ((a.h == b.h) && ((a.n == b.n) && ((a.s == b.s) && true)))) w := by
    refine (run_equalIn_agg w 9999 136 _ _ (by kernel_rfl) (by kernel_rfl)).trans ?_
    simp only [Program.fieldsOf, Try.underlying136]
    refine eqF_step (by kernel_rfl) (by kernel_rfl) rfl rfl (run_equalIn_int w 9998 2 .i64 .i64 _ _ Try.underlying2) ?_
    refine eqF_step (by kernel_rfl) (by kernel_rfl) rfl rfl (run_equalIn_int w 9998 2 .i64 .i64 _ _ Try.underlying2) ?_
    refine eqF_step (by kernel_rfl) (by kernel_rfl) rfl rfl (run_equalIn_int w 9998 2 .i64 .i64 _ _ Try.underlying2) ?_
    refine eqF_step (by kernel_rfl) (by kernel_rfl) rfl rfl (run_equalIn_int w 9998 2 .i64 .i64 _ _ Try.underlying2) ?_
    rfl
  rw [run_eql_struct, hE]
  rfl
theorem Try.neq_AdrR (a b : AdrR) (w : World) : (binOp .neq 136 (.agg #[.int .i64 a.c, .int .i64 a.h, .int .i64 a.n, .int .i64 a.s]) (.agg #[.int .i64 b.c, .int .i64 b.h, .int .i64 b.n, .int .i64 b.s])).run Try.prog w = .ok (.bool (!((a.c == b.c) && ((a.h == b.h) && ((a.n == b.n) && ((a.s == b.s) && true)))))) w := by
  have hE : (Op.equalIn 10000 136 (.agg #[.int .i64 a.c, .int .i64 a.h, .int .i64 a.n, .int .i64 a.s]) (.agg #[.int .i64 b.c, .int .i64 b.h, .int .i64 b.n, .int .i64 b.s])).run Try.prog w = .ok ((a.c == b.c) && ((a.h == b.h) && ((a.n == b.n) && ((a.s == b.s) && true)))) w := by
    refine (run_equalIn_agg w 9999 136 _ _ (by kernel_rfl) (by kernel_rfl)).trans ?_
    simp only [Program.fieldsOf, Try.underlying136]
    refine eqF_step (by kernel_rfl) (by kernel_rfl) rfl rfl (run_equalIn_int w 9998 2 .i64 .i64 _ _ Try.underlying2) ?_
    refine eqF_step (by kernel_rfl) (by kernel_rfl) rfl rfl (run_equalIn_int w 9998 2 .i64 .i64 _ _ Try.underlying2) ?_
    refine eqF_step (by kernel_rfl) (by kernel_rfl) rfl rfl (run_equalIn_int w 9998 2 .i64 .i64 _ _ Try.underlying2) ?_
    refine eqF_step (by kernel_rfl) (by kernel_rfl) rfl rfl (run_equalIn_int w 9998 2 .i64 .i64 _ _ Try.underlying2) ?_
    rfl
  rw [run_neq_struct, hE]
  rfl
theorem Try.guard_AdrR (a b : AdrR) (op : BinOp) (x y : Operand) (w : World) : (eqGuard op 136 x y (.agg #[.int .i64 a.c, .int .i64 a.h, .int .i64 a.n, .int .i64 a.s]) (.agg #[.int .i64 b.c, .int .i64 b.h, .int .i64 b.n, .int .i64 b.s])).run Try.prog w = .ok () w := run_eqGuard_agg w op 136 x y _ _ (by kernel_rfl)
theorem eqA_beq (a b : AdrR) : ((a.c == b.c) && ((a.h == b.h) && ((a.n == b.n) && ((a.s == b.s) && true)))) = eqA a b := by
  unfold eqA
  cases e1 : (a.c == b.c) <;> cases e2 : (a.h == b.h) <;> cases e3 : (a.n == b.n) <;> cases e4 : (a.s == b.s) <;> simp_all
theorem eqA_no {a b : AdrR} (h : a ≠ b) : eqA a b = false := by
  cases e : eqA a b
  · rfl
  · exact absurd (eqA_yes e) h
theorem Try.eql_same (a : AdrR) (w : World) : (binOp .eql 136 (.agg #[.int .i64 a.c, .int .i64 a.h, .int .i64 a.n, .int .i64 a.s]) (.agg #[.int .i64 a.c, .int .i64 a.h, .int .i64 a.n, .int .i64 a.s])).run Try.prog w = .ok (.bool true) w := by
  rw [Try.eql_AdrR, eqA_beq, eqA_self]
theorem Try.eql_diff {a b : AdrR} (h : a ≠ b) (w : World) : (binOp .eql 136 (.agg #[.int .i64 a.c, .int .i64 a.h, .int .i64 a.n, .int .i64 a.s]) (.agg #[.int .i64 b.c, .int .i64 b.h, .int .i64 b.n, .int .i64 b.s])).run Try.prog w = .ok (.bool false) w := by
  rw [Try.eql_AdrR, eqA_beq, eqA_no h]
theorem Try.neq_same (a : AdrR) (w : World) : (binOp .neq 136 (.agg #[.int .i64 a.c, .int .i64 a.h, .int .i64 a.n, .int .i64 a.s]) (.agg #[.int .i64 a.c, .int .i64 a.h, .int .i64 a.n, .int .i64 a.s])).run Try.prog w = .ok (.bool false) w := by
  rw [Try.neq_AdrR, eqA_beq, eqA_self]; rfl
theorem Try.neq_diff {a b : AdrR} (h : a ≠ b) (w : World) : (binOp .neq 136 (.agg #[.int .i64 a.c, .int .i64 a.h, .int .i64 a.n, .int .i64 a.s]) (.agg #[.int .i64 b.c, .int .i64 b.h, .int .i64 b.n, .int .i64 b.s])).run Try.prog w = .ok (.bool true) w := by
  rw [Try.neq_AdrR, eqA_beq, eqA_no h]; rfl
theorem zeros4 (n : Nat) : (Builtin.zeroCells #[Value.int .i64 0, .int .i64 0, .int .i64 0, .int .i64 0] n).toList = List.replicate (n * 4) (.int .i64 0) := by
  simp [Builtin.zeroCells]
  apply List.ext_getElem
  · simp
  · intro i h1 h2
    simp at h1
    have h4 : i % 4 < 4 := Nat.mod_lt _ (by decide)
    have : ∀ k : Nat, k < 4 → ([Value.int IntKind.i64 0, .int .i64 0, .int .i64 0, .int .i64 0] : List Value)[k]? = some (.int .i64 0) := by
      intro k hk
      have : k = 0 ∨ k = 1 ∨ k = 2 ∨ k = 3 := by omega
      rcases this with rfl | rfl | rfl | rfl <;> rfl
    simp
    rw [this (i % 4) h4]
    rfl
theorem run_clear4 (w : World) (ty : TypeId) (b o n c : Nat) (hn : 0 < n) (hc : ∀ j, j < n * 4 → (w.cell? ⟨b, o + j, none⟩).isSome = true) (hf : ∀ j, j < n * 4 → w.frozen? ⟨b, o + j, none⟩ = false) :
    (Builtin.clear_ #[134] ty #[.slice (some ⟨b, o, none⟩) n c]).run Try.prog w = .ok (.tuple #[]) (setCells w b o (List.replicate (n * 4) (.int .i64 0))) := by
  have hst := run_storeCells_cells (P := Try.prog) b o (List.replicate (n * 4) (.int .i64 0)) 0 w (by simpa using hc) (by simpa using hf) (by intro v hv; rw [List.eq_of_mem_replicate hv]; rfl)
  rw [Nat.add_zero, setCells_eq] at hst
  have hv : ∀ w, (zeroValue 136).run Try.prog w = .ok (.agg #[.int .i64 0, .int .i64 0, .int .i64 0, .int .i64 0]) w := fun w => by kernel_rfl
  obtain ⟨m, rfl⟩ : ∃ m, n = m + 1 := ⟨n - 1, by omega⟩
  have hz : (Builtin.zeroCells (Value.agg #[.int .i64 0, .int .i64 0, .int .i64 0, .int .i64 0]).cells (m + 1)).toList = List.replicate ((m + 1) * 4) (.int .i64 0) := zeros4 _
  simp [Builtin.clear_, run_underlying Try.underlying134, hv, hz, hst]
/-- what lies in the row while it is struck. -/
def cmpR (l : List AdrR) (j : Nat) : List AdrR := cmpTo l j ++ l.drop (cmpTo l j).length
theorem cmpR_len {l : List AdrR} {j : Nat} (h : j ≤ l.length) : (cmpR l j).length = l.length := by
  have := cmpTo_len l j
  unfold cmpR
  rw [List.length_append, List.length_drop]
  omega
theorem cmpR_get {l : List AdrR} {j i : Nat} (h : (cmpTo l j).length ≤ i) : (cmpR l j)[i]? = l[i]? := by
  unfold cmpR
  rw [List.getElem?_append_right h, List.getElem?_drop]
  congr 1
  omega
theorem cmpR_step {l : List AdrR} {j : Nat} {x y : AdrR} (h0 : l[j]? = some y) (h : l[j + 1]? = some x) (hne : y ≠ x) : (cmpR l (j + 1)).set (cmpTo l (j + 1)).length x = cmpR l (j + 2) := by
  have hj : j + 1 < l.length := (List.getElem?_eq_some_iff.1 h).1
  have hl := cmpTo_len l (j + 1)
  have hk : (cmpTo l (j + 1)).length < l.length := by omega
  unfold cmpR
  rw [cmpTo_new h0 h hne, List.set_append_right _ _ (Nat.le_refl _), Nat.sub_self, List.drop_eq_getElem_cons hk, List.set_cons_zero, List.length_append, List.append_assoc]
  rfl
theorem cmpTo_all {l : List AdrR} : ∀ {k : Nat}, (∀ i, i + 1 < k → l[i]? ≠ l[i + 1]?) → k ≤ l.length → cmpTo l k = l.take k
  | 0, _, _ => rfl
  | 1, _, hk => by
    obtain ⟨x, hx⟩ := get_lt l 0 (by omega)
    rw [cmpTo_one hx, List.take_add_one, hx]
    rfl
  | k + 2, h, hk => by
    obtain ⟨x, hx⟩ := get_lt l k (by omega)
    obtain ⟨y, hy⟩ := get_lt l (k + 1) (by omega)
    have hne : x ≠ y := fun e => h k (by omega) (by rw [hx, hy, e])
    rw [cmpTo_new hx hy hne, cmpTo_all (k := k + 1) (fun i hi => h i (by omega)) (by omega), List.take_add_one (i := k + 1), hy]
    rfl
theorem cmpTo_tail {l : List AdrR} {k : Nat} (h : (cmpTo l (k + 1)).length = k) : ∀ q, 1 ≤ q → (cmpTo l (k + q)).length + 1 ≤ k + q
  | 0, hq => by omega
  | 1, _ => by omega
  | q + 2, _ => by
    have ih := cmpTo_tail h (q + 1) (by omega)
    have : (cmpTo l (k + (q + 2))).length ≤ (cmpTo l (k + (q + 1))).length + 1 := by
      show (cmpTo l (k + (q + 1) + 1)).length ≤ _
      conv => lhs; unfold cmpTo
      split
      · split
        · omega
        · rw [List.length_append]; exact Nat.le_refl _
      · omega
    omega
theorem grown_drewN {w w' : World} {r : Option Nat} (h : w.grownBy w' r) (q : Nat) : w.grownBy (w'.drewN q) r := ⟨h.os, h.tape, h.output, h.size, h.block⟩
theorem own_box {w : World} {b g n cap s : Nat} {e : TypeId} {xs : List Value} (h : w.ownsRow b e s (.slice (some ⟨g, 0, none⟩) n cap) n xs) : Box w g xs ∧ (∀ j, w.frozen? ⟨g, j, none⟩ = false) ∧ n ≤ cap ∧ cap ≤ 9223372036854775807 := by
  refine ⟨fun j u hu => ?_, fun j => h.frozenAt j, ?_⟩
  · have := h.cells (g := g) rfl j u hu
    rwa [addr_add, Nat.zero_add] at this
  · rcases h.2 with ⟨e1, _⟩ | ⟨g1, cap1, cur, e1, _, _, h1, h2, _⟩
    · cases e1
    · injection e1 with _ _ e3
      obtain rfl := e3
      unfold maxLen at h2
      exact ⟨h1, by omega⟩
set_option maxHeartbeats 4000000 in
theorem slices_CompactA {b g n cap : Nat} {l : List AdrR} (w : World) (h : w.ownsRow b 136 4 (.slice (some ⟨g, 0, none⟩) n cap) n (l.flatMap AdrR.cells)) :
    Calls Try.prog 104 #[.slice (some ⟨g, 0, none⟩) n cap] w fun e w' => ∃ m, m = (cmpTo l n).length ∧ e = .returned (.slice (some ⟨g, 0, none⟩) m cap) ∧ w'.ownsRow b 136 4 (.slice (some ⟨g, 0, none⟩) m cap) m ((cmpTo l n).flatMap AdrR.cells) ∧ w.grownBy w' (some g) := by
  have hlx : l.length = n := by have := h.1; rw [flat_len AdrR.len] at this; omega
  obtain ⟨_, _, hnc, hcm⟩ := own_box h
  have HO := Hid.in_ h
  have HL := Hid.in_ hlx
  clear h hlx
  by_cases h2 : (n : Int) < 2
  · have HE := Hid.in_ (show cmpTo l n = l by
      rw [cmpTo_all (fun i hi => absurd hi (by omega)) (by rw [HL.out]; exact Nat.le_refl _), List.take_of_length_le (by rw [HL.out]; exact Nat.le_refl _)])
    go_enter Try.func104, Try.ntmps104
    go_wp2
    go_ret
    refine ⟨n, by rw [HE.out, HL.out], rfl, by rw [HE.out]; exact HO.out, World.grownBy.refl _ _⟩
  go_enter Try.func104, Try.ntmps104
  go_wp2_with fail
  go_loopg [3] (n - 1) (fun m v wr => ∃ k i : Nat, k + m = n ∧ i + 1 = k ∧ v = .int .i64 k ∧ Hid (∀ q, q + 1 < k → l[q]? ≠ l[q + 1]?) ∧ Hid (wr.ownsRow b 136 4 (.slice (some ⟨g, 0, none⟩) n cap) n (l.flatMap AdrR.cells)) ∧ Hid (w.grownBy wr (some g)))
  case atStart => exact ⟨1, 0, by omega, rfl, rfl, fun q hq => absurd hq (by omega), HO.out, World.grownBy.refl _ _⟩
  case round =>
    clear HO
    obtain ⟨k, i, hkm, hik, rfl, HA, HO, HG⟩ := hrel
    have HK := Hid.in_ (And.intro hkm hik)
    have hsub : (k : Int) - 1 = (i : Int) := by omega
    clear hkm
    by_cases hlt : k < n
    · obtain ⟨HX, HF, _, _⟩ := own_box HO.out
      obtain ⟨x, hx⟩ := get_lt l i (by rw [HL.out]; omega)
      obtain ⟨y, hy⟩ := get_lt l k (by rw [HL.out]; exact hlt)
      obtain ⟨c0, c1, c2, c3⟩ := boxAt4 (Box.elem AdrR.len HX hx)
      obtain ⟨d0, d1, d2, d3⟩ := boxAt4 (Box.elem AdrR.len HX hy)
      have hin : (i : Int) < n := by omega
      have hi0 : (0 : Int) ≤ i := by omega
      have hk0 : (0 : Int) ≤ k := by omega
      have hkn : (k : Int) < n := by omega
      have HXI := Hid.in_ hx
      have HYI := Hid.in_ hy
      clear HX HF hx hy
      by_cases hxy : y = x
      · subst hxy
        have heq := fun w => Try.eql_same y w
        have hgd := fun op a b w => Try.guard_AdrR y y op a b w
        have hncI : (n : Int) ≤ cap := by omega
        have hkcI : (k : Int) ≤ cap := by omega
        have hC0 := Hid.in_ (show cmpTo l (k + 1) = cmpTo l k from by
          have e := cmpTo_same (l := l) (j := i) (x := y) HXI.out (by rw [(HK.out).2]; exact HYI.out)
          rw [← (HK.out).2]
          exact e)
        have hC1 := Hid.in_ (show cmpTo l k = l.take k from cmpTo_all HA.out (by rw [HL.out]; omega))
        have hR0 := Hid.in_ (show cmpR l (k + 1) = l by
          unfold cmpR
          rw [hC0.out, hC1.out, List.length_take, Nat.min_eq_left (by rw [HL.out]; omega), List.take_append_drop])
        have hl0 := Hid.in_ (show (cmpTo l (k + 1)).length = k by rw [hC0.out, hC1.out, List.length_take, Nat.min_eq_left (by rw [HL.out]; omega)])
        clear c0 c1 c2 c3 d0 d1 d2 d3
        obtain ⟨c0, c1, c2, c3⟩ := boxAt4 (Box.elem AdrR.len (own_box HO.out).1 HXI.out)
        obtain ⟨d0, d1, d2, d3⟩ := boxAt4 (Box.elem AdrR.len (own_box HO.out).1 HYI.out)
        go_wp2_with fail
        go_quiet (fail)
        obtain ⟨wo, hwo⟩ : ∃ wo, wo = wr.drewN nq := ⟨_, rfl⟩
        rw [← hwo]
        have HOo := Hid.in_ (show wo.ownsRow b 136 4 (.slice (some ⟨g, 0, none⟩) n cap) n ((cmpR l (k + 1)).flatMap AdrR.cells) by rw [hwo, hR0.out]; exact own_drewN HO.out _)
        have HGo := Hid.in_ (show w.grownBy wo (some g) by rw [hwo]; exact grown_drewN HG.out _)
        clear hwo c0 c1 c2 c3 d0 d1 d2 d3 heq hgd
        go_wp2_with fail
        obtain ⟨gO, rfl⟩ : ∃ g, g = gk := ⟨_, rfl⟩
        go_loopg [3, 5] (n - k - 1) (fun m v v5 wr => ∃ q p kk : Nat, k + q + m = n ∧ p + 1 = q ∧ v = .int .i64 kk ∧ v5 = .int .i64 q ∧ Hid (kk = (cmpTo l (k + q)).length) ∧ Hid (wr.ownsRow b 136 4 (.slice (some ⟨g, 0, none⟩) n cap) n ((cmpR l (k + q)).flatMap AdrR.cells)) ∧ Hid (w.grownBy wr (some g)))
        case atStart => exact ⟨1, 0, k, by omega, rfl, rfl, rfl, hl0.out.symm, HOo.out, HGo.out⟩
        case round =>
          clear HOo HGo HO HG
          obtain ⟨q, p, kk, hqm, hpq, rfl, rfl, HKK, HO, HG⟩ := hrel
          have HQ := Hid.in_ (And.intro hqm hpq)
          have hsub2 : (q : Int) - 1 = (p : Int) := by omega
          clear hqm
          have hcl : kk + 1 ≤ k + q := by
            have e := cmpTo_tail (l := l) (k := k) hl0.out q (by omega)
            rw [HKK.out]; omega
          have hkkn : (kk : Int) < n := by have := (HQ.out).1; omega
          have hkk0 : (0 : Int) ≤ kk := by omega
          by_cases hlq : k + q < n
          · obtain ⟨HX, HF, _, _⟩ := own_box HO.out
            obtain ⟨x, hx⟩ := get_lt l (k + p) (by rw [HL.out]; omega)
            obtain ⟨z, hz⟩ := get_lt l (k + q) (by rw [HL.out]; exact hlq)
            have hcx : (cmpR l (k + q))[k + p]? = some x := (cmpR_get (by rw [← HKK.out]; omega)).trans hx
            have hcz : (cmpR l (k + q))[k + q]? = some z := (cmpR_get (by rw [← HKK.out]; omega)).trans hz
            obtain ⟨c0, c1, c2, c3⟩ := boxAt4 (Box.elem AdrR.len HX hcx)
            obtain ⟨d0, d1, d2, d3⟩ := boxAt4 (Box.elem AdrR.len HX hcz)
            rw [Nat.add_mul] at c0 c1 c2 c3 d0 d1 d2 d3
            have hqr : (q : Int) < ((n - k : Nat) : Int) := by omega
            have hpr : (p : Int) < ((n - k : Nat) : Int) := by omega
            have hp0 : (0 : Int) ≤ p := by omega
            have hq0 : (0 : Int) ≤ q := by omega
            have HXI2 := Hid.in_ hx
            have HZI2 := Hid.in_ hz
            by_cases hzx : z = x
            · subst hzx
              have heq := fun w => Try.neq_same z w
              have hgd := fun op a b w => Try.guard_AdrR z z op a b w
              have HN := Hid.in_ (show cmpTo l (k + q + 1) = cmpTo l (k + q) from by
                have e := cmpTo_same (l := l) (j := k + p) (x := z) HXI2.out (by rw [Nat.add_assoc, (HQ.out).2]; exact HZI2.out)
                rw [show k + p + 2 = k + q + 1 by have := (HQ.out).2; omega, show k + p + 1 = k + q by have := (HQ.out).2; omega] at e
                exact e)
              clear HX HF hx hz hcx hcz
              go_wp2_with fail
              go_quiet (fail)
              go_wp2
              have hk := HQ.out
              go_roundg (gk - 1)
              case measure => omega
              case rel => exact ⟨q + 1, q, kk, by omega, rfl, rfl, by go_num, by show kk = (cmpTo l (k + q + 1)).length; rw [HN.out]; exact HKK.out, by show World.ownsRow _ b _ 4 _ n ((cmpTo l (k + q + 1) ++ l.drop (cmpTo l (k + q + 1)).length).flatMap AdrR.cells); rw [HN.out]; exact own_drewN HO.out _, grown_drewN HG.out _⟩
            · have heq := fun w => Try.neq_diff (a := z) (b := x) hzx w
              have hgd := fun op a b w => Try.guard_AdrR z x op a b w
              have hN := cmpTo_new (l := l) (j := k + p) (x := z) (y := x) HXI2.out (by rw [Nat.add_assoc, (HQ.out).2]; exact HZI2.out) (fun e => hzx e.symm)
              have hS := cmpR_step (l := l) (j := k + p) (x := z) (y := x) HXI2.out (by rw [Nat.add_assoc, (HQ.out).2]; exact HZI2.out) (fun e => hzx e.symm)
              rw [show k + p + 2 = k + q + 1 by have := (HQ.out).2; omega, show k + p + 1 = k + q by have := (HQ.out).2; omega] at hN hS
              rw [← HKK.out] at hS
              have HN := Hid.in_ hN
              have HS := Hid.in_ hS
              obtain ⟨y0, hy0⟩ := get_lt (cmpR l (k + q)) kk (by rw [cmpR_len (by rw [HL.out]; omega), HL.out]; omega)
              have HY := Hid.in_ hy0
              clear HX HF hx hz hcx hcz hN hS hy0
              go_wp2_with fail
              go_quiet (fail)
              obtain ⟨wo2, hwo2⟩ : ∃ wo2, wo2 = wr.drewN nq := ⟨_, rfl⟩
              rw [← hwo2]
              have HO2 := Hid.in_ (show wo2.ownsRow b 136 4 (.slice (some ⟨g, 0, none⟩) n cap) n ((cmpR l (k + q)).flatMap AdrR.cells) by rw [hwo2]; exact own_drewN HO.out _)
              have HG2 := Hid.in_ (show w.grownBy wo2 (some g) by rw [hwo2]; exact grown_drewN HG.out _)
              clear hwo2 c0 c1 c2 c3 d0 d1 d2 d3
              obtain ⟨HX, HF, _, _⟩ := own_box HO2.out
              have hcz : (cmpR l (k + q))[k + q]? = some z := (cmpR_get (by rw [← HKK.out]; omega)).trans HZI2.out
              obtain ⟨d0, d1, d2, d3⟩ := boxAt4 (Box.elem AdrR.len HX hcz)
              rw [Nat.add_mul] at d0 d1 d2 d3
              obtain ⟨e0, e1, e2, e3⟩ := boxAt4 (Box.elem AdrR.len HX HY.out)
              have f0 := HF (kk * 4)
              have f1 := HF (kk * 4 + 1)
              have f2 := HF (kk * 4 + 2)
              have f3 := HF (kk * 4 + 3)
              have hS3 := own_setRec AdrR.len (k := kk) z (by rw [cmpR_len (by rw [HL.out]; omega), HL.out]; omega) HO2.out
              rw [HS.out] at hS3
              have HS3 := Hid.in_ (And.intro hS3.1 (HG2.out.trans hS3.2))
              clear HX HF hcz hS3
              go_wp2
              have hk := HQ.out
              go_roundg (gk - 1)
              case measure => omega
              case rel => exact ⟨q + 1, q, kk + 1, by omega, rfl, by go_num, by go_num, by show kk + 1 = (cmpTo l (k + q + 1)).length; rw [HN.out, List.length_append, ← HKK.out]; rfl, HS3.out.1, HS3.out.2⟩
          · have hk := HQ.out
            have hqn : k + q = n := by omega
            rw [hqn] at HKK HO
            obtain ⟨HX, HF, _, _⟩ := own_box HO.out
            have hlen : (cmpR l n).length = n := by rw [cmpR_len (by rw [HL.out]; exact Nat.le_refl _), HL.out]
            have hclr := fun ty => run_clear4 wr ty g (kk * 4) (n - kk) (cap - kk) (by omega) (fun j hj => by
              obtain ⟨u, hu⟩ := get_lt ((cmpR l n).flatMap AdrR.cells) (kk * 4 + j) (by rw [flat_len AdrR.len, hlen]; omega)
              rw [HX _ u hu]; rfl) (fun j _ => HF _)
            have hS := own_setCells (List.replicate ((n - kk) * 4) (.int .i64 0)) (kk * 4) HO.out
            have hT := own_take hS.1 (m := kk) (by omega)
            rw [setL_take _ _ _ _ (Nat.le_refl _), flat_take AdrR.len] at hT
            have hTk : (cmpR l n).take kk = cmpTo l n := by
              unfold cmpR
              rw [HKK.out, List.take_left']
              rfl
            rw [hTk] at hT
            have HR := Hid.in_ (And.intro hT (HG.out.trans hS.2))
            have hkc : (kk : Int) ≤ cap := by omega
            have hkn2 : (kk : Int) ≤ n := by omega
            clear HX HF hlen hS hT hTk
            go_wp2
            go_ret
            exact ⟨kk, HKK.out, rfl, HR.out.1, HR.out.2⟩
      · have heq := fun w => Try.eql_diff (a := y) (b := x) hxy w
        have hgd := fun op a b w => Try.guard_AdrR y x op a b w
        go_wp2_with fail
        go_quiet (fail)
        go_wp2
        have hk := HK.out
        go_roundg (gk - 1)
        case measure => omega
        case rel =>
          refine ⟨k + 1, k, by omega, rfl, by go_num, fun q hq => ?_, own_drewN HO.out _, grown_drewN HG.out _⟩
          rcases Nat.lt_or_ge (q + 1) k with hq1 | hq1
          · exact HA.out q hq1
          · obtain rfl : q = i := by omega
            rw [HXI.out, hk.2, HYI.out]
            intro e
            injection e with e
            exact hxy e.symm
    · have hk := HK.out
      obtain rfl : k = n := by omega
      have HE := Hid.in_ (show cmpTo l k = l by
        rw [cmpTo_all HA.out (by rw [HL.out]; exact Nat.le_refl _), List.take_of_length_le (by rw [HL.out]; exact Nat.le_refl _)])
      go_wp2
      go_ret
      refine ⟨k, by rw [HE.out, HL.out], rfl, by rw [HE.out]; exact HO.out, HG.out⟩
end Go.Proofs.Ytlelgpknkgjaeaa
