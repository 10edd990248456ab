/- Rows of strings: as lists of byte strings, as arguments that came in; 'szStringS', 'toStringS', 'eqStringS' of the laws. -/
import Derived.Test.YtlelgpknkgjaeaaRow
namespace Go.Proofs.Ytlelgpknkgjaeaa
open Go.ChangeShapes Go.WideShapes Go.ChangeAt Go.RowKit
set_option linter.unusedSimpArgs false
set_option linter.unusedVariables false
set_option maxRecDepth 4000

def StrC (s : ByteArray) : List Value := [.string s]
theorem StrC.len (s : ByteArray) : (StrC s).length = 1 := rfl
def Strs (l : List ByteArray) : List Value := l.map Value.string
theorem strs_flat (l : List ByteArray) : l.flatMap StrC = Strs l := by
  induction l with
  | nil => rfl
  | cons x l ih => rw [List.flatMap_cons, ih]; rfl
theorem Strs_len (l : List ByteArray) : (Strs l).length = l.length := by simp [Strs]
theorem Strs_get {l : List ByteArray} {i : Nat} {x : ByteArray} (h : l[i]? = some x) : (Strs l)[i]? = some (.string x) := by simp [Strs, h]
theorem Strs_set (l : List ByteArray) (k : Nat) (x : ByteArray) : (Strs l).set k (.string x) = Strs (l.set k x) := by simp [Strs, List.map_set]
theorem Strs_append (a b : List ByteArray) : Strs (a ++ b) = Strs a ++ Strs b := by unfold Strs; exact List.map_append
section
variable {H : Type} {enc : TypeId × Value → H} {w : World} {base : Nat} {held : Bool}
theorem open_StrC {spare : Nat → Bool} {m : Nat} {cs : List Value} {y : DataW H × List MemPlace} (h : DataW.trod enc Try.prog w base spare held m 9 cs = some y) : ∃ s : ByteArray, cs = StrC s ∧ s.size ≤ maxLen := by
  obtain ⟨b, g, _, wf⟩ := DataW.trod_string Try.underlying9 h
  exact ⟨b, g, wf⟩
theorem slice_Strs {r0 : Reach} {b0 : Nat} {v : Value} {d : DataW H} {p : List MemPlace} (hv : Value.okWide Try.prog w r0 b0 22 v) (h : DataW.Trod enc Try.prog w base (fun _ => true) held 22 v d p) :
    ∃ (A : Option Addr) (cap : Nat) (l : List ByteArray), v = .slice A l.length cap ∧ ArgS w A l.length cap 1 (Strs l) ∧ ∀ s ∈ l, s.size ≤ maxLen := by
  obtain ⟨A, n, cap, rfl⟩ := okWide_slice Try.underlying22 hv
  obtain ⟨fuel, hf⟩ := h
  obtain ⟨A', cap', l, hcs, hA, hok⟩ := open_rows StrC.len Try.underlying22 (by kernel_rfl) (fun _ _ _ h => open_StrC h) hf
  obtain ⟨rfl, rfl, rfl⟩ : A = A' ∧ n = l.length ∧ cap = cap' := by simpa [Value.cells] using hcs
  rw [strs_flat] at hA
  exact ⟨_, _, l, rfl, hA, hok⟩
end
theorem Try.info_Str : (Try.prog.info? 9).map (fun i => (i.zero, i.size, i.bytes)) = some (some (.string ⟨#[]⟩), 1, 16) := by kernel_rfl
set_option maxHeartbeats 1000000 in
theorem laws_szStringS {A : Option Addr} {cap n : Nat} {l : List ByteArray} (left : Int) (w : World) (hA : ArgS w A n cap 1 (Strs l)) (hl : l.length = n) (hk : ∀ r ∈ l, r.size ≤ maxLen) (h0 : 0 ≤ left) (h1 : left ≤ 1048576) :
    Calls Try.prog 8 #[.slice A n cap, .int .i64 left] w fun e w' => (e = .returned (.int .i64 (-1)) ∨ ∃ r : Int, e = .returned (.int .i64 r) ∧ 0 ≤ r ∧ r ≤ left - n ∧ ∀ x ∈ l, (x.size : Int) ≤ left) ∧ Below w.heap.size w w' := by
  have hm : n ≤ 9223372036854775807 := Nat.le_trans hA.2.1 hA.2.2.1
  have HN := Hid.in_ hl
  have HA := Hid.in_ hA
  have HO := Hid.in_ hk
  clear hA hl hk
  by_cases hlt : left < n
  · go_enter Try.func8, Try.ntmps8
    go_wp2
    go_ret
    exact ⟨.inl rfl, Below.refl _ _⟩
  · go_enter Try.func8, Try.ntmps8
    go_wp2
    go_loopg [1, 5] n (fun m t i wr => ∃ (k : Nat) (t' : Int), k + m = n ∧ i = .int .i64 k ∧ t = .int .i64 t' ∧ 0 ≤ t' ∧ t' ≤ left - n ∧ Hid (∀ j x, j < k → l[j]? = some x → (x.size : Int) ≤ left) ∧ Hid (Below w.heap.size w wr))
    case atStart => exact ⟨0, left - n, by omega, rfl, rfl, by omega, by omega, fun j x hj => by omega, Below.refl _ _⟩
    case round =>
      obtain ⟨k, t', hkm, rfl, rfl, ht0, ht1, HD, HB⟩ := hrel
      have HK := Hid.in_ hkm
      clear hkm
      by_cases hlk : k < n
      · obtain ⟨b, o, rfl, hb, hc⟩ := HA.out.2.2.2 (by omega) (by omega)
        obtain ⟨m, hm'⟩ := get_lt l k (by rw [HN.out]; exact hlk)
        have c0 := hc.step HB.out k _ (Strs_get hm')
        have hd : m.size ≤ 9223372036854775807 := Nat.le_trans (HO.out m (List.mem_of_getElem? hm')) (by decide)
        have HM := Hid.in_ hm'
        clear hc hm'
        by_cases hneg : t' < m.size
        · go_wp2
          go_ret
          exact ⟨.inl rfl, HB.out⟩
        · have HD2 := Hid.in_ (show ∀ j x, j < k + 1 → l[j]? = some x → (x.size : Int) ≤ left from fun j x hj hx => by
            rcases Nat.lt_or_ge j k with h | h
            · exact HD.out j x h hx
            · obtain rfl : j = k := by omega
              rw [HM.out] at hx
              injection hx with hx
              subst hx
              omega)
          go_wp2
          have hk := HK.out
          go_roundg (gk - 1)
          case measure => omega
          case rel => exact ⟨k + 1, t' - m.size, by omega, by go_num, by go_num, by omega, by omega, HD2, HB.out⟩
      · have hk := HK.out
        obtain rfl : k = n := by omega
        go_wp2
        go_ret
        refine ⟨.inr ⟨t', rfl, ht0, ht1, fun x hx => ?_⟩, HB.out⟩
        obtain ⟨i, hi, rfl⟩ := List.mem_iff_getElem.1 hx
        exact HD.out i _ (by rw [← HN.out]; exact hi) (List.getElem?_eq_getElem hi)
set_option maxHeartbeats 1000000 in
theorem laws_toStringS {A : Option Addr} {cap n : Nat} {l : List ByteArray} (w : World) (hA : ArgS w A n cap 1 (Strs l)) (hl : l.length = n) (hn : n ≤ 1048576) :
    Calls Try.prog 10 #[.slice A n cap] w fun e w' => ∃ v, e = .returned v ∧ w'.ownsRow w.heap.size 9 1 v n (Strs l) ∧ Below w.heap.size w w' := by
  obtain ⟨i0, hi0, hz0, hz1, hz2⟩ := info_parts Try.info_Str
  have HN := Hid.in_ hl
  have HA := Hid.in_ hA
  clear hA hl
  go_enter Try.func10, Try.ntmps10
  go_wp2_with (at_make; refine wpList_make_full _ rfl _ _ _ rfl w.heap.size 9 i0 _ 1 Try.underlying22 hi0 hz0 hz1 _ _ _ _ n rfl rfl rfl rfl (by rw [hz2]; omega) (by unfold maxLen; omega) (Nat.le_refl _) ?_; intro w1 hown hgrow)
  have HO : Hid (w1.ownsRow w.heap.size 9 1 (.slice (some ⟨w.heap.size, 0, none⟩) n n) n (Strs (fillR l ⟨#[]⟩ 0)) ∧ Below w.heap.size w w1) := by
    refine ⟨?_, (Below.refl _ _).grown hgrow (Nat.le_refl _) (by simp)⟩
    rw [fillR_none, HN.out, ← strs_flat, ← made_flat StrC.len ⟨#[]⟩ n]
    exact hown
  clear hown hgrow
  go_loopg [4] n (fun m i wr => ∃ k : Nat, k + m = n ∧ i = .int .i64 k ∧ Hid (wr.ownsRow w.heap.size 9 1 (.slice (some ⟨w.heap.size, 0, none⟩) n n) n (Strs (fillR l ⟨#[]⟩ k)) ∧ Below w.heap.size w wr))
  case atStart => exact ⟨0, by omega, rfl, HO⟩
  case round =>
    clear HO
    obtain ⟨k, hkm, rfl, HO⟩ := hrel
    have HK := Hid.in_ hkm
    clear hkm
    by_cases hlt : k < n
    · obtain ⟨b, o, rfl, hb, hc⟩ := HA.out.2.2.2 (by omega) (by omega)
      obtain ⟨m, hm⟩ := get_lt l k (by rw [HN.out]; exact hlt)
      have c0 := hc.step HO.out.2 k _ (Strs_get hm)
      have hlen : k < (fillR l (⟨#[]⟩ : ByteArray) k).length := by rw [fillR_len _ _ _ (by rw [HN.out]; omega), HN.out]; exact hlt
      obtain ⟨y, hy⟩ := get_lt _ k hlen
      have f1 := HO.out.1.cellAt k (by omega)
      rw [Strs_get hy] at f1
      have f2 := HO.out.1.frozenAt k
      have HO2 : Hid ((wr.setCell ⟨w.heap.size, k, none⟩ (.string m)).ownsRow w.heap.size 9 1 (.slice (some ⟨w.heap.size, 0, none⟩) n n) n (Strs (fillR l ⟨#[]⟩ (k + 1))) ∧ Below w.heap.size w (wr.setCell ⟨w.heap.size, k, none⟩ (.string m))) := by
        have h1 := HO.out.1.stored k (.string m)
        rw [Strs_set, fillR_set hm] at h1
        exact ⟨h1.1, HO.out.2.setCell (Nat.le_refl _) _⟩
      clear HO hc hm hy hlen
      go_wp2
      have hk := HK.out
      go_roundg (gk - 1)
      case measure => omega
      case rel => exact ⟨k + 1, by omega, by go_num, HO2⟩
    · have hk := HK.out
      obtain rfl : k = n := by omega
      have hO := HO.out
      rw [← HN.out, fillR_all] at hO
      have HO3 := Hid.in_ hO
      clear hO
      go_wp2
      go_ret
      rw [← HN.out]
      exact ⟨_, rfl, HO3.out.1, HO3.out.2⟩
set_option maxHeartbeats 1000000 in
theorem laws_eqStringS {v1 v2 : Value} {n b1 b2 : Nat} {l : List ByteArray} (w : World) (h1 : w.ownsRow b1 9 1 v1 n (Strs l)) (h2 : w.ownsRow b2 9 1 v2 n (Strs l)) :
    Calls Try.prog 13 #[v1, v2] w fun e w' => e = .returned (.bool true) ∧ Below w.heap.size w w' := by
  obtain ⟨A1, c1, rfl, hl1, hn, hA1⟩ := own_shape h1
  obtain ⟨A2, c2, rfl, hl2, _, hA2⟩ := own_shape h2
  have HL : Hid (l.length = n) := by rw [Strs_len] at hl1; unfold Hid; omega
  have H1 := Hid.in_ hA1
  have H2 := Hid.in_ hA2
  clear hA1 hA2 hl1 hl2 h1 h2
  go_enter Try.func13, Try.ntmps13
  go_wp2
  go_loopw [5] (fun i wr => ∃ k : Nat, k ≤ n ∧ i = .int .i64 k ∧ ∃ q, wr = w.drewN q) (fun i _ => n - (intOf i).toNat)
  case atStart => exact ⟨0, Nat.zero_le _, rfl, 0, rfl⟩
  case round =>
    obtain ⟨k, hk, rfl, q, rfl⟩ := hrel
    by_cases hlt : k < n
    · obtain ⟨g1, rfl, _, _, hc1, _⟩ := H1.out (by omega)
      obtain ⟨g2, rfl, _, _, hc2, _⟩ := H2.out (by omega)
      obtain ⟨x, hx⟩ := get_lt l k (by rw [HL.out]; exact hlt)
      have f1 := hc1 k _ (Strs_get hx)
      have f2 := hc2 k _ (Strs_get hx)
      clear hc1 hc2 hx
      go_wp2
      go_quiet (fail)
      go_wp2
      go_roundw
      case rel => exact ⟨k + 1, by omega, by go_num, _, rfl⟩
      case measure => simp [intOf]; omega
    · go_wp2
      go_ret
      exact ⟨rfl, below_drewN (Below.refl _ _) _⟩
end Go.Proofs.Ytlelgpknkgjaeaa
