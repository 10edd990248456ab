/- Several texts in one: Strs, Places, Rises, VotedL, Keep, Vots, Same, Tch, MarkT, MkS, Fss, Founds, Col, VoteP, MgP, MgK, SortK, MgC, MgD, VoteS, VoteI, VoteB, MgS, MapV. -/
import Derived.Test.YtlelgpknkgjaeaaGreatDoorRow
import Derived.Test.YtlelgpknkgjaeaaGreatDoorI64
import Derived.Test.YtlelgpknkgjaeaaGreatDoorRec
import Derived.Lib.Builder
import Derived.Test.YtlelgpknkgjaeaaGreatDoorBuilder
import Derived.StillTailTactics
import Derived.Test.YtlelgpknkgjaeaaGreatDoorRec1
import Derived.Laws.StructEq
import Derived.ChangeKeysEq
import Derived.Test.YtlelgpknkgjaeaaGreatDoorStr
import Derived.Laws.Concat
import Derived.Deep.RegionWith
import Derived.Test.YtlelgpknkgjaeaaGreatDoorRecF
import Derived.Test.YtlelgpknkgjaeaaGreatDoorFound
import Derived.Test.YtlelgpknkgjaeaaGreatDoorByte
import Derived.Lib.UnsafeStr
import Derived.Test.YtlelgpknkgjaeaaGreatDoorWr
import Derived.Test.YtlelgpknkgjaeaaGreatDoorMem
import Derived.Test.YtlelgpknkgjaeaaGreatDoorShelfQ
import Derived.Shelf.SlSortCmp.WholeK
import Derived.Shelf.SlSortCmp.NoneTotal
import Derived.Shelf.SlicesG.Cmp
import Derived.Lib.SliceRun
import Derived.BigQuiet
import Derived.Deep.LoopGhost
import Derived.Deep.QuietTactic
import Derived.Maps.OwnOps
import Derived.Maps.Views
/- Rows of strings: as lists of byte strings, as arguments that came in; 'szStringS', 'toStringS', 'eqStringS' of the laws. -/
namespace Go.Proofs.YtlelgpknkgjaeaaGreatDoor
open Go.ChangeShapes Go.WideShapes Go.ChangeAt Go.RowKit
set_option linter.unusedSimpArgs false
set_option linter.unusedVariables false
set_option maxRecDepth 4000

def StrC (s : ByteArray) : List Value := [.string s]
theorem StrC.len (s : ByteArray) : (StrC s).length = 1 := rfl
def Strs (l : List ByteArray) : List Value := l.map Value.string
theorem strs_flat (l : List ByteArray) : l.flatMap StrC = Strs l := by
  induction l with
  | nil => rfl
  | cons x l ih => rw [List.flatMap_cons, ih]; rfl
theorem Strs_len (l : List ByteArray) : (Strs l).length = l.length := by simp [Strs]
theorem Strs_get {l : List ByteArray} {i : Nat} {x : ByteArray} (h : l[i]? = some x) : (Strs l)[i]? = some (.string x) := by simp [Strs, h]
theorem Strs_set (l : List ByteArray) (k : Nat) (x : ByteArray) : (Strs l).set k (.string x) = Strs (l.set k x) := by simp [Strs, List.map_set]
theorem Strs_append (a b : List ByteArray) : Strs (a ++ b) = Strs a ++ Strs b := by unfold Strs; exact List.map_append
section
variable {H : Type} {enc : TypeId × Value → H} {w : World} {base : Nat} {held : Bool}
theorem open_StrC {spare : Nat → Bool} {m : Nat} {cs : List Value} {y : DataW H × List MemPlace} (h : DataW.trod enc Tryz.prog w base spare held m 9 cs = some y) : ∃ s : ByteArray, cs = StrC s ∧ s.size ≤ maxLen := by
  obtain ⟨b, g, _, wf⟩ := DataW.trod_string Tryz.underlying9 h
  exact ⟨b, g, wf⟩
theorem slice_Strs {r0 : Reach} {b0 : Nat} {v : Value} {d : DataW H} {p : List MemPlace} (hv : Value.okWide Tryz.prog w r0 b0 33 v) (h : DataW.Trod enc Tryz.prog w base (fun _ => true) held 33 v d p) :
    ∃ (A : Option Addr) (cap : Nat) (l : List ByteArray), v = .slice A l.length cap ∧ ArgS w A l.length cap 1 (Strs l) ∧ ∀ s ∈ l, s.size ≤ maxLen := by
  obtain ⟨A, n, cap, rfl⟩ := okWide_slice Tryz.underlying33 hv
  obtain ⟨fuel, hf⟩ := h
  obtain ⟨A', cap', l, hcs, hA, hok⟩ := open_rows StrC.len Tryz.underlying33 (by kernel_rfl) (fun _ _ _ h => open_StrC h) hf
  obtain ⟨rfl, rfl, rfl⟩ : A = A' ∧ n = l.length ∧ cap = cap' := by simpa [Value.cells] using hcs
  rw [strs_flat] at hA
  exact ⟨_, _, l, rfl, hA, hok⟩
end
theorem Tryz.info_Str : (Tryz.prog.info? 9).map (fun i => (i.zero, i.size, i.bytes)) = some (some (.string ⟨#[]⟩), 1, 16) := by kernel_rfl
set_option maxHeartbeats 1000000 in
theorem laws_szStringS {A : Option Addr} {cap n : Nat} {l : List ByteArray} (left : Int) (w : World) (hA : ArgS w A n cap 1 (Strs l)) (hl : l.length = n) (hk : ∀ r ∈ l, r.size ≤ maxLen) (h0 : 0 ≤ left) (h1 : left ≤ 1048576) :
    Calls Tryz.prog 17 #[.slice A n cap, .int .i64 left] w fun e w' => (e = .returned (.int .i64 (-1)) ∨ ∃ r : Int, e = .returned (.int .i64 r) ∧ 0 ≤ r ∧ r ≤ left - n ∧ ∀ x ∈ l, (x.size : Int) ≤ left) ∧ Below w.heap.size w w' := by
  have hm : n ≤ 9223372036854775807 := Nat.le_trans hA.2.1 hA.2.2.1
  have HN := Hid.in_ hl
  have HA := Hid.in_ hA
  have HO := Hid.in_ hk
  clear hA hl hk
  by_cases hlt : left < n
  · go_enter Tryz.func17, Tryz.ntmps17
    go_wp2
    go_ret
    exact ⟨.inl rfl, Below.refl _ _⟩
  · go_enter Tryz.func17, Tryz.ntmps17
    go_wp2
    go_loopg [1, 5] n (fun m t i wr => ∃ (k : Nat) (t' : Int), k + m = n ∧ i = .int .i64 k ∧ t = .int .i64 t' ∧ 0 ≤ t' ∧ t' ≤ left - n ∧ Hid (∀ j x, j < k → l[j]? = some x → (x.size : Int) ≤ left) ∧ Hid (Below w.heap.size w wr))
    case atStart => exact ⟨0, left - n, by omega, rfl, rfl, by omega, by omega, fun j x hj => by omega, Below.refl _ _⟩
    case round =>
      obtain ⟨k, t', hkm, rfl, rfl, ht0, ht1, HD, HB⟩ := hrel
      have HK := Hid.in_ hkm
      clear hkm
      by_cases hlk : k < n
      · obtain ⟨b, o, rfl, hb, hc⟩ := HA.out.2.2.2 (by omega) (by omega)
        obtain ⟨m, hm'⟩ := get_lt l k (by rw [HN.out]; exact hlk)
        have c0 := hc.step HB.out k _ (Strs_get hm')
        have hd : m.size ≤ 9223372036854775807 := Nat.le_trans (HO.out m (List.mem_of_getElem? hm')) (by decide)
        have HM := Hid.in_ hm'
        clear hc hm'
        by_cases hneg : t' < m.size
        · go_wp2
          go_ret
          exact ⟨.inl rfl, HB.out⟩
        · have HD2 := Hid.in_ (show ∀ j x, j < k + 1 → l[j]? = some x → (x.size : Int) ≤ left from fun j x hj hx => by
            rcases Nat.lt_or_ge j k with h | h
            · exact HD.out j x h hx
            · obtain rfl : j = k := by omega
              rw [HM.out] at hx
              injection hx with hx
              subst hx
              omega)
          go_wp2
          have hk := HK.out
          go_roundg (gk - 1)
          case measure => omega
          case rel => exact ⟨k + 1, t' - m.size, by omega, by go_num, by go_num, by omega, by omega, HD2, HB.out⟩
      · have hk := HK.out
        obtain rfl : k = n := by omega
        go_wp2
        go_ret
        refine ⟨.inr ⟨t', rfl, ht0, ht1, fun x hx => ?_⟩, HB.out⟩
        obtain ⟨i, hi, rfl⟩ := List.mem_iff_getElem.1 hx
        exact HD.out i _ (by rw [← HN.out]; exact hi) (List.getElem?_eq_getElem hi)
set_option maxHeartbeats 1000000 in
theorem laws_toStringS {A : Option Addr} {cap n : Nat} {l : List ByteArray} (w : World) (hA : ArgS w A n cap 1 (Strs l)) (hl : l.length = n) (hn : n ≤ 1048576) :
    Calls Tryz.prog 19 #[.slice A n cap] w fun e w' => ∃ v, e = .returned v ∧ w'.ownsRow w.heap.size 9 1 v n (Strs l) ∧ Below w.heap.size w w' := by
  obtain ⟨i0, hi0, hz0, hz1, hz2⟩ := info_parts Tryz.info_Str
  have HN := Hid.in_ hl
  have HA := Hid.in_ hA
  clear hA hl
  go_enter Tryz.func19, Tryz.ntmps19
  go_wp2_with (at_make; refine wpList_make_full _ rfl _ _ _ rfl w.heap.size 9 i0 _ 1 Tryz.underlying33 hi0 hz0 hz1 _ _ _ _ n rfl rfl rfl rfl (by rw [hz2]; omega) (by unfold maxLen; omega) (Nat.le_refl _) ?_; intro w1 hown hgrow)
  have HO : Hid (w1.ownsRow w.heap.size 9 1 (.slice (some ⟨w.heap.size, 0, none⟩) n n) n (Strs (fillR l ⟨#[]⟩ 0)) ∧ Below w.heap.size w w1) := by
    refine ⟨?_, (Below.refl _ _).grown hgrow (Nat.le_refl _) (by simp)⟩
    rw [fillR_none, HN.out, ← strs_flat, ← made_flat StrC.len ⟨#[]⟩ n]
    exact hown
  clear hown hgrow
  go_loopg [4] n (fun m i wr => ∃ k : Nat, k + m = n ∧ i = .int .i64 k ∧ Hid (wr.ownsRow w.heap.size 9 1 (.slice (some ⟨w.heap.size, 0, none⟩) n n) n (Strs (fillR l ⟨#[]⟩ k)) ∧ Below w.heap.size w wr))
  case atStart => exact ⟨0, by omega, rfl, HO⟩
  case round =>
    clear HO
    obtain ⟨k, hkm, rfl, HO⟩ := hrel
    have HK := Hid.in_ hkm
    clear hkm
    by_cases hlt : k < n
    · obtain ⟨b, o, rfl, hb, hc⟩ := HA.out.2.2.2 (by omega) (by omega)
      obtain ⟨m, hm⟩ := get_lt l k (by rw [HN.out]; exact hlt)
      have c0 := hc.step HO.out.2 k _ (Strs_get hm)
      have hlen : k < (fillR l (⟨#[]⟩ : ByteArray) k).length := by rw [fillR_len _ _ _ (by rw [HN.out]; omega), HN.out]; exact hlt
      obtain ⟨y, hy⟩ := get_lt _ k hlen
      have f1 := HO.out.1.cellAt k (by omega)
      rw [Strs_get hy] at f1
      have f2 := HO.out.1.frozenAt k
      have HO2 : Hid ((wr.setCell ⟨w.heap.size, k, none⟩ (.string m)).ownsRow w.heap.size 9 1 (.slice (some ⟨w.heap.size, 0, none⟩) n n) n (Strs (fillR l ⟨#[]⟩ (k + 1))) ∧ Below w.heap.size w (wr.setCell ⟨w.heap.size, k, none⟩ (.string m))) := by
        have h1 := HO.out.1.stored k (.string m)
        rw [Strs_set, fillR_set hm] at h1
        exact ⟨h1.1, HO.out.2.setCell (Nat.le_refl _) _⟩
      clear HO hc hm hy hlen
      go_wp2
      have hk := HK.out
      go_roundg (gk - 1)
      case measure => omega
      case rel => exact ⟨k + 1, by omega, by go_num, HO2⟩
    · have hk := HK.out
      obtain rfl : k = n := by omega
      have hO := HO.out
      rw [← HN.out, fillR_all] at hO
      have HO3 := Hid.in_ hO
      clear hO
      go_wp2
      go_ret
      rw [← HN.out]
      exact ⟨_, rfl, HO3.out.1, HO3.out.2⟩
set_option maxHeartbeats 1000000 in
theorem laws_eqStringS {v1 v2 : Value} {n b1 b2 : Nat} {l : List ByteArray} (w : World) (h1 : w.ownsRow b1 9 1 v1 n (Strs l)) (h2 : w.ownsRow b2 9 1 v2 n (Strs l)) :
    Calls Tryz.prog 22 #[v1, v2] w fun e w' => e = .returned (.bool true) ∧ Below w.heap.size w w' := by
  obtain ⟨A1, c1, rfl, hl1, hn, hA1⟩ := own_shape h1
  obtain ⟨A2, c2, rfl, hl2, _, hA2⟩ := own_shape h2
  have HL : Hid (l.length = n) := by rw [Strs_len] at hl1; unfold Hid; omega
  have H1 := Hid.in_ hA1
  have H2 := Hid.in_ hA2
  clear hA1 hA2 hl1 hl2 h1 h2
  go_enter Tryz.func22, Tryz.ntmps22
  go_wp2
  go_loopw [5] (fun i wr => ∃ k : Nat, k ≤ n ∧ i = .int .i64 k ∧ ∃ q, wr = w.drewN q) (fun i _ => n - (intOf i).toNat)
  case atStart => exact ⟨0, Nat.zero_le _, rfl, 0, rfl⟩
  case round =>
    obtain ⟨k, hk, rfl, q, rfl⟩ := hrel
    by_cases hlt : k < n
    · obtain ⟨g1, rfl, _, _, hc1, _⟩ := H1.out (by omega)
      obtain ⟨g2, rfl, _, _, hc2, _⟩ := H2.out (by omega)
      obtain ⟨x, hx⟩ := get_lt l k (by rw [HL.out]; exact hlt)
      have f1 := hc1 k _ (Strs_get hx)
      have f2 := hc2 k _ (Strs_get hx)
      clear hc1 hc2 hx
      go_wp2
      go_quiet (fail)
      go_wp2
      go_roundw
      case rel => exact ⟨k + 1, by omega, by go_num, _, rfl⟩
      case measure => simp [intOf]; omega
    · go_wp2
      go_ret
      exact ⟨rfl, below_drewN (Below.refl _ _) _⟩
end Go.Proofs.YtlelgpknkgjaeaaGreatDoor

/- The places, in rising order, at which a test holds. No program in sight but for the imports. -/
namespace Go.Proofs.YtlelgpknkgjaeaaGreatDoor
set_option linter.unusedSimpArgs false
set_option linter.unusedVariables false

def placesTo (q : Nat → Bool) : Nat → List Int
  | 0 => []
  | k + 1 => placesTo q k ++ (if q k = true then [(k : Int)] else [])
theorem placesTo_len (q : Nat → Bool) : ∀ k, (placesTo q k).length ≤ k
  | 0 => Nat.le_refl _
  | k + 1 => by
    have := placesTo_len q k
    unfold placesTo
    split <;> simp <;> omega
theorem placesTo_yes {q : Nat → Bool} {k : Nat} (h : q k = true) : placesTo q (k + 1) = placesTo q k ++ [(k : Int)] := by
  show placesTo q k ++ (if q k = true then [(k : Int)] else []) = _
  rw [if_pos h]
theorem placesTo_no {q : Nat → Bool} {k : Nat} (h : q k = false) : placesTo q (k + 1) = placesTo q k := by
  show placesTo q k ++ (if q k = true then [(k : Int)] else []) = _
  rw [if_neg (by rw [h]; decide), List.append_nil]
theorem I64_app (a b : List Int) : I64 (a ++ b) = I64 a ++ I64 b := by unfold I64; exact List.map_append
end Go.Proofs.YtlelgpknkgjaeaaGreatDoor

/- Rising numbers: 'rises' of the program, 'l00Rises' of the reference; 'toInt64S' and 'szInt64S' of the laws. -/
namespace Go.Proofs.YtlelgpknkgjaeaaGreatDoor
open Go.ChangeShapes Go.WideShapes Go.ChangeAt Go.RowKit
set_option linter.unusedSimpArgs false
set_option linter.unusedVariables false
set_option maxRecDepth 4000

theorem Tryz.infoI64r : (Tryz.prog.info? 2).map (fun i => (i.zero, i.size, i.bytes)) = some (some (.int .i64 0), 1, 8) := by kernel_rfl
theorem I64_set' (l : List Int) (k : Nat) (x : Int) : (I64 l).set k (.int .i64 x) = I64 (l.set k x) := by simp [I64, List.map_set]
def IntC (x : Int) : List Value := [.int .i64 x]
theorem IntC.len (x : Int) : (IntC x).length = 1 := rfl
theorem ints_flat (l : List Int) : l.flatMap IntC = I64 l := by
  induction l with
  | nil => rfl
  | cons x l ih => rw [List.flatMap_cons, ih]; rfl
def riseOk (l : List Int) (lo hi : Int) (i : Nat) : Bool :=
  match l[i]? with
  | some x => inB x lo hi && (i == 0 || decide ((l[i - 1]?).getD 0 < x))
  | none => true
def rises (l : List Int) (lo hi : Int) : Bool := (List.range l.length).all (riseOk l lo hi)
theorem rises_no {l : List Int} {lo hi : Int} {k : Nat} (hk : k < l.length) (h : riseOk l lo hi k = false) : rises l lo hi = false := by
  unfold rises
  rw [List.all_eq_false]
  exact ⟨k, List.mem_range.2 hk, by rw [h]; decide⟩
theorem rises_yes {l : List Int} {lo hi : Int} (h : ∀ k, k < l.length → riseOk l lo hi k = true) : rises l lo hi = true := by
  unfold rises
  rw [List.all_eq_true]
  exact fun k hk => h k (List.mem_range.1 hk)
theorem rises_none {l : List Int} : rises l 0 (-1) = decide (l.length = 0) := by
  cases l with
  | nil => rfl
  | cons x l =>
    rw [rises_no (k := 0) (by simp) (by unfold riseOk; simp only [List.getElem?_cons_zero]; rw [inB_no (by omega)]; rfl)]
    simp
theorem rise_cases {l : List Int} {lo hi : Int} {i : Nat} {x : Int} (hx : l[i]? = some x) :
    (inB x lo hi = false ∧ Hid (riseOk l lo hi i = false)) ∨ (inB x lo hi = true ∧ i = 0 ∧ Hid (riseOk l lo hi i = true)) ∨
    (inB x lo hi = true ∧ ∃ j q, i = j + 1 ∧ l[j]? = some q ∧ ((x ≤ q ∧ Hid (riseOk l lo hi i = false)) ∨ (q < x ∧ Hid (riseOk l lo hi i = true)))) := by
  have hv : riseOk l lo hi i = (inB x lo hi && (i == 0 || decide ((l[i - 1]?).getD 0 < x))) := by unfold riseOk; rw [hx]
  unfold Hid
  rw [hv]
  cases inB x lo hi
  · exact .inl ⟨rfl, rfl⟩
  rcases i with _ | j
  · exact .inr (.inl ⟨rfl, rfl, rfl⟩)
  · have hj : j < l.length := by have := (List.getElem?_eq_some_iff.1 hx).1; omega
    refine .inr (.inr ⟨rfl, j, l[j], rfl, List.getElem?_eq_getElem hj, ?_⟩)
    have hg : (l[j + 1 - 1]?).getD 0 = l[j] := by rw [Nat.add_sub_cancel, List.getElem?_eq_getElem hj]; rfl
    rw [hg]
    by_cases h : l[j] < x
    · exact .inr ⟨h, by rw [decide_eq_true h]; rfl⟩
    · exact .inl ⟨by omega, by rw [decide_eq_false h]; rfl⟩
theorem rise_next {l : List Int} {lo hi : Int} {k : Nat} (H : ∀ j, j < k → riseOk l lo hi j = true) (h : riseOk l lo hi k = true) : ∀ j, j < k + 1 → riseOk l lo hi j = true := fun j hj => by
  rcases Nat.lt_or_ge j k with h1 | h1
  · exact H j h1
  · obtain rfl : j = k := by omega
    exact h
theorem drewN_sum (w : World) (a b : Nat) : (w.drewN a).drewN b = w.drewN (a + b) := by simp [World.drewN, Nat.add_assoc]
end Go.Proofs.YtlelgpknkgjaeaaGreatDoor

/- A voted sector: a record with a slice of numbers: as an argument that came in, 'szVoted', 'toVoted', 'eqVoted' of the laws. -/
namespace Go.Proofs.YtlelgpknkgjaeaaGreatDoor
open Go.ChangeShapes Go.WideShapes Go.ChangeAt Go.RowKit
set_option linter.unusedSimpArgs false
set_option linter.unusedVariables false
set_option maxRecDepth 8000

theorem alloc_szV (w : World) (o : Obj) : (w.alloc o).heap.size = w.heap.size + 1 := by unfold World.alloc; exact Array.size_push _
theorem own_setCells_below {base : Nat} {e : TypeId} {size : Nat} {v : Value} {n : Nat} {xs : List Value} {g : Nat} (hg : g < base) : ∀ (vs : List Value) (o : Nat) {w : World}, w.ownsRow base e size v n xs → (setCells w g o vs).ownsRow base e size v n xs
  | [], _, _, h => h
  | v :: vs, o, w, h => own_setCells_below hg vs (o + 1) (ownsRow_setCell_below h (a := ⟨g, o, none⟩) hg v)
set_option maxHeartbeats 1000000 in
theorem laws_eqVoted (c h n s : Int) (d : ByteArray) (t : Int) (x : Bool) (vo : Int) {v1 v2 : Value} {N b1 b2 : Nat} {l : List Int} (w : World) (h1 : w.ownsRow b1 2 1 v1 N (I64 l)) (h2 : w.ownsRow b2 2 1 v2 N (I64 l)) :
    Calls Tryz.prog 48 #[.agg #[.int .i64 c, .int .i64 h, .int .i64 n, .int .i64 s, .string d, .int .i64 t, .bool x, v1, .int .i64 vo], .agg #[.int .i64 c, .int .i64 h, .int .i64 n, .int .i64 s, .string d, .int .i64 t, .bool x, v2, .int .i64 vo]] w fun e w' => e = .returned (.bool true) ∧ Below w.heap.size w w' := by
  have H1 := Hid.in_ h1
  have H2 := Hid.in_ h2
  obtain ⟨A1, c1, rfl, _, _, _⟩ := own_shape h1
  obtain ⟨A2, c2, rfl, _, _, _⟩ := own_shape h2
  clear h1 h2
  go_enter Tryz.func48, Tryz.ntmps48
  go_wp2_with fail
  have hB := balloc (balloc (Below.refl w.heap.size w) (.cells #[.int .i64 c, .int .i64 h, .int .i64 n, .int .i64 s, .string d, .int .i64 t, .bool x, .slice A1 N c1, .int .i64 vo] 72)) (.cells #[.int .i64 c, .int .i64 h, .int .i64 n, .int .i64 s, .string d, .int .i64 t, .bool x, .slice A2 N c2, .int .i64 vo] 72)
  have hc1 : (((w.alloc (.cells #[.int .i64 c, .int .i64 h, .int .i64 n, .int .i64 s, .string d, .int .i64 t, .bool x, .slice A1 N c1, .int .i64 vo] 72)).alloc (.cells #[.int .i64 c, .int .i64 h, .int .i64 n, .int .i64 s, .string d, .int .i64 t, .bool x, .slice A2 N c2, .int .i64 vo] 72))).cell? ⟨w.heap.size, 8, none⟩ = some (.int .i64 vo) := by simp [go_sem]
  have hc2 : (((w.alloc (.cells #[.int .i64 c, .int .i64 h, .int .i64 n, .int .i64 s, .string d, .int .i64 t, .bool x, .slice A1 N c1, .int .i64 vo] 72)).alloc (.cells #[.int .i64 c, .int .i64 h, .int .i64 n, .int .i64 s, .string d, .int .i64 t, .bool x, .slice A2 N c2, .int .i64 vo] 72))).cell? ⟨w.heap.size + 1, 8, none⟩ = some (.int .i64 vo) := by simp [go_sem]
  refine (laws_eqInt64S _ (ostep hB H1.out) (ostep hB H2.out)).mono ?_
  rintro e w1 ⟨rfl, hb1⟩
  have g1 := cstep hb1 hc1
  have g2 := cstep hb1 hc2
  have HB := Hid.in_ (bstep hB hb1)
  clear hb1 hB hc1 hc2
  go_wp2
  go_ret
  exact ⟨rfl, HB.out⟩
end Go.Proofs.YtlelgpknkgjaeaaGreatDoor

/- Two rows of the calls' own with elements of different types lie apart; a strings.Builder beside such a row. -/
namespace Go.Proofs.YtlelgpknkgjaeaaGreatDoor
open Go.ChangeShapes Go.WideShapes Go.ChangeAt Go.RowKit
set_option linter.unusedSimpArgs false
set_option linter.unusedVariables false
set_option maxRecDepth 20000

theorem own_typed {w : World} {b s n g : Nat} {e : TypeId} {v : Value} {xs : List Value} (h : w.ownsRow b e s v n xs) (hg : v.ownBlock = some g) : ∃ cur, w.heap[g]? = some (.cells cur e (0, 0)) := by
  rcases h.2 with ⟨rfl, _⟩ | ⟨g', cap, cur, rfl, _, hh, _⟩
  · cases hg
  · injection hg with hg
    subst hg
    exact ⟨cur, hh⟩
theorem types_apart {w : World} {b1 s1 n1 b2 s2 n2 : Nat} {e1 e2 : TypeId} {v1 v2 : Value} {xs1 xs2 : List Value} (he : e1 ≠ e2) (h1 : w.ownsRow b1 e1 s1 v1 n1 xs1) (h2 : w.ownsRow b2 e2 s2 v2 n2 xs2) :
    ∀ k, v1.ownBlock = some k → v2.ownBlock ≠ some k := fun k h3 h4 => by
  obtain ⟨c1, hc1⟩ := own_typed h1 h3
  obtain ⟨c2, hc2⟩ := own_typed h2 h4
  rw [hc1] at hc2
  injection hc2 with hc2
  injection hc2 with _ hc2
  exact he hc2
theorem kept_apart {w w' : World} {b1 s1 n1 b2 s2 n2 : Nat} {e1 e2 : TypeId} {v1 v2 : Value} {xs1 xs2 : List Value} (he : e1 ≠ e2) (h1 : w.ownsRow b1 e1 s1 v1 n1 xs1) (h2 : w.ownsRow b2 e2 s2 v2 n2 xs2) (hg : w.grownBy w' v2.ownBlock) : w'.ownsRow b1 e1 s1 v1 n1 xs1 := by
  refine h1.kept hg ?_
  cases h : v1.ownBlock with
  | none => exact .inl rfl
  | some k => exact .inr fun e => types_apart he h1 h2 k h e.symm
theorem off_block {w : World} {b B2 s2 n2 : Nat} {e2 T : TypeId} {dv : Value} {xs : List Value} {cs : Array Value} (he : e2 ≠ T) (h : w.ownsRow B2 e2 s2 dv n2 xs) (hb : w.heap[b]? = some (.cells cs T (0, 0))) : dv.ownBlock = none ∨ dv.ownBlock ≠ some b := by
  right
  intro e
  obtain ⟨c, hc⟩ := own_typed h e
  rw [hc] at hb
  injection hb with hb
  injection hb with _ hb
  exact he hb
theorem setCell_grown (w : World) (b j : Nat) (v : Value) : w.grownBy (w.setCell ⟨b, j, none⟩ v) (some b) where
  os := rfl
  tape := rfl
  output := rfl
  size := by simp [World.setCell]
  block := fun k hk hne => by
    have hne : ¬ b = k := fun e => hne (by rw [e])
    simp [World.setCell, Array.getElem?_modify, hne]
theorem copyCheck_kept {B2 s2 n2 : Nat} {e2 : TypeId} {dv : Value} {xs : List Value} (hT1 : e2 ≠ 147) (B b : Nat) (bs : List Value) (w : World) (h : Lib.IsBuilder 147 5 B b bs w) (hD : w.ownsRow B2 e2 s2 dv n2 xs) :
    Calls Tryz.prog 164 #[.pointer (some ⟨b, 0, none⟩)] w fun e w' => e = .returned (.tuple #[]) ∧ (Lib.BuilderAt 147 5 B b (.pointer (some ⟨b, 0, none⟩)) bs w' ∧ Below B w w' ∧ w'.ownsRow B2 e2 s2 dv n2 xs) := by
  rcases h with h | h
  · refine (copyCheck_fresh b w h.cell0 h.shape h.frozen0).mono ?_
    rintro e w' ⟨rfl, rfl⟩
    obtain ⟨_, v, hb, _⟩ := id h
    exact ⟨rfl, h.used _, (Below.refl B w).setCell (p := ⟨b, 0, none⟩) h.1 _, hD.kept (setCell_grown _ b 0 _) (off_block hT1 hD hb)⟩
  · refine (copyCheck_used b w h.cell0).mono ?_
    rintro e w' ⟨rfl, rfl⟩
    exact ⟨rfl, h, Below.refl B _, hD⟩
set_option maxHeartbeats 2000000 in
/-- 'b.WriteString(s)' beside a row of another element type: that row is kept. -/
theorem writeString_kept {B2 s2 n2 : Nat} {e2 : TypeId} {dv : Value} {xs : List Value} (hT1 : e2 ≠ 147) (hT2 : e2 ≠ 5) (B b : Nat) (bs : List Value) (s : ByteArray) (w : World) (h : Lib.IsBuilder 147 5 B b bs w) (hlen : bs.length + s.size ≤ 140737488355328) (hBw : B ≤ w.heap.size) (hD : w.ownsRow B2 e2 s2 dv n2 xs) :
    Calls Tryz.prog 123 #[.pointer (some ⟨b, 0, none⟩), .string s] w fun e w' => e = .returned (.tuple #[.int .i64 s.size, .nilIface]) ∧ (Lib.BuilderAt 147 5 B b (.pointer (some ⟨b, 0, none⟩)) (bs ++ Lib.strCells s) w' ∧ Below B w w' ∧ w'.ownsRow B2 e2 s2 dv n2 xs) := by
  obtain ⟨i0, hi, hz0, hz1, hz2⟩ := info_parts Tryz.infoByte
  go_enter Tryz.func123, Tryz.ntmps123
  go_wp2_with (go_at_call 164; refine (copyCheck_kept hT1 B b bs _ h hD).mono ?_)
  rintro e w1 ⟨rfl, h1, hb1, hD1⟩
  obtain ⟨hB, v, hbk, hown, hne⟩ := h1
  have c0 : w1.cell? ⟨b, 0, none⟩ = some (.pointer (some ⟨b, 0, none⟩)) := by rw [Lib.cell_of_heap hbk]; rfl
  have c1 : w1.cell? ⟨b, 1, none⟩ = some v := by rw [Lib.cell_of_heap hbk]; rfl
  go_wp2_with (at_builtin; refine Lib.wpList_append_own_string _ rfl _ _ 43 9 rfl B 5 i0 Tryz.underlying43 Tryz.underlying9 hi hz0 hz1 hz2 _ _ _ rfl hown s rfl ?c3 ?c4 ?c5 ?_)
  case c3 => unfold maxLen; omega
  case c4 => omega
  case c5 => have := hb1.size; omega
  intro v' w2 hown' hgrow _
  have hD2 := kept_apart hT2 hD1 hown hgrow
  have hlt : b < w1.heap.size := by
    rcases Nat.lt_or_ge b w1.heap.size with h' | h'
    · exact h'
    · simp [Array.getElem?_eq_none h'] at hbk
  have hb2 : w2.heap[b]? = some (.cells #[.pointer (some ⟨b, 0, none⟩), v] 147 (0, 0)) := by
    rw [hgrow.block b hlt (fun e => hne e.symm)]
    exact hbk
  have d0 : w2.cell? ⟨b, 0, none⟩ = some (.pointer (some ⟨b, 0, none⟩)) := by rw [Lib.cell_of_heap hb2]; rfl
  have d1 : w2.cell? ⟨b, 1, none⟩ = some v := by rw [Lib.cell_of_heap hb2]; rfl
  have f1 : w2.frozen? ⟨b, 1, none⟩ = false := Lib.frozen_of_heap hb2 1
  obtain ⟨ao, n', cap, rfl⟩ : ∃ ao n' cap, v' = .slice ao n' cap := by
    rcases hown'.2 with ⟨hv, _⟩ | ⟨g, cap, cur, hv, _⟩
    · exact ⟨_, _, _, hv⟩
    · exact ⟨_, _, _, hv⟩
  go_wp2
  go_ret2
  refine ⟨rfl, ?_, ?_, ?_⟩
  · exact Lib.BuilderAt.put (T := 147) (e := 5) hB hb2 (bs' := bs ++ Lib.strCells s) (by simpa [Lib.strCells_length] using hown') (by decide)
  · exact (hb1.grown hgrow (by have := hb1.size; omega) (fun k hk => (hown.lt k hk).1)).setCell (p := ⟨b, 1, none⟩) hB _
  · exact hD2.kept (setCell_grown _ b 1 _) (off_block hT1 hD2 hb2)
/-- A row of another element type grows: the builder is kept. -/
theorem builder_kept {w w' : World} {B b B2 s2 n2 : Nat} {e e2 T : TypeId} {p dv : Value} {bs xs : List Value} (hT1 : e2 ≠ T) (hT2 : e2 ≠ e) (h : Lib.BuilderAt T e B b p bs w) (hD : w.ownsRow B2 e2 s2 dv n2 xs) (hg : w.grownBy w' dv.ownBlock) : Lib.BuilderAt T e B b p bs w' := by
  obtain ⟨hB, v, hb, ho, hne⟩ := h
  have hlt : b < w.heap.size := by
    rcases Nat.lt_or_ge b w.heap.size with h' | h'
    · exact h'
    · simp [Array.getElem?_eq_none h'] at hb
  refine ⟨hB, v, ?_, kept_apart (Ne.symm hT2) ho hD hg, hne⟩
  rw [hg.block b hlt (fun e => by rcases off_block hT1 hD hb with h | h; (rw [h] at e; cases e); exact h e.symm)]
  exact hb
theorem builder_any_kept {w w' : World} {B b B2 s2 n2 : Nat} {e e2 T : TypeId} {dv : Value} {bs xs : List Value} (hT1 : e2 ≠ T) (hT2 : e2 ≠ e) (h : Lib.IsBuilder T e B b bs w) (hD : w.ownsRow B2 e2 s2 dv n2 xs) (hg : w.grownBy w' dv.ownBlock) : Lib.IsBuilder T e B b bs w' :=
  h.elim (fun h => .inl (builder_kept hT1 hT2 h hD hg)) fun h => .inr (builder_kept hT1 hT2 h hD hg)
theorem builder_below {w w' : World} {B b : Nat} {e T : TypeId} {bs : List Value} (h : Lib.IsBuilder T e B b bs w) (hb : Below w.heap.size w w') : Lib.IsBuilder T e B b bs w' := by
  have one : ∀ p, Lib.BuilderAt T e B b p bs w → Lib.BuilderAt T e B b p bs w' := fun p h => by
    obtain ⟨hB, v, hh, ho, hne⟩ := h
    have hlt : b < w.heap.size := by
      rcases Nat.lt_or_ge b w.heap.size with h' | h'
      · exact h'
      · simp [Array.getElem?_eq_none h'] at hh
    exact ⟨hB, v, by rw [hb.block b hlt]; exact hh, own_below ho hb (Nat.le_refl _), hne⟩
  exact h.elim (fun h => .inl (one _ h)) fun h => .inr (one _ h)
end Go.Proofs.YtlelgpknkgjaeaaGreatDoor

/- Rows of voted sectors: records that hold a row of numbers each: as arguments that came in, 'szVotedS', 'toVotedS', 'eqVotedS' of the laws. -/
namespace Go.Proofs.YtlelgpknkgjaeaaGreatDoor
open Go.ChangeShapes Go.WideShapes Go.ChangeAt Go.RowKit
set_option linter.unusedSimpArgs false
set_option linter.unusedVariables false
set_option maxRecDepth 8000

structure VotR where
  c : Int
  h : Int
  n : Int
  s : Int
  d : ByteArray
  t : Int
  x : Bool
  l : List Int
  vo : Int
def VotR.cells (r : VotR) (v : Value) : List Value := [.int .i64 r.c, .int .i64 r.h, .int .i64 r.n, .int .i64 r.s, .string r.d, .int .i64 r.t, .bool r.x, v, .int .i64 r.vo]
/-- A record and where its numbers lie: in memory of the calls' own. -/
structure VotO where
  r : VotR
  v : Value
def VotO.cells (o : VotO) : List Value := o.r.cells o.v
theorem VotO.len (o : VotO) : o.cells.length = 9 := rfl
def VotO.zero : VotO := ⟨⟨0, 0, 0, 0, ⟨#[]⟩, 0, false, [], 0⟩, .slice none 0 0⟩
/-- A record and where its numbers lie: in memory that came in. -/
structure VotA where
  r : VotR
  A : Option Addr
  cap : Nat
def VotA.cells (a : VotA) : List Value := a.r.cells (.slice a.A a.r.l.length a.cap)
theorem VotA.len (a : VotA) : a.cells.length = 9 := rfl
def VotA.ok (w : World) (a : VotA) : Prop := ArgS w a.A a.r.l.length a.cap 1 (I64 a.r.l) ∧ a.r.d.size ≤ maxLen
def sumTo (l : List VotR) (k : Nat) : Nat := ((l.take k).map fun r => r.l.length).sum
theorem sumTo_next {l : List VotR} {k : Nat} {m : VotR} (h : l[k]? = some m) : sumTo l (k + 1) = sumTo l k + m.l.length := by
  unfold sumTo
  rw [take_snoc l k m h, List.map_append, List.sum_append]
  simp
/-- A row of records in memory of the calls' own. -/
structure VRow (w : World) (b : Nat) (v : Value) (os : List VotO) : Prop where
  row : w.ownsRow b 72 9 v os.length (os.flatMap VotO.cells)
  weak : ∀ o ∈ os, w.ownsRow b 2 1 o.v o.r.l.length (I64 o.r.l)
  apart : os.Pairwise fun a b => a.v.ownBlock = none ∨ a.v.ownBlock ≠ b.v.ownBlock
theorem VRow.nil (w : World) (b : Nat) : VRow w b (.slice none 0 0) [] := ⟨World.ownsRow_nil _ _ _ _, (fun o ho => by cases ho), List.Pairwise.nil⟩
theorem VRow.step {w w' : World} {b : Nat} {v : Value} {os : List VotO} (k : Below w.heap.size w w') (h : VRow w b v os) : VRow w' b v os :=
  ⟨ostep k h.row, fun o ho => ostep k (h.weak o ho), h.apart⟩
theorem VRow.base {w : World} {b b' : Nat} {v : Value} {os : List VotO} (h : VRow w b v os) (hb : b' ≤ b) : VRow w b' v os :=
  ⟨own_base h.row hb, fun o ho => own_base (h.weak o ho) hb, h.apart⟩
theorem VRow.drewN {w : World} {b : Nat} {v : Value} {os : List VotO} (h : VRow w b v os) (q : Nat) : VRow (w.drewN q) b v os :=
  ⟨own_drewN h.row q, fun o ho => own_drewN (h.weak o ho) q, h.apart⟩
theorem map_get {os : List VotO} {l : List VotR} (h : os.map VotO.r = l) {k : Nat} {o : VotO} (ho : os[k]? = some o) : l[k]? = some o.r := by
  subst h
  rw [List.getElem?_map, ho]
  rfl
theorem fill_set {α : Type} (os : List α) (z : α) (j : Nat) (x : α) : (os ++ List.replicate (j + 1) z).set os.length x = (os ++ [x]) ++ List.replicate j z := by
  rw [List.set_append_right _ _ (Nat.le_refl _), Nat.sub_self, List.replicate_succ, List.set_cons_zero]
  simp
/-- A row of records that is being filled: the places from 'os' on are zero. -/
structure VFill (w : World) (b G n : Nat) (os : List VotO) (j : Nat) : Prop where
  row : w.ownsRow b 72 9 (.slice (some ⟨G, 0, none⟩) n n) n ((os ++ List.replicate j VotO.zero).flatMap VotO.cells)
  weak : ∀ o ∈ os, w.ownsRow b 2 1 o.v o.r.l.length (I64 o.r.l)
  apart : os.Pairwise fun a b => a.v.ownBlock = none ∨ a.v.ownBlock ≠ b.v.ownBlock
theorem pair_snoc {os : List VotO} {w : World} {b b2 : Nat} {o : VotO} (hp : os.Pairwise fun a b => a.v.ownBlock = none ∨ a.v.ownBlock ≠ b.v.ownBlock) (hw : ∀ o ∈ os, w.ownsRow b 2 1 o.v o.r.l.length (I64 o.r.l))
    {w2 : World} (ho : w2.ownsRow b2 2 1 o.v o.r.l.length (I64 o.r.l)) (hb : w.heap.size ≤ b2) : (os ++ [o]).Pairwise fun a b => a.v.ownBlock = none ∨ a.v.ownBlock ≠ b.v.ownBlock := by
  rw [List.pairwise_append]
  refine ⟨hp, List.pairwise_singleton _ _, fun a ha c hc => ?_⟩
  rw [List.mem_singleton] at hc
  subst hc
  exact own_apart (hw a ha) ho hb
theorem VFill.store {w w2 : World} {b b2 G n j : Nat} {os : List VotO} {o : VotO} (h : VFill w b G n os (j + 1)) (hne : 2 ≠ 72) (hb2 : Below w.heap.size w w2) (ho : w2.ownsRow b2 2 1 o.v o.r.l.length (I64 o.r.l)) (hb : w.heap.size ≤ b2) (hbb : b ≤ b2) :
    VFill (setCells w2 G (os.length * 9) o.cells) b G n (os ++ [o]) j := by
  have hr := ostep hb2 h.row
  have hS := own_setRec VotO.len (k := os.length) o (by simp) hr
  rw [fill_set] at hS
  refine ⟨hS.1, fun p hp => ?_, pair_snoc h.apart h.weak ho hb⟩
  rw [List.mem_append, List.mem_singleton] at hp
  rcases hp with hp | rfl
  · exact kept_apart hne (ostep hb2 (h.weak p hp)) hr hS.2
  · exact kept_apart hne (own_base ho hbb) hr hS.2
set_option maxHeartbeats 2000000 in
theorem laws_eqVotedS {v1 v2 : Value} {b1 b2 : Nat} {l1 l2 : List VotO} (w : World) (h1 : VRow w b1 v1 l1) (h2 : VRow w b2 v2 l2) (h12 : l1.map VotO.r = l2.map VotO.r) :
    Calls Tryz.prog 21 #[v1, v2] w fun e w' => e = .returned (.bool true) ∧ Below w.heap.size w w' := by
  have W1 := Hid.in_ h1.weak
  have W2 := Hid.in_ h2.weak
  obtain ⟨n, hn1⟩ : ∃ n, l1.length = n := ⟨_, rfl⟩
  have hn2 : l2.length = n := by have := congrArg List.length h12; rw [List.length_map, List.length_map] at this; omega
  obtain ⟨A1, c1, rfl, hl1, hn, hA1⟩ := own_shape h1.row
  obtain ⟨A2, c2, rfl, hl2, _, hA2⟩ := own_shape h2.row
  rw [hn1] at hA1 hn ⊢
  rw [hn2] at hA2 ⊢
  have HL1 := Hid.in_ hn1
  have HL2 := Hid.in_ hn2
  have HE := Hid.in_ h12
  have H1 := Hid.in_ hA1
  have H2 := Hid.in_ hA2
  clear hA1 hA2 hl1 hl2 h1 h2 h12 hn1 hn2
  go_enter Tryz.func21, Tryz.ntmps21
  go_wp2
  go_loopg [5] n (fun m i wr => ∃ k : Nat, k + m = n ∧ i = .int .i64 k ∧ Below w.heap.size w wr)
  case atStart => exact ⟨0, by omega, rfl, Below.refl _ _⟩
  case round =>
    obtain ⟨k, hkm, rfl, hbw⟩ := hrel
    have HK := Hid.in_ hkm
    have HB := Hid.in_ hbw
    clear hkm hbw
    by_cases hlt : k < n
    · obtain ⟨g1, rfl, _, hg1, hx1, _⟩ := H1.out (by omega)
      obtain ⟨g2, rfl, _, hg2, hx2, _⟩ := H2.out (by omega)
      obtain ⟨⟨mr, mv⟩, hm⟩ := get_lt l1 k (by rw [HL1.out]; exact hlt)
      obtain ⟨⟨qr, qv⟩, hq⟩ := get_lt l2 k (by rw [HL2.out]; exact hlt)
      have he : mr = qr := by
        have e1 := map_get HE.out hm
        rw [List.getElem?_map, hq] at e1
        injection e1 with e1
        exact e1.symm
      subst he
      obtain ⟨c0, c1, c2, c3, c4, c5, c6, c7, c8⟩ := boxAt9 ((Box.elem VotO.len hx1 hm).step HB.out)
      obtain ⟨d0, d1, d2, d3, d4, d5, d6, d7, d8⟩ := boxAt9 ((Box.elem VotO.len hx2 hq).step HB.out)
      have HM1 := Hid.in_ (ostep HB.out (W1.out _ (List.mem_of_getElem? hm)))
      have HM2 := Hid.in_ (ostep HB.out (W2.out _ (List.mem_of_getElem? hq)))
      clear hx1 hx2 hm hq
      obtain ⟨mc, mh, mn, ms, md, mt, mx, ml, mvo⟩ := mr
      go_wp2_with fail
      go_still_tail 8, (by kernel_rfl)
      change wpList _ _ _ _ _ wr.drew
      have HB2 : Hid (Below w.heap.size w wr.drew) := HB.out.drew
      have HN1 : Hid (wr.drew.ownsRow b1 2 1 mv ml.length (I64 ml)) := HM1.out
      have HN2 : Hid (wr.drew.ownsRow b2 2 1 qv ml.length (I64 ml)) := HM2.out
      clear HM1 HM2
      generalize wr.drew = w2 at *
      clear c0 c1 c2 c3 c4 c5 c6 c7 c8 d0 d1 d2 d3 d4 d5 d6 d7 d8
      go_wp2_with fail
      refine (laws_eqVoted _ _ _ _ _ _ _ _ _ HN1.out HN2.out).mono ?_
      rintro e w3 ⟨rfl, hb3⟩
      go_wp2
      have hk := HK.out
      go_roundg (gk - 1)
      case measure => omega
      case rel => exact ⟨k + 1, by omega, by go_num, bstep HB2.out hb3⟩
    · have hk := HK.out
      obtain rfl : k = n := by omega
      go_wp2
      go_ret
      exact ⟨rfl, HB.out⟩
end Go.Proofs.YtlelgpknkgjaeaaGreatDoor

/- Two slices of records held one against the other; the sizes of slices of records. -/
namespace Go.Proofs.YtlelgpknkgjaeaaGreatDoor
open Go.ChangeShapes Go.WideShapes Go.ChangeAt Go.RowKit
set_option linter.unusedVariables false
set_option linter.unusedSimpArgs false
set_option maxRecDepth 4000

def sameAt {α : Type} (f : α → α → Bool) (l1 l2 : List α) (j : Nat) : Bool := match l1[j]?, l2[j]? with
  | some a, some b => f a b
  | _, _ => false
def listSame {α : Type} (f : α → α → Bool) (l1 l2 : List α) : Bool := decide (l1.length = l2.length) && (List.range l1.length).all (sameAt f l1 l2)
theorem listSame_len {α : Type} {f : α → α → Bool} {l1 l2 : List α} (h : ¬ l1.length = l2.length) : listSame f l1 l2 = false := by simp [listSame, h]
theorem listSame_no {α : Type} {f : α → α → Bool} {l1 l2 : List α} {k : Nat} (hk : k < l1.length) (h : sameAt f l1 l2 k = false) : listSame f l1 l2 = false := by
  unfold listSame
  rw [Bool.and_eq_false_iff]
  refine .inr ?_
  rw [← Bool.not_eq_true]
  intro ha
  rw [List.all_eq_true.1 ha k (List.mem_range.2 hk)] at h
  cases h
theorem listSame_all {α : Type} {f : α → α → Bool} {l1 l2 : List α} (hl : l1.length = l2.length) (h : ∀ j, j < l1.length → sameAt f l1 l2 j = true) : listSame f l1 l2 = true := by
  unfold listSame
  rw [Bool.and_eq_true]
  exact ⟨decide_eq_true hl, List.all_eq_true.2 fun j hj => h j (List.mem_range.1 hj)⟩
theorem sameAt_of {α : Type} {f : α → α → Bool} {l1 l2 : List α} {k : Nat} {a b : α} (h1 : l1[k]? = some a) (h2 : l2[k]? = some b) : sameAt f l1 l2 k = f a b := by simp [sameAt, h1, h2]
theorem all_next {p : Nat → Prop} {k : Nat} (h : ∀ j, j < k → p j) (hk : p k) : ∀ j, j < k + 1 → p j := fun j hj => by
  rcases Nat.lt_or_ge j k with h1 | h1
  · exact h j h1
  · obtain rfl : j = k := by omega
    exact hk
theorem eqF_step {P : Program} {w : World} {d : Nat} {xs ys : Array Value} {f : Field} {fs : List Field} {a b : Value} {r R : Bool} (hn : (f.name != "_") = true) (hk : P.plainKey f.type = true) (ha : xs[f.offset]? = some a) (hb : ys[f.offset]? = some b)
    (he : (Op.equalIn d f.type a b).run P w = .ok r w) (hr : (Op.eqFields d xs ys fs).run P w = .ok R w) : (Op.eqFields d xs ys (f :: fs)).run P w = .ok (r && R) w := by
  have hn' : f.name ≠ "_" := by simpa using hn
  simp only [Op.eqFields, hn', ne_eq, not_false_eq_true, if_true, Sem.run_bind, run_part_plain _ hk ha, run_part_plain _ hk hb, Result.andThen_ok, he]
  cases r
  · simp [Sem.run_pure]
  · simpa using hr

def SecR.same (a b : SecR) : Bool := (a.c == b.c) && ((a.h == b.h) && ((a.n == b.n) && ((a.s == b.s) && ((a.d.toList == b.d.toList) && ((a.x == b.x) && ((a.y == b.y) && ((a.z == b.z) && true)))))))
theorem bt_SecR (a b : ByteArray) (h : a.toList = b.toList) : a = b := by rw [ByteArray.toList_eq, ByteArray.toList_eq] at h; exact ByteArray.ext (Array.toList_inj.1 h)
theorem SecR.same_refl (a : SecR) : a.same a = true := by simp [SecR.same]

def FndR.same (a b : FndR) : Bool := (a.c == b.c) && ((a.h == b.h) && ((a.n == b.n) && ((a.s == b.s) && ((a.d.toList == b.d.toList) && ((a.t == b.t) && ((a.l == b.l) && ((a.p == b.p) && true)))))))
theorem bt_FndR (a b : ByteArray) (h : a.toList = b.toList) : a = b := by rw [ByteArray.toList_eq, ByteArray.toList_eq] at h; exact ByteArray.ext (Array.toList_inj.1 h)
theorem FndR.same_refl (a : FndR) : a.same a = true := by simp [FndR.same]
theorem Tryz.guard_FndR (a b : FndR) (op : BinOp) (x y : Operand) (w : World) : (eqGuard op 63 x y (.agg #[.int .i64 a.c, .int .i64 a.h, .int .i64 a.n, .int .i64 a.s, .string a.d, .int .i64 a.t, .bool a.l, .int .i64 a.p]) (.agg #[.int .i64 b.c, .int .i64 b.h, .int .i64 b.n, .int .i64 b.s, .string b.d, .int .i64 b.t, .bool b.l, .int .i64 b.p])).run Tryz.prog w = .ok () w := run_eqGuard_agg w op 63 x y _ _ (by kernel_rfl)
theorem Tryz.neq_FndR (a b : FndR) (w : World) : (binOp .neq 63 (.agg #[.int .i64 a.c, .int .i64 a.h, .int .i64 a.n, .int .i64 a.s, .string a.d, .int .i64 a.t, .bool a.l, .int .i64 a.p]) (.agg #[.int .i64 b.c, .int .i64 b.h, .int .i64 b.n, .int .i64 b.s, .string b.d, .int .i64 b.t, .bool b.l, .int .i64 b.p])).run Tryz.prog w = .ok (.bool (!FndR.same a b)) w := by
  have hE : (Op.equalIn 10000 63 (.agg #[.int .i64 a.c, .int .i64 a.h, .int .i64 a.n, .int .i64 a.s, .string a.d, .int .i64 a.t, .bool a.l, .int .i64 a.p]) (.agg #[.int .i64 b.c, .int .i64 b.h, .int .i64 b.n, .int .i64 b.s, .string b.d, .int .i64 b.t, .bool b.l, .int .i64 b.p])).run Tryz.prog w = .ok (FndR.same a b) w := by
    refine (run_equalIn_agg w 9999 63 _ _ (by kernel_rfl) (by kernel_rfl)).trans ?_
    simp only [Program.fieldsOf, Tryz.underlying63]
    refine eqF_step (by kernel_rfl) (by kernel_rfl) rfl rfl (run_equalIn_int w 9998 2 .i64 .i64 _ _ Tryz.underlying2) ?_
    refine eqF_step (by kernel_rfl) (by kernel_rfl) rfl rfl (run_equalIn_int w 9998 2 .i64 .i64 _ _ Tryz.underlying2) ?_
    refine eqF_step (by kernel_rfl) (by kernel_rfl) rfl rfl (run_equalIn_int w 9998 2 .i64 .i64 _ _ Tryz.underlying2) ?_
    refine eqF_step (by kernel_rfl) (by kernel_rfl) rfl rfl (run_equalIn_int w 9998 2 .i64 .i64 _ _ Tryz.underlying2) ?_
    refine eqF_step (by kernel_rfl) (by kernel_rfl) rfl rfl (run_equalIn_string w 9998 9 _ _ Tryz.underlying9) ?_
    refine eqF_step (by kernel_rfl) (by kernel_rfl) rfl rfl (run_equalIn_int w 9998 2 .i64 .i64 _ _ Tryz.underlying2) ?_
    refine eqF_step (by kernel_rfl) (by kernel_rfl) rfl rfl (run_equalIn_bool w 9998 4 _ _ Tryz.underlying4) ?_
    refine eqF_step (by kernel_rfl) (by kernel_rfl) rfl rfl (run_equalIn_int w 9998 2 .i64 .i64 _ _ Tryz.underlying2) ?_
    rfl
  rw [run_neq_struct, hE]
  rfl

end Go.Proofs.YtlelgpknkgjaeaaGreatDoor

/- Which blocks a call turned: none below a base, and none of other element types. -/
namespace Go.Proofs.YtlelgpknkgjaeaaGreatDoor
open Go.ChangeShapes Go.WideShapes Go.ChangeAt Go.RowKit
set_option linter.unusedSimpArgs false
set_option linter.unusedVariables false

/-- Below b nothing was turned, and no block of cells of a type that is not in T. -/
structure Tch (T : TypeId → Bool) (b : Nat) (w w' : World) : Prop where
  low : Below b w w'
  size : w.heap.size ≤ w'.heap.size
  typ : ∀ (g : Nat) (cs : Array Value) (t : TypeId), w.heap[g]? = some (Obj.cells cs t (0, 0)) → T t = false → w'.heap[g]? = some (Obj.cells cs t (0, 0))
theorem Tch.refl (T : TypeId → Bool) (b : Nat) (w : World) : Tch T b w w := ⟨Below.refl _ _, Nat.le_refl _, fun _ _ _ h _ => h⟩
theorem Tch.trans {T : TypeId → Bool} {b : Nat} {u v w : World} (h : Tch T b u v) (k : Tch T b v w) : Tch T b u w :=
  ⟨h.low.trans k.low, Nat.le_trans h.size k.size, fun g cs t hg ht => k.typ g cs t (h.typ g cs t hg ht) ht⟩
theorem Tch.of_below {T : TypeId → Bool} {b : Nat} {w w' : World} (h : Below w.heap.size w w') (hb : b ≤ w.heap.size) : Tch T b w w' :=
  ⟨h.mono hb, h.size, fun g cs t hg _ => (h.block g (Array.getElem?_eq_some_iff.1 hg).1).trans hg⟩
theorem Tch.of_grown {T : TypeId → Bool} {b B s n : Nat} {w w' : World} {e : TypeId} {v : Value} {xs : List Value} (ho : w.ownsRow B e s v n xs) (hg : w.grownBy w' v.ownBlock) (hT : T e = true) (hb : b ≤ B) (hw : b ≤ w.heap.size) : Tch T b w w' := by
  refine ⟨(Below.refl b w).grown hg hw (fun k hk => Nat.le_trans hb (ho.lt k hk).1), hg.size, fun g cs t h ht => ?_⟩
  rw [hg.block g (Array.getElem?_eq_some_iff.1 h).1 (fun e2 => ?_)]
  · exact h
  · obtain ⟨c, hc⟩ := own_typed ho e2.symm
    rw [hc] at h
    injection h with h
    injection h with _ h
    rw [h, ht] at hT
    cases hT
theorem Tch.own {T : TypeId → Bool} {b B s n : Nat} {w w' : World} {e : TypeId} {v : Value} {xs : List Value} (h : Tch T b w w') (ho : w.ownsRow B e s v n xs) (hT : T e = false) : w'.ownsRow B e s v n xs := by
  refine ⟨ho.1, ?_⟩
  rcases ho.2 with hn | ⟨g, cap, cur, hv, hbg, hg, rest⟩
  · exact .inl hn
  · exact .inr ⟨g, cap, cur, hv, hbg, h.typ g cur e hg hT, rest⟩
theorem Tch.mono {T : TypeId → Bool} {b c : Nat} {w w' : World} (h : Tch T b w w') (hc : c ≤ b) : Tch T c w w' := ⟨h.low.mono hc, h.size, h.typ⟩
end Go.Proofs.YtlelgpknkgjaeaaGreatDoor

/- The marks of strings: 'markText', 'markStringS', 'heldStringS' of the laws. -/
namespace Go.Proofs.YtlelgpknkgjaeaaGreatDoor
open Go.ChangeShapes Go.WideShapes Go.ChangeAt Go.RowKit
set_option linter.unusedSimpArgs false
set_option linter.unusedVariables false
set_option maxRecDepth 4000

def digitB (k : Nat) : ByteArray := ⟨[UInt8.ofNat (48 + k % 10)].toArray⟩
def digitsT : Nat → Nat → ByteArray → ByteArray
  | 0, _, o => o
  | f + 1, k, o => if k = 0 then o else digitsT f (k / 10) (digitB k ++ o)
def mT : ByteArray := ⟨#[109]⟩
def markT (k : Nat) : ByteArray := mT ++ digitsT 20 k ⟨#[]⟩
theorem digitsT_zero (f : Nat) (o : ByteArray) : digitsT f 0 o = o := by
  cases f <;> rfl
theorem digitsT_next {f k : Nat} {o : ByteArray} (h : 0 < k) : digitsT (f + 1) k o = digitsT f (k / 10) (digitB k ++ o) := by
  show (if k = 0 then o else _) = _
  rw [if_neg (by omega)]
theorem digit_cell (k : Nat) : (#[Value.int .u8 (48 + (k : Int) % 10)] : Array Value).toList = Lib.byteCells [UInt8.ofNat (48 + k % 10)] := by
  show [Value.int .u8 (48 + (k : Int) % 10)] = [Value.int .u8 ((UInt8.ofNat (48 + k % 10)).toNat : Int)]
  rw [UInt8.toNat_ofNat']
  congr 2
  omega
theorem conv_one {w : World} {cs : List UInt8} {vs : Array Value} {n : Nat} (hn : vs.size = n) (h : vs.toList = Lib.byteCells cs) (hm : n ≤ maxLen) :
    (convert 43 9 (.slice (some ⟨w.heap.size, 0, none⟩) n n)).run Tryz.prog (w.alloc (.cells vs 5)) = .ok (.string ⟨cs.toArray⟩) (w.alloc (.cells vs 5)) := by
  have := World.ownsRow_lit (base := w.heap.size) (size := 1) (e := 5) w vs n (Nat.le_refl _) hm (by omega)
  rw [h] at this
  exact conv_own Tryz.underlying43 Tryz.underlying5 Tryz.underlying9 this
theorem digitB_size (k : Nat) : (digitB k).size = 1 := rfl
set_option maxHeartbeats 2000000 in
theorem laws_markText (k : Nat) (w : World) (h1 : 0 < k) (h2 : k ≤ 4294967296) :
    Calls Tryz.prog 43 #[.int .i64 k] w fun e w' => e = .returned (.string (markT k)) ∧ Below w.heap.size w w' := by
  obtain ⟨T, hT⟩ : ∃ T, digitsT 20 k ⟨#[]⟩ = T := ⟨_, rfl⟩
  have HV := Hid.in_ (show markT k = mT ++ T by unfold markT; rw [hT])
  have HT := Hid.in_ hT
  clear hT
  go_enter Tryz.func43, Tryz.ntmps43
  go_wp2
  go_loopg [0, 3] 20 (fun m i o wr => ∃ (q : Nat) (s : ByteArray), i = .int .i64 q ∧ o = .string s ∧ q ≤ 4294967296 ∧ s.size + m = 20 ∧ Hid (q < 10 ^ m) ∧ Hid (digitsT m q s = T) ∧ Hid (Below w.heap.size w wr))
  case atStart => exact ⟨k, ⟨#[]⟩, rfl, rfl, h2, rfl, Nat.lt_of_le_of_lt h2 (by decide), HT.out, Below.refl _ _⟩
  case round =>
    obtain ⟨q, s, rfl, rfl, hq, hm, HQ, HD, HB⟩ := hrel
    by_cases h0 : 0 < q
    · obtain ⟨m, hgk⟩ : ∃ m, gk = m + 1 := by
        rcases gk with _ | m
        · have := HQ.out
          omega
        · exact ⟨m, rfl⟩
      have HG := Hid.in_ hgk
      have HQ2 := Hid.in_ (show q / 10 < 10 ^ m by
        have h := HQ.out
        rw [HG.out, Nat.pow_succ] at h
        omega)
      have HD2 := Hid.in_ (show digitsT m (q / 10) (digitB q ++ s) = T by
        have h := HD.out
        rw [HG.out, digitsT_next h0] at h
        exact h)
      have hc := conv_one (n := 1) (w := wr) rfl (digit_cell q) (by decide)
      have hE : (⟨[UInt8.ofNat (48 + q % 10)].toArray⟩ : ByteArray) = digitB q := rfl
      rw [hE] at hc
      have hz := digitB_size q
      have hno : ¬ ((digitB q).size + s.size > 9223372036854775807) := by rw [hz]; omega
      have HZ := Hid.in_ (show (digitB q ++ s).size = s.size + 1 by rw [ByteArray.size_append, hz]; omega)
      have HDV := Hid.in_ (show ((q : Int) / 10) = ((q / 10 : Nat) : Int) by omega)
      go_wp2
      have hgk := HG.out
      have hzz := HZ.out
      go_roundg m
      case measure => omega
      case rel => exact ⟨q / 10, digitB q ++ s, by first | rfl | (rw [HDV.out]), rfl, by omega, by omega, HQ2, HD2, balloc HB.out _⟩
    · obtain rfl : q = 0 := by omega
      have HS := Hid.in_ (show s = T by rw [← HD.out, digitsT_zero])
      have hno : ¬ ((⟨#[109]⟩ : ByteArray).size + s.size > 9223372036854775807) := by show ¬ (1 + s.size > 9223372036854775807); omega
      go_wp2
      go_ret
      refine ⟨?_, HB.out⟩
      rw [HV.out, ← HS.out]
      rfl
def mTexts (m n : Nat) : List ByteArray := (List.range n).map fun i => markT (m + i)
theorem mTexts_len (m n : Nat) : (mTexts m n).length = n := by simp [mTexts]
theorem mTexts_get {m n i : Nat} (h : i < n) : (mTexts m n)[i]? = some (markT (m + i)) := by simp [mTexts, h]
theorem mTexts_step (m n k : Nat) (l : List ByteArray) (hl : l.length = n) (h : k < n) : (Strs (mTexts m k ++ l.drop k)).set k (.string (markT (m + k))) = Strs (mTexts m (k + 1) ++ l.drop (k + 1)) := by
  rw [Strs_set]
  congr 1
  rw [List.set_append_right _ _ (by rw [mTexts_len]; exact Nat.le_refl _), mTexts_len, Nat.sub_self, List.drop_eq_getElem_cons (by omega), List.set_cons_zero]
  unfold mTexts
  rw [List.range_succ, List.map_append, List.append_assoc]
  rfl
/-- A call that leaves all old memory grows by no row. -/
theorem grown_below {w w' : World} (hb : Below w.heap.size w w') (b : Option Nat) : w.grownBy w' b where
  os := hb.os
  tape := hb.tape
  output := hb.output
  size := hb.size
  block := fun k hk _ => hb.block k hk
set_option maxHeartbeats 2000000 in
theorem laws_markStringS {v : Value} {n b : Nat} {l : List ByteArray} (m : Nat) (w : World) (h : w.ownsRow b 9 1 v n (Strs l)) (hm : 0 < m) (hm2 : m ≤ 1048576) (hn2 : n ≤ 1048576) :
    Calls Tryz.prog 23 #[v, .int .i64 m] w fun e w' => e = .returned (.int .i64 (m + n)) ∧ w'.ownsRow b 9 1 v n (Strs (mTexts m n)) ∧ w.grownBy w' v.ownBlock := by
  have hlx : l.length = n := by have := h.1; rw [Strs_len] at this; omega
  obtain ⟨A, c, rfl, hl, hn, hA⟩ := own_shape h
  have HX := Hid.in_ hlx
  have H0 := Hid.in_ h
  clear hA hl h hlx
  go_enter Tryz.func23, Tryz.ntmps23
  go_wp2
  go_loopg [1, 5] n (fun t m' i wr => ∃ k : Nat, k + t = n ∧ i = .int .i64 k ∧ m' = .int .i64 (m + k) ∧ Hid (wr.ownsRow b 9 1 (.slice A n c) n (Strs (mTexts m k ++ l.drop k)) ∧ w.grownBy wr (Value.slice A n c).ownBlock))
  case atStart => exact ⟨0, by omega, rfl, by simp, by simpa [mTexts] using H0.out, World.grownBy.refl _ _⟩
  case round =>
    obtain ⟨k, hkm, rfl, rfl, HO⟩ := hrel
    have HK := Hid.in_ hkm
    clear hkm
    by_cases hlt : k < n
    · go_wp2_with fail
      refine (show Calls Tryz.prog 43 #[.int .i64 ((m : Int) + (k : Int))] _ _ from laws_markText (m + k) _ (by omega) (by omega)).mono ?_
      rintro e w2 ⟨rfl, hb2⟩
      have HO1 := Hid.in_ (And.intro (ostep hb2 HO.out.1) (HO.out.2.trans (grown_below hb2 _)))
      clear hb2 HO
      obtain ⟨A', c', hv, hl', _, hA'⟩ := own_shape HO1.out.1
      obtain ⟨g, hg, _, _, hc, hf⟩ := hA' (by omega)
      obtain ⟨rfl, rfl⟩ : A = A' ∧ c = c' := by injection hv with h1 h2 h3; exact ⟨h1, h3⟩
      subst hg
      obtain ⟨u, hu⟩ := get_lt (Strs (mTexts m k ++ l.drop k)) k (by rw [Strs_len, List.length_append, mTexts_len, List.length_drop, HX.out]; omega)
      have f1 := hc k _ hu
      have f2 := hf k
      have HO2 : Hid ((w2.setCell ⟨g, k, none⟩ (.string (markT (m + k)))).ownsRow b 9 1 (.slice (some ⟨g, 0, none⟩) n c) n (Strs (mTexts m (k + 1) ++ l.drop (k + 1))) ∧ w.grownBy (w2.setCell ⟨g, k, none⟩ (.string (markT (m + k)))) (some g)) := by
        have h1 := (HO1.out.1.stored k (.string (markT (m + k))))
        rw [mTexts_step m n k l HX.out hlt] at h1
        exact ⟨h1.1, World.grownBy.trans HO1.out.2 h1.2⟩
      clear hc hf hu hv hl' HO1
      go_wp2
      have hk := HK.out
      go_roundg (gk - 1)
      case measure => omega
      case rel => exact ⟨k + 1, by omega, by go_num, by go_num, HO2⟩
    · have hk := HK.out
      obtain rfl : k = n := by omega
      have HE : Hid (wr.ownsRow b 9 1 (.slice A k c) k (Strs (mTexts m k)) ∧ w.grownBy wr (Value.slice A k c).ownBlock) := by
        have := HO.out
        rw [List.drop_of_length_le (by rw [HX.out]; exact Nat.le_refl _), List.append_nil] at this
        exact this
      clear HO
      go_wp2
      go_ret
      exact ⟨rfl, HE.out⟩
end Go.Proofs.YtlelgpknkgjaeaaGreatDoor

/- The marks of records that hold one string: 'markSectorSpecS', 'heldSectorSpecS', 'markFoundS'. -/
namespace Go.Proofs.YtlelgpknkgjaeaaGreatDoor
open Go.ChangeShapes Go.WideShapes Go.ChangeAt Go.RowKit
set_option linter.unusedVariables false
set_option linter.unusedSimpArgs false
set_option maxRecDepth 4000

theorem setL_app : ∀ (a b : List Value) (o : Nat) (xs : List Value), setL (setL xs o a) (o + a.length) b = setL xs o (a ++ b)
  | [], b, o, xs => rfl
  | v :: a, b, o, xs => by
    show setL (setL (xs.set o v) (o + 1) a) (o + (a.length + 1)) b = setL (xs.set o v) (o + 1) (a ++ b)
    rw [← setL_app a b (o + 1) (xs.set o v), show o + 1 + a.length = o + (a.length + 1) by omega]
theorem setL_len : ∀ (vs : List Value) (o : Nat) (xs : List Value), (setL xs o vs).length = xs.length
  | [], _, _ => rfl
  | v :: vs, o, xs => by
    show (setL (xs.set o v) (o + 1) vs).length = _
    rw [setL_len vs (o + 1) (xs.set o v), List.length_set]
def mod3 (q : Nat) : Bool := decide (q % 3 = 0)

def SecR.mark (k : Nat) : SecR := ⟨((k : Nat) : Int), ((k + 1 : Nat) : Int), ((k + 2 : Nat) : Int), ((k + 3 : Nat) : Int), markT (k + 4), mod3 (k + 5), mod3 (k + 6), mod3 (k + 7)⟩
def SecR.marks (k : Nat) (n : Nat) : List SecR := (List.range n).map fun (i : Nat) => SecR.mark (k + 8 * i)
theorem SecR.marks_len (k n : Nat) : (SecR.marks k n).length = n := by simp [SecR.marks]
theorem SecR.marks_get (k n i : Nat) (h : i < n) : (SecR.marks k n)[i]? = some (SecR.mark (k + 8 * i)) := by simp [SecR.marks, h]
theorem SecR.marks_succ (k n : Nat) : SecR.marks k (n + 1) = SecR.marks k n ++ [SecR.mark (k + 8 * n)] := by simp [SecR.marks, List.range_succ]
theorem SecR.marks_step (m : Nat) (k : Nat) (l : List SecR) (hk : k < l.length) : (SecR.marks m k ++ l.drop k).set k (SecR.mark (m + 8 * k)) = SecR.marks m (k + 1) ++ l.drop (k + 1) := by
  have h3 : l.drop k = l[k] :: l.drop (k + 1) := List.drop_eq_getElem_cons hk
  rw [SecR.marks_succ, h3, List.set_append_right _ _ (by rw [SecR.marks_len]; omega), SecR.marks_len, Nat.sub_self, List.set_cons_zero]
  simp only [List.append_assoc, List.cons_append, List.nil_append]
theorem SecR.mark_cells {k q : Nat} {S : ByteArray} {b5 b6 b7 : Bool} (hS : markT (k + 4) = S) (h5 : mod3 (k + 5) = b5) (h6 : mod3 (k + 6) = b6) (h7 : mod3 (k + 7) = b7) (hq : k = q) : SecR.cells (SecR.mark k) = [.int .i64 ((q : Int)), .int .i64 ((q : Int) + 1), .int .i64 ((q : Int) + 2), .int .i64 ((q : Int) + 3)] ++ [.string S, .bool b5, .bool b6, .bool b7] := by
  subst hq hS h5 h6 h7
  rfl
theorem mod3_at {q i : Nat} {b : Bool} {x : Int} (hx : x = (q : Int) + (i : Int)) (h : mod3 (q + i) = b) : ((x % 3 == 0) = b) := by
  subst hx
  unfold mod3 at h
  rw [← h, Bool.eq_iff_iff, beq_iff_eq, decide_eq_true_iff]
  omega
def FndR.mark (k : Nat) : FndR := ⟨((k : Nat) : Int), ((k + 1 : Nat) : Int), ((k + 2 : Nat) : Int), ((k + 3 : Nat) : Int), markT (k + 4), ((k + 5 : Nat) : Int), mod3 (k + 6), ((k + 7 : Nat) : Int)⟩
def FndR.marks (k : Nat) (n : Nat) : List FndR := (List.range n).map fun (i : Nat) => FndR.mark (k + 8 * i)
theorem FndR.marks_len (k n : Nat) : (FndR.marks k n).length = n := by simp [FndR.marks]
theorem FndR.marks_get (k n i : Nat) (h : i < n) : (FndR.marks k n)[i]? = some (FndR.mark (k + 8 * i)) := by simp [FndR.marks, h]
theorem FndR.marks_succ (k n : Nat) : FndR.marks k (n + 1) = FndR.marks k n ++ [FndR.mark (k + 8 * n)] := by simp [FndR.marks, List.range_succ]
theorem FndR.marks_step (m : Nat) (k : Nat) (l : List FndR) (hk : k < l.length) : (FndR.marks m k ++ l.drop k).set k (FndR.mark (m + 8 * k)) = FndR.marks m (k + 1) ++ l.drop (k + 1) := by
  have h3 : l.drop k = l[k] :: l.drop (k + 1) := List.drop_eq_getElem_cons hk
  rw [FndR.marks_succ, h3, List.set_append_right _ _ (by rw [FndR.marks_len]; omega), FndR.marks_len, Nat.sub_self, List.set_cons_zero]
  simp only [List.append_assoc, List.cons_append, List.nil_append]
theorem FndR.mark_cells {k q : Nat} {S : ByteArray} {b6 : Bool} (hS : markT (k + 4) = S) (h6 : mod3 (k + 6) = b6) (hq : k = q) : FndR.cells (FndR.mark k) = [.int .i64 ((q : Int)), .int .i64 ((q : Int) + 1), .int .i64 ((q : Int) + 2), .int .i64 ((q : Int) + 3)] ++ [.string S, .int .i64 ((q : Int) + 5), .bool b6, .int .i64 ((q : Int) + 7)] := by
  subst hq hS h6
  rfl
set_option maxHeartbeats 4000000 in
theorem laws_markFoundS {v : Value} {n b : Nat} {l : List FndR} (m : Nat) (w : World) (h : w.ownsRow b 63 8 v n (l.flatMap FndR.cells)) (hm : 0 < m) (hm2 : m ≤ 16777216) (hn2 : n ≤ 1048576) :
    Calls Tryz.prog 15 #[v, .int .i64 m] w fun e w' => e = .returned (.int .i64 ((m + 8 * n : Nat) : Int)) ∧ w'.ownsRow b 63 8 v n ((FndR.marks m n).flatMap FndR.cells) ∧ w.grownBy w' v.ownBlock := by
  have hlx : l.length = n := by have := h.1; rw [flat_len FndR.len] at this; omega
  obtain ⟨A, c, rfl, hl, hn, hA⟩ := own_shape h
  have HX := Hid.in_ hlx
  have H0 := Hid.in_ h
  clear hA hl h hlx
  go_enter Tryz.func15, Tryz.ntmps15
  go_wp2
  go_loopg [1, 5] n (fun r m' i wr => ∃ k q : Nat, k + r = n ∧ q = m + 8 * k ∧ i = .int .i64 k ∧ m' = .int .i64 q ∧ Hid (wr.ownsRow b 63 8 (.slice A n c) n ((FndR.marks m k ++ l.drop k).flatMap FndR.cells) ∧ w.grownBy wr (Value.slice A n c).ownBlock))
  case atStart => exact ⟨0, m, by omega, by omega, rfl, rfl, by simpa [FndR.marks] using H0.out, World.grownBy.refl _ _⟩
  case round =>
    obtain ⟨k, q, hkm, hq, rfl, rfl, HO⟩ := hrel
    have HK := Hid.in_ (And.intro hkm hq)
    by_cases hlt : k < n
    · obtain ⟨A', c', hv, hl', _, hA'⟩ := own_shape HO.out.1
      obtain ⟨g, hg, _, _, hx, hfz⟩ := hA' (by omega)
      obtain ⟨rfl, rfl⟩ : A = A' ∧ c = c' := by injection hv with h1 h2 h3; exact ⟨h1, h3⟩
      subst hg
      have hlen : k < (FndR.marks m k ++ l.drop k).length := by rw [List.length_append, FndR.marks_len, List.length_drop, HX.out]; omega
      obtain ⟨y, hy⟩ := get_lt _ k hlen
      obtain ⟨c0, c1, c2, c3, c4, c5, c6, c7⟩ := boxAt8 (Box.elem FndR.len hx hy)
      have f0 := hfz (k * 8)
      have f1 := hfz (k * 8 + 1)
      have f2 := hfz (k * 8 + 2)
      have f3 := hfz (k * 8 + 3)
      have hqb : q ≤ 33554432 := by omega
      have hS := own_setCells [.int .i64 ((q : Int)), .int .i64 ((q : Int) + 1), .int .i64 ((q : Int) + 2), .int .i64 ((q : Int) + 3)] (k * 8) HO.out.1
      have HS1 := Hid.in_ hS.1
      have HG1 := Hid.in_ (World.grownBy.trans (show w.grownBy wr (some g) from HO.out.2) hS.2)
      have HLN := Hid.in_ hlen
      clear hS hx hfz hy hv hl' HO hA' hlen hkm hq
      go_wp2_with fail
      refine (show Calls Tryz.prog 43 #[.int .i64 ((q : Int) + 4)] _ _ from laws_markText (q + 4) _ (by omega) (by omega)).mono ?_
      rintro e w2 ⟨rfl, hb2⟩
      have HS2 := Hid.in_ (ostep hb2 HS1.out)
      have HG2 := Hid.in_ (HG1.out.trans (grown_below hb2 _))
      clear hb2 HS1 HG1 c0 c1 c2 c3 c4 c5 c6 c7 f0 f1 f2 f3
      obtain ⟨A', c', hv, hl', _, hA'⟩ := own_shape HS2.out
      obtain ⟨g', hg, _, _, hx2, hfz2⟩ := hA' (by omega)
      obtain ⟨rfl, rfl⟩ : some ⟨g, 0, none⟩ = A' ∧ c = c' := by injection hv with h1 h2 h3; exact ⟨h1, h3⟩
      obtain rfl : g = g' := by injection hg with h1; injection h1
      have hlen := HLN.out
      obtain ⟨u4, hu4⟩ := get_lt (setL ((FndR.marks m k ++ l.drop k).flatMap FndR.cells) (k * 8) [.int .i64 ((q : Int)), .int .i64 ((q : Int) + 1), .int .i64 ((q : Int) + 2), .int .i64 ((q : Int) + 3)]) (k * 8 + 4) (by rw [setL_len, flat_len FndR.len]; omega)
      have d4 := hx2 (k * 8 + 4) _ hu4
      obtain ⟨u5, hu5⟩ := get_lt (setL ((FndR.marks m k ++ l.drop k).flatMap FndR.cells) (k * 8) [.int .i64 ((q : Int)), .int .i64 ((q : Int) + 1), .int .i64 ((q : Int) + 2), .int .i64 ((q : Int) + 3)]) (k * 8 + 5) (by rw [setL_len, flat_len FndR.len]; omega)
      have d5 := hx2 (k * 8 + 5) _ hu5
      obtain ⟨u6, hu6⟩ := get_lt (setL ((FndR.marks m k ++ l.drop k).flatMap FndR.cells) (k * 8) [.int .i64 ((q : Int)), .int .i64 ((q : Int) + 1), .int .i64 ((q : Int) + 2), .int .i64 ((q : Int) + 3)]) (k * 8 + 6) (by rw [setL_len, flat_len FndR.len]; omega)
      have d6 := hx2 (k * 8 + 6) _ hu6
      obtain ⟨u7, hu7⟩ := get_lt (setL ((FndR.marks m k ++ l.drop k).flatMap FndR.cells) (k * 8) [.int .i64 ((q : Int)), .int .i64 ((q : Int) + 1), .int .i64 ((q : Int) + 2), .int .i64 ((q : Int) + 3)]) (k * 8 + 7) (by rw [setL_len, flat_len FndR.len]; omega)
      have d7 := hx2 (k * 8 + 7) _ hu7
      have f4 := hfz2 (k * 8 + 4)
      have f5 := hfz2 (k * 8 + 5)
      have f6 := hfz2 (k * 8 + 6)
      have f7 := hfz2 (k * 8 + 7)
      obtain ⟨S, hS⟩ : ∃ S, markT (q + 4) = S := ⟨_, rfl⟩
      rw [hS]
      obtain ⟨b6, hb6⟩ : ∃ b, mod3 (q + 6) = b := ⟨_, rfl⟩
      have e6 := mod3_at (q := q) (i := 6) (x := (q : Int) + 1 + 1 + 1 + 1 + 1 + 1) (by omega) hb6
      have hT := own_setCells [.string S, .int .i64 ((q : Int) + 5), .bool b6, .int .i64 ((q : Int) + 7)] (k * 8 + 4) HS2.out
      have hSQ := setL_app [.int .i64 ((q : Int)), .int .i64 ((q : Int) + 1), .int .i64 ((q : Int) + 2), .int .i64 ((q : Int) + 3)] [.string S, .int .i64 ((q : Int) + 5), .bool b6, .int .i64 ((q : Int) + 7)] (k * 8) ((FndR.marks m k ++ l.drop k).flatMap FndR.cells)
      have hE := setL_flat FndR.len (FndR.mark q) (FndR.marks m k ++ l.drop k) k hlen
      rw [FndR.mark_cells hS hb6 rfl, ← hSQ, show q = m + 8 * k from HK.out.2, FndR.marks_step m k l (by rw [HX.out]; exact hlt), ← HK.out.2] at hE
      have HO2 : Hid (_ ∧ _) := And.intro (show (setCells w2 g (k * 8 + 4) [.string S, .int .i64 ((q : Int) + 5), .bool b6, .int .i64 ((q : Int) + 7)]).ownsRow b 63 8 (.slice (some ⟨g, 0, none⟩) n c) n ((FndR.marks m (k + 1) ++ l.drop (k + 1)).flatMap FndR.cells) from by have h := hT.1; rw [show k * 8 + 4 = k * 8 + ([.int .i64 ((q : Int)), .int .i64 ((q : Int) + 1), .int .i64 ((q : Int) + 2), .int .i64 ((q : Int) + 3)] : List Value).length from rfl, hE] at h; exact h) (World.grownBy.trans HG2.out hT.2)
      clear hT hSQ hE hx2 hfz2 hv hl' hA' hlen hS HS2 HG2 HLN hb6
      go_wp2
      have hk := HK.out
      go_roundg (gk - 1)
      case measure => omega
      case rel => exact ⟨k + 1, q + 8, by omega, by omega, by go_num, by go_num, HO2⟩
    · have hk := HK.out
      obtain rfl : k = n := by omega
      have HE : Hid (wr.ownsRow b 63 8 (.slice A k c) k ((FndR.marks m k).flatMap FndR.cells) ∧ w.grownBy wr (Value.slice A k c).ownBlock) := by
        have := HO.out
        rw [List.drop_of_length_le (by rw [HX.out]; exact Nat.le_refl _), List.append_nil] at this
        exact this
      have hqq := hk.2
      clear HO
      go_wp2
      go_ret
      exact ⟨show Ending.returned (.int .i64 ((q : Nat) : Int)) = _ by rw [hqq], HE.out⟩
set_option maxHeartbeats 4000000 in
theorem laws_heldFoundS {v : Value} {n b : Nat} (m : Nat) (w : World) (h : w.ownsRow b 63 8 v n ((FndR.marks m n).flatMap FndR.cells)) (hm : 0 < m) (hm2 : m ≤ 16777216) (hn2 : n ≤ 1048576) :
    Calls Tryz.prog 16 #[v, .int .i64 m] w fun e w' => e = .returned (.int .i64 ((m + 8 * n : Nat) : Int)) ∧ Below w.heap.size w w' := by
  obtain ⟨A, c, rfl, hl, hn, hA⟩ := own_shape h
  have H1 := Hid.in_ hA
  clear hA hl h
  go_enter Tryz.func16, Tryz.ntmps16
  go_wp2
  go_loopg [1, 5] n (fun r m' i wr => ∃ k q : Nat, k + r = n ∧ q = m + 8 * k ∧ i = .int .i64 k ∧ m' = .int .i64 q ∧ Hid (Below w.heap.size w wr))
  case atStart => exact ⟨0, m, by omega, by omega, rfl, rfl, Below.refl _ _⟩
  case round =>
    obtain ⟨k, q, hkm, hq, rfl, rfl, HB⟩ := hrel
    have HK := Hid.in_ (And.intro hkm hq)
    by_cases hlt : k < n
    · obtain ⟨g, rfl, _, _, hx, _⟩ := H1.out (by omega)
      have hB := (Box.elem FndR.len hx (FndR.marks_get m n k hlt)).step HB.out
      obtain ⟨c0, c1, c2, c3, c4, c5, c6, c7⟩ := boxAt8 hB
      rw [← hq] at c0 c1 c2 c3 c4 c5 c6 c7
      simp only [FndR.mark] at c0 c1 c2 c3 c4 c5 c6 c7
      have hqb : q ≤ 33554432 := by omega
      have HM := Hid.in_ (fun w => show Calls Tryz.prog 43 #[.int .i64 ((q : Int) + 1 + 1 + 1 + 1)] w _ from laws_markText (q + 4) w (by omega) (by omega))
      obtain ⟨S, hS⟩ : ∃ S, markT (q + 4) = S := ⟨_, rfl⟩
      rw [hS] at HM c4
      obtain ⟨b6, hb6⟩ : ∃ b, mod3 (q + 6) = b := ⟨_, rfl⟩
      have e6 := mod3_at (q := q) (i := 6) (x := (q : Int) + 1 + 1 + 1 + 1 + 1 + 1) (by omega) hb6
      have c0 : wr.cell? _ = some (.int .i64 ((q : Int))) := c0
      have c1 : wr.cell? _ = some (.int .i64 ((q : Int) + 1)) := c1
      have c2 : wr.cell? _ = some (.int .i64 ((q : Int) + 1 + 1)) := c2
      have c3 : wr.cell? _ = some (.int .i64 ((q : Int) + 1 + 1 + 1)) := c3
      have c5 : wr.cell? _ = some (.int .i64 ((q : Int) + 1 + 1 + 1 + 1 + 1)) := c5
      rw [hb6] at c6
      have c7 : wr.cell? _ = some (.int .i64 ((q : Int) + 1 + 1 + 1 + 1 + 1 + 1 + 1)) := c7
      have HC := Hid.in_ c4
      have HC5 := Hid.in_ c5
      have HC6 := Hid.in_ c6
      have HC7 := Hid.in_ c7
      clear hx hB hkm hq hS hb6 c5 c6 c7
      go_wp2_with fail
      go_region_with (go_at_call 43; refine (HM.out _).mono ?_; rintro e w2 ⟨rfl, hb2⟩; have hb2' := ((Below.refl wr.heap.size wr).drew).trans hb2; have c4 := cstep hb2' HC.out)
      all_goals
        have d5 := cstep hb2' HC5.out
        have d6 := cstep hb2' HC6.out
        have d7 := cstep hb2' HC7.out
        go_wp2
        have hk := HK.out
        go_roundg (gk - 1)
        case measure => omega
        case rel => exact ⟨k + 1, q + 8, by omega, by omega, by go_num, by go_num, HB.out.trans (hb2'.mono HB.out.size)⟩
    · have hk := HK.out
      obtain rfl : k = n := by omega
      have hqq := hk.2
      go_wp2
      go_ret
      exact ⟨show Ending.returned (.int .i64 ((q : Nat) : Int)) = _ by rw [hqq], HB.out⟩
end Go.Proofs.YtlelgpknkgjaeaaGreatDoor

/- Rows of rows of found sectors: as arguments that came in, 'szFoundSS', 'toFoundSS', 'eqFoundSS', 'markFoundSS' of the laws. -/
namespace Go.Proofs.YtlelgpknkgjaeaaGreatDoor
open Go.ChangeShapes Go.WideShapes Go.ChangeAt Go.RowKit
set_option linter.unusedSimpArgs false
set_option linter.unusedVariables false
set_option maxRecDepth 8000

/-- A list and where it lies: in memory of the calls' own. -/
structure FsO where
  r : List FndR
  v : Value
def FsO.cells (o : FsO) : List Value := [o.v]
theorem FsO.len (o : FsO) : o.cells.length = 1 := rfl
def FsO.zero : FsO := ⟨[], .slice none 0 0⟩
/-- A list and where it lies: in memory that came in. -/
structure FsA where
  r : List FndR
  A : Option Addr
  cap : Nat
def FsA.cells (a : FsA) : List Value := [.slice a.A a.r.length a.cap]
theorem FsA.len (a : FsA) : a.cells.length = 1 := rfl
def FsA.ok (w : World) (a : FsA) : Prop := ArgS w a.A a.r.length a.cap 8 (a.r.flatMap FndR.cells) ∧ ∀ x ∈ a.r, x.ok
def sumL (l : List (List FndR)) (k : Nat) : Nat := ((l.take k).map List.length).sum
theorem sumL_next {l : List (List FndR)} {k : Nat} {m : List FndR} (h : l[k]? = some m) : sumL l (k + 1) = sumL l k + m.length := by
  unfold sumL
  rw [take_snoc l k m h, List.map_append, List.sum_append]
  simp
theorem sumL_mono (l : List (List FndR)) : ∀ (n k : Nat), k ≤ n → sumL l k ≤ sumL l n := by
  intro n
  induction n with
  | zero => intro k hk; obtain rfl : k = 0 := by omega
            exact Nat.le_refl _
  | succ n ih =>
    intro k hk
    rcases Nat.lt_or_ge k (n + 1) with h | h
    · refine Nat.le_trans (ih k (by omega)) ?_
      cases hn : l[n]? with
      | none =>
        unfold sumL
        rw [List.take_add_one, hn]
        simp
      | some m => rw [sumL_next hn]; omega
    · obtain rfl : k = n + 1 := by omega
      exact Nat.le_refl _
/-- A row of rows in memory of the calls' own. -/
structure FsRow (w : World) (b : Nat) (v : Value) (os : List FsO) : Prop where
  row : w.ownsRow b 28 1 v os.length (os.flatMap FsO.cells)
  each : ∀ o ∈ os, w.ownsRow b 63 8 o.v o.r.length (o.r.flatMap FndR.cells)
  apart : os.Pairwise fun a b => a.v.ownBlock = none ∨ a.v.ownBlock ≠ b.v.ownBlock
theorem FsRow.step {w w' : World} {b : Nat} {v : Value} {os : List FsO} (k : Below w.heap.size w w') (h : FsRow w b v os) : FsRow w' b v os :=
  ⟨ostep k h.row, fun o ho => ostep k (h.each o ho), h.apart⟩
theorem FsRow.base {w : World} {b b' : Nat} {v : Value} {os : List FsO} (h : FsRow w b v os) (hb : b' ≤ b) : FsRow w b' v os :=
  ⟨own_base h.row hb, fun o ho => own_base (h.each o ho) hb, h.apart⟩
theorem fso_get {os : List FsO} {l : List (List FndR)} (h : os.map FsO.r = l) {k : Nat} {o : FsO} (ho : os[k]? = some o) : l[k]? = some o.r := by
  subst h
  rw [List.getElem?_map, ho]
  rfl
/-- A row that is being filled: the places from 'os' on are zero. -/
structure FFill (w : World) (b G n : Nat) (os : List FsO) (j : Nat) : Prop where
  row : w.ownsRow b 28 1 (.slice (some ⟨G, 0, none⟩) n n) n ((os ++ List.replicate j FsO.zero).flatMap FsO.cells)
  each : ∀ o ∈ os, w.ownsRow b 63 8 o.v o.r.length (o.r.flatMap FndR.cells)
  apart : os.Pairwise fun a b => a.v.ownBlock = none ∨ a.v.ownBlock ≠ b.v.ownBlock
theorem fpair_snoc {os : List FsO} {w : World} {b b2 : Nat} {o : FsO} (hp : os.Pairwise fun a b => a.v.ownBlock = none ∨ a.v.ownBlock ≠ b.v.ownBlock) (hw : ∀ o ∈ os, w.ownsRow b 63 8 o.v o.r.length (o.r.flatMap FndR.cells))
    {w2 : World} (ho : w2.ownsRow b2 63 8 o.v o.r.length (o.r.flatMap FndR.cells)) (hb : w.heap.size ≤ b2) : (os ++ [o]).Pairwise fun a b => a.v.ownBlock = none ∨ a.v.ownBlock ≠ b.v.ownBlock := by
  rw [List.pairwise_append]
  refine ⟨hp, List.pairwise_singleton _ _, fun a ha c hc => ?_⟩
  rw [List.mem_singleton] at hc
  subst hc
  exact own_apart (hw a ha) ho hb
theorem FFill.store {w w2 : World} {b b2 G n j : Nat} {os : List FsO} {o : FsO} (h : FFill w b G n os (j + 1)) (hb2 : Below w.heap.size w w2) (ho : w2.ownsRow b2 63 8 o.v o.r.length (o.r.flatMap FndR.cells)) (hb : w.heap.size ≤ b2) (hbb : b ≤ b2) :
    FFill (setCells w2 G (os.length * 1) o.cells) b G n (os ++ [o]) j := by
  have hr := ostep hb2 h.row
  have hS := own_setRec FsO.len (k := os.length) o (by simp) hr
  rw [fill_set] at hS
  refine ⟨hS.1, fun p hp => ?_, fpair_snoc h.apart h.each ho hb⟩
  rw [List.mem_append, List.mem_singleton] at hp
  rcases hp with hp | rfl
  · exact kept_apart (by decide) (ostep hb2 (h.each p hp)) hr hS.2
  · exact kept_apart (by decide) (own_base ho hbb) hr hS.2
theorem fmap_snoc {os : List FsO} {l : List (List FndR)} {k : Nat} {o : FsO} (h : os.map FsO.r = l.take k) (hk : l[k]? = some o.r) : (os ++ [o]).map FsO.r = l.take (k + 1) := by
  rw [List.map_append, h, take_snoc l k o.r hk]
  rfl
def fndT (t : TypeId) : Bool := t == 63
theorem fndT_f : fndT 63 = true := by decide
theorem fndT_s : fndT 28 = false := by decide
end Go.Proofs.YtlelgpknkgjaeaaGreatDoor

/- Lists of sectors that were found: 'validFounds', 'l09List'. -/
namespace Go.Proofs.YtlelgpknkgjaeaaGreatDoor
open Go.ChangeShapes Go.WideShapes Go.ChangeAt Go.RowKit
set_option linter.unusedVariables false
set_option linter.unusedSimpArgs false
set_option maxRecDepth 4000

def okFnd (r : FndR) : Bool := validFound r.c r.h r.n r.s r.d r.t r.l r.p
def okFnds (l : List FndR) : Bool := l.all okFnd && decide (l.length ≤ 64)
theorem fnds_no {l : List FndR} {k : Nat} {m : FndR} (h : l[k]? = some m) (hv : okFnd m = false) : okFnds l = false := by
  have : l.all okFnd = false := by
    rw [List.all_eq_false]
    exact ⟨m, List.mem_of_getElem? h, by rw [hv]; decide⟩
  unfold okFnds
  rw [this]
  rfl
theorem fnds_yes {l : List FndR} {n : Nat} (hl : l.length = n) (h : ∀ j m, j < n → l[j]? = some m → okFnd m = true) : okFnds l = decide ((n : Int) ≤ 64) := by
  have : l.all okFnd = true := by
    rw [List.all_eq_true]
    intro m hm
    obtain ⟨j, hj, hx⟩ := List.getElem_of_mem hm
    exact h j m (by omega) (by rw [List.getElem?_eq_getElem hj, hx])
  unfold okFnds
  rw [this, hl, Bool.true_and]
  congr 1
  exact propext ⟨fun h => by omega, fun h => by omega⟩
theorem fnds_next {l : List FndR} {k : Nat} (h : ∀ j m, j < k → l[j]? = some m → okFnd m = true) {m : FndR} (hm : l[k]? = some m) (hv : okFnd m = true) : ∀ j m, j < k + 1 → l[j]? = some m → okFnd m = true := fun j x hj hx => by
  rcases Nat.lt_or_ge j k with h1 | h1
  · exact h j x h1 hx
  · obtain rfl : j = k := by omega
    rw [hm] at hx
    injection hx with hx
    rw [← hx]
    exact hv
end Go.Proofs.YtlelgpknkgjaeaaGreatDoor

/- The bytes of several strings at one place. -/
namespace Go.Proofs.YtlelgpknkgjaeaaGreatDoor
open Go.ChangeShapes Go.WideShapes Go.ChangeAt Go.RowKit
set_option linter.unusedSimpArgs false
set_option linter.unusedVariables false

def revLen (l : List ByteArray) : Nat := (l.headD ⟨#[]⟩).size
theorem head_get {l : List ByteArray} (h : 0 < l.length) : ∃ s0, l[0]? = some s0 ∧ s0.size = revLen l := by
  cases l with
  | nil => simp at h
  | cons x l => exact ⟨x, rfl, rfl⟩
/-- The byte at place 'k' of the string 'j'. -/
def colAt (l : List ByteArray) (k j : Nat) : UInt8 := byteAt (l.getD j ⟨#[]⟩) k
theorem colAt_eq {l : List ByteArray} {j k : Nat} {s : ByteArray} (h : l[j]? = some s) : colAt l k j = byteAt s k := by
  unfold colAt
  rw [List.getD_eq_getElem?_getD, h]
  rfl
theorem byteCells_set (m : List UInt8) (k : Nat) (c : UInt8) : (Lib.byteCells m).set k (.int .u8 (c.toNat : Int)) = Lib.byteCells (m.set k c) := by unfold Lib.byteCells; rw [List.map_set]
theorem byte_cases' (c d : UInt8) : (c = d) ∨ (((c.toNat : Int) != (d.toNat : Int)) = true ∧ c ≠ d) := by
  by_cases h : c = d
  · exact .inl h
  · exact .inr ⟨bne_iff_ne.2 fun e => h (UInt8.toNat_inj.1 (by omega)), h⟩
theorem colAt_val {l : List ByteArray} {i k : Nat} {s : ByteArray} (hs : l[i]? = some s) (hk : k < s.size) {c : UInt8} (hc : s[k] = c) : colAt l k i = c := by
  rw [colAt_eq hs, byteAt_eq hk, hc]
end Go.Proofs.YtlelgpknkgjaeaaGreatDoor

/- The byte that most of some strings have at a place, and the places at which not all are the same: plain side of 'VoteBytes'. -/
namespace Go.Proofs.YtlelgpknkgjaeaaGreatDoor
open Go.ChangeShapes Go.WideShapes Go.ChangeAt Go.RowKit
set_option linter.unusedSimpArgs false
set_option linter.unusedVariables false

def cntTo (l : List ByteArray) (k : Nat) (c : UInt8) : Nat → Nat
  | 0 => 0
  | i + 1 => cntTo l k c i + if colAt l k i = c then 1 else 0
theorem cntTo_le (l : List ByteArray) (k : Nat) (c : UInt8) : ∀ i, cntTo l k c i ≤ i
  | 0 => Nat.le_refl _
  | i + 1 => by
    have := cntTo_le l k c i
    unfold cntTo
    split <;> omega
theorem cntTo_all {l : List ByteArray} {k : Nat} {c : UInt8} : ∀ {i : Nat}, (∀ j, j < i → colAt l k j = c) → cntTo l k c i = i
  | 0, _ => rfl
  | i + 1, h => by
    unfold cntTo
    rw [cntTo_all fun j hj => h j (by omega), if_pos (h i (by omega))]
theorem cntTo_full {l : List ByteArray} {k : Nat} {c : UInt8} : ∀ {i : Nat}, cntTo l k c i = i → ∀ j, j < i → colAt l k j = c
  | 0, _, j, hj => by omega
  | i + 1, h, j, hj => by
    have h1 := cntTo_le l k c i
    unfold cntTo at h
    by_cases hc : colAt l k i = c
    · rw [if_pos hc] at h
      rcases Nat.lt_or_ge j i with h2 | h2
      · exact cntTo_full (by omega) j h2
      · obtain rfl : j = i := by omega
        exact hc
    · rw [if_neg hc] at h
      omega
theorem cnt_next1 {l : List ByteArray} {k i : Nat} {c : UInt8} (h : colAt l k i = c) : cntTo l k c (i + 1) = cntTo l k c i + 1 := by
  show cntTo l k c i + (if colAt l k i = c then 1 else 0) = _
  rw [if_pos h]
theorem cnt_next0 {l : List ByteArray} {k i : Nat} {c : UInt8} (h : colAt l k i ≠ c) : cntTo l k c (i + 1) = cntTo l k c i := by
  show cntTo l k c i + (if colAt l k i = c then 1 else 0) = _
  rw [if_neg h, Nat.add_zero]
def cntN (l : List ByteArray) (k b : Nat) : Nat := cntTo l k (UInt8.ofNat b) l.length
def bestTo (l : List ByteArray) (k : Nat) : Nat → Nat
  | 0 => 0
  | m + 1 => if cntN l k (bestTo l k m) < cntN l k m then m else bestTo l k m
theorem bestTo_yes {l : List ByteArray} {k m : Nat} (h : cntN l k (bestTo l k m) < cntN l k m) : bestTo l k (m + 1) = m := by
  show (if _ then _ else _) = _
  rw [if_pos h]
theorem bestTo_no {l : List ByteArray} {k m : Nat} (h : ¬ cntN l k (bestTo l k m) < cntN l k m) : bestTo l k (m + 1) = bestTo l k m := by
  show (if _ then _ else _) = _
  rw [if_neg h]
theorem bestTo_le (l : List ByteArray) (k : Nat) : ∀ m, bestTo l k m ≤ m - 1
  | 0 => Nat.le_refl _
  | m + 1 => by
    have := bestTo_le l k m
    unfold bestTo
    split <;> omega
theorem bestTo_max (l : List ByteArray) (k : Nat) : ∀ m b, b < m → cntN l k b ≤ cntN l k (bestTo l k m)
  | m + 1, b, h => by
    have h1 := bestTo_max l k m b
    by_cases hc : cntN l k (bestTo l k m) < cntN l k m
    · rw [bestTo_yes hc]
      rcases Nat.lt_or_ge b m with h2 | h2
      · have := h1 h2; omega
      · obtain rfl : b = m := by omega
        exact Nat.le_refl _
    · rw [bestTo_no hc]
      rcases Nat.lt_or_ge b m with h2 | h2
      · exact h1 h2
      · obtain rfl : b = m := by omega
        omega
def diffAt (l : List ByteArray) (k : Nat) : Bool := (List.range l.length).any fun j => !(colAt l k j == colAt l k 0)
theorem diff_yes {l : List ByteArray} {k j : Nat} (hj : j < l.length) (h : colAt l k j ≠ colAt l k 0) : diffAt l k = true := by
  unfold diffAt
  rw [List.any_eq_true]
  exact ⟨j, List.mem_range.2 hj, by simpa using h⟩
theorem diff_no {l : List ByteArray} {k : Nat} (h : ∀ j, j < l.length → colAt l k j = colAt l k 0) : diffAt l k = false := by
  unfold diffAt
  rw [List.any_eq_false]
  intro j hj
  simpa using h j (List.mem_range.1 hj)
theorem diff_all {l : List ByteArray} {k : Nat} (h : diffAt l k = false) : ∀ j, j < l.length → colAt l k j = colAt l k 0 := by
  unfold diffAt at h
  rw [List.any_eq_false] at h
  intro j hj
  simpa using h j (List.mem_range.2 hj)
theorem best_all (l : List ByteArray) (k : Nat) : (cntN l k (bestTo l k 256) = l.length) ↔ diffAt l k = false := by
  constructor
  · intro h
    have h1 := cntTo_full h
    refine diff_no fun j hj => ?_
    rw [h1 j hj, h1 0 (by omega)]
  · intro h
    have h1 := diff_all h
    have h2 := bestTo_max l k 256 (colAt l k 0).toNat (by have := (colAt l k 0).toNat_lt; omega)
    have h3 : cntN l k (colAt l k 0).toNat = l.length := by
      unfold cntN
      rw [UInt8.ofNat_toNat]
      exact cntTo_all h1
    have h4 := cntTo_le l k (UInt8.ofNat (bestTo l k 256)) l.length
    unfold cntN at h2 h3 ⊢
    omega
def voteB (l : List ByteArray) (k : Nat) : UInt8 := UInt8.ofNat (bestTo l k 256)
def voteTo (l : List ByteArray) (n : Nat) : List UInt8 := (List.range n).map (voteB l)
theorem voteTo_len (l : List ByteArray) (n : Nat) : (voteTo l n).length = n := by simp [voteTo]
theorem voteTo_next (l : List ByteArray) (n : Nat) : voteTo l (n + 1) = voteTo l n ++ [voteB l n] := by
  unfold voteTo
  rw [List.range_succ, List.map_append]
  rfl
theorem voteTo_get (l : List ByteArray) {n k : Nat} (h : k < n) : (voteTo l n)[k]? = some (voteB l k) := by
  unfold voteTo
  rw [List.getElem?_map, List.getElem?_range h]
  rfl
theorem voteB_nat {l : List ByteArray} {k X : Nat} (h : bestTo l k 256 = X) : ((voteB l k).toNat : Int) = (X : Int) := by
  have := bestTo_le l k 256
  unfold voteB
  rw [h, UInt8.toNat_ofNat', Nat.mod_eq_of_lt (by omega)]
/-- Strings, one at least, all of a length. -/
def voteOk (l : List ByteArray) (N : Nat) : Prop := 0 < l.length ∧ ∀ s ∈ l, s.size = N
theorem voteOk.col {l : List ByteArray} {N : Nat} (h : voteOk l N) {s : ByteArray} (hs : s ∈ l) : s.size = N := h.2 s hs
def okVote (l : List ByteArray) : Bool := decide (1 ≤ l.length ∧ l.length ≤ 64) && (decide (revLen l ≤ 512) && l.all fun s => decide (s.size = revLen l))
def voteV (l : List ByteArray) : ByteArray := if okVote l = true then ⟨(voteTo l (revLen l)).toArray⟩ else ⟨#[]⟩
def voteW (l : List ByteArray) : List Int := if okVote l = true then placesTo (diffAt l) (revLen l) else []
theorem vote_yes {l : List ByteArray} {N : Nat} (hN : revLen l = N) (h : okVote l = true) : voteV l = ⟨(voteTo l N).toArray⟩ ∧ voteW l = placesTo (diffAt l) N := by
  subst hN
  exact ⟨if_pos h, if_pos h⟩
theorem vote_no {l : List ByteArray} (h : okVote l = false) : voteV l = ⟨#[]⟩ ∧ voteW l = [] := ⟨if_neg (by rw [h]; decide), if_neg (by rw [h]; decide)⟩
end Go.Proofs.YtlelgpknkgjaeaaGreatDoor

/- The merging of found sectors: plain laws. Addresses in order, each once; what is merged at an address. No program in sight but for the imports. -/
namespace Go.Proofs.YtlelgpknkgjaeaaGreatDoor
set_option linter.unusedSimpArgs false
set_option linter.unusedVariables false

/-- an address. -/
structure AdrR where
  c : Int
  h : Int
  n : Int
  s : Int
def AdrR.cells (a : AdrR) : List Value := [.int .i64 a.c, .int .i64 a.h, .int .i64 a.n, .int .i64 a.s]
theorem AdrR.len (a : AdrR) : a.cells.length = 4 := rfl
def FndR.adr (f : FndR) : AdrR := ⟨f.c, f.h, f.n, f.s⟩
def ltA (a b : AdrR) : Prop := a.c < b.c ∨ (a.c = b.c ∧ (a.h < b.h ∨ (a.h = b.h ∧ (a.n < b.n ∨ (a.n = b.n ∧ a.s < b.s)))))
instance (a b : AdrR) : Decidable (ltA a b) := by unfold ltA; infer_instance
def eqA (a b : AdrR) : Bool := decide (a.c = b.c ∧ a.h = b.h ∧ a.n = b.n ∧ a.s = b.s)
theorem eqA_yes {a b : AdrR} (h : eqA a b = true) : a = b := by
  unfold eqA at h
  obtain ⟨h1, h2, h3, h4⟩ := of_decide_eq_true h
  cases a; cases b; simp only at h1 h2 h3 h4; rw [h1, h2, h3, h4]
theorem eqA_self (a : AdrR) : eqA a a = true := decide_eq_true ⟨rfl, rfl, rfl, rfl⟩
instance : DecidableEq AdrR := fun a b => if h : eqA a b = true then .isTrue (eqA_yes h) else .isFalse (fun e => h (e ▸ eqA_self a))
theorem ltA_trans {a b c : AdrR} (h : ltA a b) (k : ltA b c) : ltA a c := by unfold ltA at *; omega
theorem ltA_irrefl (a : AdrR) : ¬ ltA a a := by unfold ltA; omega
theorem ltA_total {a b : AdrR} (h : ¬ ltA a b) (k : ¬ ltA b a) : a = b := by
  unfold ltA at *
  have : a.c = b.c ∧ a.h = b.h ∧ a.n = b.n ∧ a.s = b.s := by omega
  obtain ⟨h1, h2, h3, h4⟩ := this
  cases a; cases b; simp only at h1 h2 h3 h4; rw [h1, h2, h3, h4]
def putA : List AdrR → AdrR → List AdrR
  | [], v => [v]
  | x :: l, v => if ltA x v then x :: putA l v else if ltA v x then v :: x :: l else x :: l
theorem putA_pre {v : AdrR} : ∀ {A : List AdrR}, (∀ x ∈ A, ltA x v) → ∀ B, putA (A ++ B) v = A ++ putA B v
  | [], _, B => rfl
  | x :: A, h, B => by
    show (if ltA x v then x :: putA (A ++ B) v else _) = _
    rw [if_pos (h x List.mem_cons_self), putA_pre (fun y hy => h y (List.mem_cons_of_mem _ hy))]
    rfl
/-- the list with v at place k. -/
def putAt (l : List AdrR) (v : AdrR) (k : Nat) : List AdrR := l.take k ++ [v] ++ l.drop k
theorem putA_end {l : List AdrR} {v : AdrR} (h : ∀ j x, j < l.length → l[j]? = some x → ltA x v) : putA l v = putAt l v l.length := by
  have := putA_pre (A := l) (v := v) (fun x hx => by
    obtain ⟨j, hj, e⟩ := List.mem_iff_getElem.1 hx
    exact h j x hj (by rw [List.getElem?_eq_getElem hj, e])) []
  rw [List.append_nil] at this
  rw [this]
  unfold putAt
  rw [List.take_length, List.drop_length, List.append_nil]
  rfl
theorem putA_split {l : List AdrR} {v y : AdrR} {k : Nat} (h : ∀ j x, j < k → l[j]? = some x → ltA x v) (hy : l[k]? = some y) : putA l v = l.take k ++ putA (y :: l.drop (k + 1)) v := by
  have hk : k < l.length := (List.getElem?_eq_some_iff.1 hy).1
  have e : l = l.take k ++ (y :: l.drop (k + 1)) := by
    have e2 : l[k] = y := (List.getElem?_eq_some_iff.1 hy).2
    conv => lhs; rw [← List.take_append_drop k l, List.drop_eq_getElem_cons hk, e2]
  conv => lhs; rw [e]
  exact putA_pre (fun x hx => by
    obtain ⟨j, hj, e⟩ := List.mem_iff_getElem.1 hx
    rw [List.length_take] at hj
    refine h j x (by omega) ?_
    rw [List.getElem_take] at e
    rw [List.getElem?_eq_getElem (by omega), e]) _
theorem putA_new {l : List AdrR} {v y : AdrR} {k : Nat} (h : ∀ j x, j < k → l[j]? = some x → ltA x v) (hy : l[k]? = some y) (h1 : ¬ ltA y v) (h2 : ltA v y) : putA l v = putAt l v k := by
  have hk : k < l.length := (List.getElem?_eq_some_iff.1 hy).1
  have e2 : l[k] = y := (List.getElem?_eq_some_iff.1 hy).2
  rw [putA_split h hy]
  unfold putA putAt
  rw [if_neg h1, if_pos h2, List.drop_eq_getElem_cons hk, e2]
  simp
theorem putA_old {l : List AdrR} {v y : AdrR} {k : Nat} (h : ∀ j x, j < k → l[j]? = some x → ltA x v) (hy : l[k]? = some y) (h1 : ¬ ltA y v) (h2 : ¬ ltA v y) : putA l v = l := by
  have hk : k < l.length := (List.getElem?_eq_some_iff.1 hy).1
  have e2 : l[k] = y := (List.getElem?_eq_some_iff.1 hy).2
  rw [putA_split h hy]
  unfold putA
  rw [if_neg h1, if_neg h2]
  conv => rhs; rw [← List.take_append_drop k l, List.drop_eq_getElem_cons hk, e2]
theorem putA_mem {v x : AdrR} : ∀ {l : List AdrR}, x ∈ putA l v ↔ x = v ∨ x ∈ l
  | [] => by simp [putA]
  | y :: l => by
    unfold putA
    by_cases h1 : ltA y v
    · rw [if_pos h1, List.mem_cons, putA_mem, List.mem_cons]
      constructor
      · rintro (h | h | h)
        · exact .inr (.inl h)
        · exact .inl h
        · exact .inr (.inr h)
      · rintro (h | h | h)
        · exact .inr (.inl h)
        · exact .inl h
        · exact .inr (.inr h)
    · rw [if_neg h1]
      by_cases h2 : ltA v y
      · rw [if_pos h2, List.mem_cons]
      · rw [if_neg h2]
        have := ltA_total h1 h2
        subst this
        rw [List.mem_cons]
        constructor
        · exact fun h => .inr h
        · rintro (h | h)
          · exact .inl h
          · exact h
theorem putA_sorted : ∀ (l : List AdrR) (v : AdrR), l.Pairwise ltA → (putA l v).Pairwise ltA
  | [], v, _ => by simp [putA]
  | y :: l, v, h => by
    obtain ⟨h1, h2⟩ := List.pairwise_cons.1 h
    unfold putA
    by_cases a : ltA y v
    · rw [if_pos a]
      refine List.pairwise_cons.2 ⟨fun x hx => ?_, putA_sorted l v h2⟩
      rcases putA_mem.1 hx with rfl | hx
      · exact a
      · exact h1 x hx
    · rw [if_neg a]
      by_cases b : ltA v y
      · rw [if_pos b]
        refine List.pairwise_cons.2 ⟨fun x hx => ?_, h⟩
        rcases List.mem_cons.1 hx with rfl | hx
        · exact b
        · exact ltA_trans b (h1 x hx)
      · rw [if_neg b]; exact h
theorem sorted_one : ∀ (l m : List AdrR), l.Pairwise ltA → m.Pairwise ltA → (∀ x, x ∈ l ↔ x ∈ m) → l = m
  | [], [], _, _, _ => rfl
  | [], y :: m, _, _, h => by have := (h y).2 List.mem_cons_self; cases this
  | x :: l, [], _, _, h => by have := (h x).1 List.mem_cons_self; cases this
  | x :: l, y :: m, hl, hm, h => by
    obtain ⟨l1, l2⟩ := List.pairwise_cons.1 hl
    obtain ⟨m1, m2⟩ := List.pairwise_cons.1 hm
    have exy : x = y := by
      rcases List.mem_cons.1 ((h x).1 List.mem_cons_self) with e | e
      · exact e
      · rcases List.mem_cons.1 ((h y).2 List.mem_cons_self) with e2 | e2
        · exact e2.symm
        · exact absurd (ltA_trans (m1 x e) (l1 y e2)) (ltA_irrefl _)
    subst exy
    rw [sorted_one l m l2 m2 (fun z => ?_)]
    constructor
    · intro hz
      rcases List.mem_cons.1 ((h z).1 (List.mem_cons_of_mem _ hz)) with e | e
      · rw [e] at hz; exact absurd (l1 x hz) (ltA_irrefl _)
      · exact e
    · intro hz
      rcases List.mem_cons.1 ((h z).2 (List.mem_cons_of_mem _ hz)) with e | e
      · rw [e] at hz; exact absurd (m1 x hz) (ltA_irrefl _)
      · exact e

/-! ### 'slices.Compact' -/
/-- what the first j elements leave behind. -/
def cmpTo (l : List AdrR) : Nat → List AdrR
  | 0 => []
  | j + 1 => match l[j]? with
    | some x => if j ≠ 0 ∧ l[j - 1]? = some x then cmpTo l j else cmpTo l j ++ [x]
    | none => cmpTo l j
theorem cmpTo_same {l : List AdrR} {j : Nat} {x : AdrR} (h0 : l[j]? = some x) (h : l[j + 1]? = some x) : cmpTo l (j + 2) = cmpTo l (j + 1) := by
  conv => lhs; unfold cmpTo
  rw [h]
  show (if j + 1 ≠ 0 ∧ l[j + 1 - 1]? = some x then _ else _) = _
  rw [if_pos ⟨by omega, h0⟩]
theorem cmpTo_new {l : List AdrR} {j : Nat} {x y : AdrR} (h0 : l[j]? = some y) (h : l[j + 1]? = some x) (hne : y ≠ x) : cmpTo l (j + 2) = cmpTo l (j + 1) ++ [x] := by
  conv => lhs; unfold cmpTo
  rw [h]
  show (if j + 1 ≠ 0 ∧ l[j + 1 - 1]? = some x then _ else _) = _
  rw [if_neg (fun hh => by
    have := hh.2
    rw [Nat.add_sub_cancel, h0] at this
    injection this with this
    exact hne this)]
theorem cmpTo_one {l : List AdrR} {x : AdrR} (h : l[0]? = some x) : cmpTo l 1 = [x] := by
  unfold cmpTo
  rw [h]
  rfl
theorem cmpTo_len (l : List AdrR) : ∀ j, (cmpTo l j).length ≤ j
  | 0 => Nat.le_refl _
  | j + 1 => by
    have := cmpTo_len l j
    unfold cmpTo
    split
    · split
      · omega
      · rw [List.length_append]; show _ + 1 ≤ _; omega
    · omega
theorem cmpTo_mem {l : List AdrR} {x : AdrR} : ∀ {j : Nat}, x ∈ cmpTo l j ↔ x ∈ l.take j
  | 0 => by simp [cmpTo]
  | j + 1 => by
    unfold cmpTo
    rw [List.take_add_one, List.mem_append, ← cmpTo_mem]
    cases hx : l[j]? with
    | none => simp
    | some y =>
      show x ∈ (if j ≠ 0 ∧ l[j - 1]? = some y then cmpTo l j else cmpTo l j ++ [y]) ↔ _ ∨ x ∈ [y]
      split
      · rename_i h
        constructor
        · exact fun h => .inl h
        · rintro (a | a)
          · exact a
          · rw [List.mem_singleton] at a
            subst a
            rw [cmpTo_mem]
            refine List.mem_of_getElem? (i := j - 1) ?_
            rw [List.getElem?_take, if_pos (by omega)]
            exact h.2
      · rw [List.mem_append]
theorem cmpTo_sorted {l : List AdrR} (h : l.Pairwise (fun a b => ¬ ltA b a)) : ∀ j, (cmpTo l j).Pairwise ltA
  | 0 => List.Pairwise.nil
  | j + 1 => by
    unfold cmpTo
    cases hx : l[j]? with
    | none => exact cmpTo_sorted h j
    | some y =>
      show (if j ≠ 0 ∧ l[j - 1]? = some y then cmpTo l j else cmpTo l j ++ [y]).Pairwise ltA
      split
      · exact cmpTo_sorted h j
      · rename_i hn
        refine List.pairwise_append.2 ⟨cmpTo_sorted h j, List.pairwise_singleton _ _, fun a ha b hb => ?_⟩
        rw [List.mem_singleton] at hb
        subst hb
        have hj : j < l.length := (List.getElem?_eq_some_iff.1 hx).1
        obtain ⟨i, hi, e⟩ := List.mem_iff_getElem.1 (cmpTo_mem.1 ha)
        rw [List.length_take] at hi
        rw [List.getElem_take] at e
        have e2 : l[j] = b := (List.getElem?_eq_some_iff.1 hx).2
        have hij := List.pairwise_iff_getElem.1 h i j (by omega) hj (by omega)
        rw [e, e2] at hij
        by_cases hlt : ltA a b
        · exact hlt
        · have hab := ltA_total hlt hij
          subst hab
          exfalso
          apply hn
          refine ⟨by omega, ?_⟩
          have hk : j - 1 < l.length := by omega
          rw [List.getElem?_eq_getElem hk]
          rcases Nat.lt_or_ge i (j - 1) with h1 | h1
          · have p1 := List.pairwise_iff_getElem.1 h i (j - 1) (by omega) hk h1
            have p2 := List.pairwise_iff_getElem.1 h (j - 1) j hk hj (by omega)
            rw [e] at p1
            rw [e2] at p2
            rw [ltA_total p2 p1]
          · have : i = j - 1 := by omega
            subst this
            rw [e]

/-! ### the addresses of sectors -/
def adrsOf (fs : List FndR) : List AdrR := (fs.filter (fun f => decide (f.t ≠ 2))).map FndR.adr
theorem adrsOf_no {fs : List FndR} {f : FndR} (h : f.t = 2) : adrsOf (fs ++ [f]) = adrsOf fs := by
  unfold adrsOf
  rw [List.filter_append, List.filter_cons_of_neg (by rw [h]; decide)]
  simp
theorem adrsOf_yes {fs : List FndR} {f : FndR} (h : f.t ≠ 2) : adrsOf (fs ++ [f]) = adrsOf fs ++ [f.adr] := by
  unfold adrsOf
  rw [List.filter_append, List.filter_cons_of_pos (by exact decide_eq_true h), List.filter_nil, List.map_append]
  rfl
theorem adrsOf_len (fs : List FndR) : (adrsOf fs).length ≤ fs.length := by unfold adrsOf; rw [List.length_map]; exact List.length_filter_le _ _
def keysOf (fs : List FndR) : List AdrR := (adrsOf fs).foldl putA []
theorem keysOf_no {fs : List FndR} {f : FndR} (h : f.t = 2) : keysOf (fs ++ [f]) = keysOf fs := by unfold keysOf; rw [adrsOf_no h]
theorem keysOf_yes {fs : List FndR} {f : FndR} (h : f.t ≠ 2) : keysOf (fs ++ [f]) = putA (keysOf fs) f.adr := by unfold keysOf; rw [adrsOf_yes h, List.foldl_append]; rfl
theorem fold_sorted : ∀ (l acc : List AdrR), acc.Pairwise ltA → (l.foldl putA acc).Pairwise ltA
  | [], acc, h => h
  | x :: l, acc, h => fold_sorted l _ (putA_sorted acc x h)
theorem fold_mem {x : AdrR} : ∀ (l acc : List AdrR), x ∈ l.foldl putA acc ↔ x ∈ l ∨ x ∈ acc
  | [], acc => by simp
  | y :: l, acc => by
    show x ∈ l.foldl putA (putA acc y) ↔ _
    rw [fold_mem, putA_mem, List.mem_cons]
    constructor
    · rintro (h | h | h)
      · exact .inl (.inr h)
      · exact .inl (.inl h)
      · exact .inr h
    · rintro ((h | h) | h)
      · exact .inr (.inl h)
      · exact .inl h
      · exact .inr (.inr h)
theorem fold_len : ∀ (l acc : List AdrR), (l.foldl putA acc).length ≤ l.length + acc.length
  | [], acc => by simp
  | y :: l, acc => by
    have h := fold_len l (putA acc y)
    have hp : ∀ m : List AdrR, (putA m y).length ≤ m.length + 1 := by
      intro m
      induction m with
      | nil => exact Nat.le_refl _
      | cons z m ih =>
        unfold putA
        split
        · simp only [List.length_cons]; omega
        · split <;> simp only [List.length_cons] <;> omega
    have := hp acc
    show (l.foldl putA (putA acc y)).length ≤ _
    simp only [List.length_cons]
    omega
theorem keysOf_len (fs : List FndR) : (keysOf fs).length ≤ fs.length := by
  have := fold_len (adrsOf fs) []
  have := adrsOf_len fs
  unfold keysOf
  simp only [List.length_nil] at *
  omega
/-- sorting and striking gives the same. -/
theorem keys_same {fs : List FndR} {l : List AdrR} (hp : l.Perm (adrsOf fs)) (hs : l.Pairwise (fun a b => ¬ ltA b a)) : cmpTo l l.length = keysOf fs := by
  refine sorted_one _ _ (cmpTo_sorted hs _) (fold_sorted _ _ List.Pairwise.nil) (fun x => ?_)
  rw [cmpTo_mem, List.take_length]
  unfold keysOf
  rw [fold_mem, hp.mem_iff]
  simp

/-! ### what is merged at an address -/
def keyF (f : FndR) (a : AdrR) : Bool := decide (f.t ≠ 2) && eqA f.adr a
def pickF (fs : List FndR) (a : AdrR) (st : Int) : List FndR := fs.filter (fun f => keyF f a && decide (f.t = st))
def dataOf (fs : List FndR) (a : AdrR) (st : Int) : List ByteArray := (pickF fs a st).map FndR.d
def delOf (fs : List FndR) (a : AdrR) (st : Int) : Nat := ((pickF fs a st).filter FndR.l).length
def hasF (fs : List FndR) (a : AdrR) : Bool := fs.any (fun f => keyF f a)
def votesTo (ls : List (List FndR)) (a : AdrR) (i : Nat) : Nat := ((ls.take i).filter (fun l => hasF l a)).length
theorem pick_no {fs : List FndR} {f : FndR} {a : AdrR} {st : Int} (h : (keyF f a && decide (f.t = st)) = false) : pickF (fs ++ [f]) a st = pickF fs a st := by
  unfold pickF
  rw [List.filter_append, List.filter_cons_of_neg (by rw [h]; decide)]
  simp
theorem pick_yes {fs : List FndR} {f : FndR} {a : AdrR} {st : Int} (h : (keyF f a && decide (f.t = st)) = true) : pickF (fs ++ [f]) a st = pickF fs a st ++ [f] := by
  unfold pickF
  rw [List.filter_append, List.filter_cons_of_pos (by exact h), List.filter_nil]
theorem pick_len (fs : List FndR) (a : AdrR) (st : Int) : (pickF fs a st).length ≤ fs.length := List.length_filter_le _ _
theorem data_len (fs : List FndR) (a : AdrR) (st : Int) : (dataOf fs a st).length = (pickF fs a st).length := List.length_map _
theorem del_le (fs : List FndR) (a : AdrR) (st : Int) : delOf fs a st ≤ (pickF fs a st).length := List.length_filter_le _ _
theorem hasF_snoc (fs : List FndR) (f : FndR) (a : AdrR) : hasF (fs ++ [f]) a = (hasF fs a || keyF f a) := by
  unfold hasF; rw [List.any_append]; simp
theorem votesTo_next {ls : List (List FndR)} {a : AdrR} {i : Nat} {fs : List FndR} (h : ls[i]? = some fs) : votesTo ls a (i + 1) = votesTo ls a i + (if hasF fs a = true then 1 else 0) := by
  unfold votesTo
  rw [List.take_add_one, h, List.filter_append, List.length_append]
  show _ + (List.filter _ [fs]).length = _
  by_cases hh : hasF fs a = true
  · rw [if_pos hh, List.filter_cons_of_pos (by exact hh)]; rfl
  · rw [if_neg hh, List.filter_cons_of_neg (by exact hh)]; rfl
theorem votesTo_le (ls : List (List FndR)) (a : AdrR) (i : Nat) : votesTo ls a i ≤ i := by
  unfold votesTo
  have := List.length_filter_le (fun l => hasF l a) (ls.take i)
  rw [List.length_take] at this
  omega
def fillV (a : AdrR) (l : List ByteArray) (del : Nat) (st : Int) (vo : Nat) : VotR :=
  ⟨a.c, a.h, a.n, a.s, ⟨(voteTo l (revLen l)).toArray⟩, st, decide (l.length < 2 * del), placesTo (diffAt l) (revLen l), (vo : Nat)⟩
def mergeV (ls : List (List FndR)) (a : AdrR) : VotR :=
  if (dataOf ls.flatten a 1).length ≠ 0 then fillV a (dataOf ls.flatten a 1) (delOf ls.flatten a 1) (if (placesTo (diffAt (dataOf ls.flatten a 1)) (revLen (dataOf ls.flatten a 1))).length = 0 then 1 else 5) (votesTo ls a ls.length)
  else if (dataOf ls.flatten a 3).length ≠ 0 then fillV a (dataOf ls.flatten a 3) (delOf ls.flatten a 3) 3 (votesTo ls a ls.length)
  else ⟨a.c, a.h, a.n, a.s, ⟨#[]⟩, 4, false, [], (votesTo ls a ls.length : Nat)⟩
def mgV (ls : List (List FndR)) : List VotR := (keysOf ls.flatten).map (mergeV ls)
/-- the sectors before sector k of list i. -/
def preF (ls : List (List FndR)) (i k : Nat) : List FndR := (ls.take i).flatten ++ (ls.getD i []).take k
theorem preF_zero (ls : List (List FndR)) : preF ls 0 0 = [] := by simp [preF]
theorem preF_next {ls : List (List FndR)} {i k : Nat} {fs : List FndR} {f : FndR} (h : ls[i]? = some fs) (hf : fs[k]? = some f) : preF ls i (k + 1) = preF ls i k ++ [f] := by
  unfold preF
  rw [List.getD_eq_getElem?_getD, h]
  show _ ++ fs.take (k + 1) = _ ++ fs.take k ++ _
  rw [List.take_add_one, hf, List.append_assoc]
  rfl
theorem preF_turn {ls : List (List FndR)} {i : Nat} {fs : List FndR} (h : ls[i]? = some fs) : preF ls i fs.length = preF ls (i + 1) 0 := by
  unfold preF
  rw [List.getD_eq_getElem?_getD, h, List.take_add_one, h, List.flatten_append]
  show _ ++ fs.take fs.length = _
  rw [List.take_length]
  simp
theorem preF_all (ls : List (List FndR)) : preF ls ls.length 0 = ls.flatten := by
  unfold preF
  rw [List.take_length]
  simp
theorem preF_le {ls : List (List FndR)} {i k : Nat} {B : Nat} (h : ∀ fs ∈ ls, fs.length ≤ B) (hi : i < ls.length) (hk : k ≤ B) : (preF ls i k).length ≤ B * (i + 1) := by
  have key : ∀ m : List (List FndR), (∀ fs ∈ m, fs.length ≤ B) → m.flatten.length ≤ B * m.length := by
    intro m
    induction m with
    | nil => intro _; simp
    | cons x m ih =>
      intro hm
      have h1 := ih (fun y hy => hm y (List.mem_cons_of_mem _ hy))
      have h2 := hm x List.mem_cons_self
      rw [List.flatten_cons, List.length_append, List.length_cons, Nat.mul_add]
      omega
  have h1 := key (ls.take i) (fun y hy => h y (List.mem_of_mem_take hy))
  rw [List.length_take] at h1
  have h2 : ((ls.getD i []).take k).length ≤ k := by rw [List.length_take]; omega
  have h3 : min i ls.length = i := by omega
  rw [h3] at h1
  unfold preF
  rw [List.length_append, Nat.mul_add]
  omega
/-- the data of a good sector has the size of its address. -/
def goodF (f : FndR) : Prop := (f.t = 1 ∨ f.t = 3) → (f.d.size : Int) = sizeBytes f.s ∧ f.d.size ≤ 1024
theorem pick_mem {fs : List FndR} {a : AdrR} {st : Int} {f : FndR} (h : f ∈ pickF fs a st) : f ∈ fs ∧ f.t = st ∧ f.s = a.s := by
  obtain ⟨h1, h2⟩ := List.mem_filter.1 h
  rw [Bool.and_eq_true] at h2
  obtain ⟨h3, h4⟩ := h2
  unfold keyF at h3
  rw [Bool.and_eq_true] at h3
  have := eqA_yes h3.2
  exact ⟨h1, of_decide_eq_true h4, by rw [← this]; rfl⟩
theorem data_size {fs : List FndR} {a : AdrR} {st : Int} (hg : ∀ f ∈ fs, goodF f) (hst : st = 1 ∨ st = 3) : ∀ s ∈ dataOf fs a st, s.size = revLen (dataOf fs a st) ∧ s.size ≤ 1024 := by
  have key : ∀ s ∈ dataOf fs a st, (s.size : Int) = sizeBytes a.s ∧ s.size ≤ 1024 := by
    intro s hs
    obtain ⟨f, hf, rfl⟩ := List.mem_map.1 hs
    obtain ⟨h1, h2, h3⟩ := pick_mem hf
    rw [← h3]
    exact hg f h1 (by rw [h2]; exact hst)
  intro s hs
  refine ⟨?_, (key s hs).2⟩
  unfold revLen
  cases hd : dataOf fs a st with
  | nil => rw [hd] at hs; cases hs
  | cons x r =>
    show s.size = x.size
    have h1 := (key s hs).1
    have h2 := (key x (by rw [hd]; exact List.mem_cons_self)).1
    omega
end Go.Proofs.YtlelgpknkgjaeaaGreatDoor

/- 'l10Key', 'l10Before' of the reference; 'addressOf', 'address.compare' of the program. -/
namespace Go.Proofs.YtlelgpknkgjaeaaGreatDoor
open Go.ChangeShapes Go.WideShapes Go.ChangeAt Go.RowKit
set_option linter.unusedSimpArgs false
set_option linter.unusedVariables false
set_option maxRecDepth 4000

theorem boxAt4 {w : World} {b o : Nat} {a0 a1 a2 a3 : Value} (h : BoxAt w b o [a0, a1, a2, a3]) : w.cell? ⟨b, o, none⟩ = some a0 ∧ w.cell? ⟨b, o + 1, none⟩ = some a1 ∧ w.cell? ⟨b, o + 2, none⟩ = some a2 ∧ w.cell? ⟨b, o + 3, none⟩ = some a3 :=
  ⟨h 0 _ rfl, h 1 _ rfl, h 2 _ rfl, h 3 _ rfl⟩
theorem key_beq (f : FndR) (a : AdrR) : keyF f a = ((f.t != 2) && ((f.c == a.c) && ((f.h == a.h) && ((f.n == a.n) && (f.s == a.s))))) := by
  unfold keyF eqA FndR.adr
  cases e0 : (f.t != 2) <;> cases e1 : (f.c == a.c) <;> cases e2 : (f.h == a.h) <;> cases e3 : (f.n == a.n) <;> cases e4 : (f.s == a.s) <;> simp_all
set_option maxHeartbeats 2000000 in
theorem spec_l10Key {bf of bv ov : Nat} {f : FndR} {a : AdrR} (w : World) (hf : BoxAt w bf of f.cells) (hv : BoxAt w bv ov a.cells) :
    Calls Tryz.prog 76 #[.pointer (some ⟨bf, of, none⟩), .pointer (some ⟨bv, ov, none⟩)] w fun e w' => e = .returned (.bool (keyF f a)) ∧ ∃ k, w' = w.drewN k := by
  have HC := Hid.in_ (key_beq f a)
  obtain ⟨x0, x1, x2, x3, x4, x5, x6, x7⟩ := boxAt8 hf
  obtain ⟨y0, y1, y2, y3⟩ := boxAt4 hv
  clear hf hv
  obtain ⟨fc, fh, fn, fs, fd, ft, fl, fp⟩ := f
  obtain ⟨ac, ah, an, as_⟩ := a
  change Hid (keyF ⟨fc, fh, fn, fs, fd, ft, fl, fp⟩ ⟨ac, ah, an, as_⟩ = ((ft != 2) && ((fc == ac) && ((fh == ah) && ((fn == an) && (fs == as_)))))) at HC
  simp only at x0 x1 x2 x3 x4 x5 x6 x7 y0 y1 y2 y3
  cases e0 : (ft != 2)
  · have HO := Hid.in_ (HC.out.trans (by rw [e0]; try rfl))
    go_enter Tryz.func76, Tryz.ntmps76
    go_wp2_with fail
    go_quiet (fail)
    go_wp2
    go_ret
    exact ⟨ret_bool HO.out.symm, _, rfl⟩
  cases e1 : (fc == ac)
  · have HO := Hid.in_ (HC.out.trans (by rw [e0, e1] <;> try rfl))
    go_enter Tryz.func76, Tryz.ntmps76
    go_wp2_with fail
    go_quiet (fail)
    go_wp2
    go_ret
    exact ⟨ret_bool HO.out.symm, _, rfl⟩
  cases e2 : (fh == ah)
  · have HO := Hid.in_ (HC.out.trans (by rw [e0, e1, e2] <;> try rfl))
    go_enter Tryz.func76, Tryz.ntmps76
    go_wp2_with fail
    go_quiet (fail)
    go_wp2
    go_ret
    exact ⟨ret_bool HO.out.symm, _, rfl⟩
  cases e3 : (fn == an)
  · have HO := Hid.in_ (HC.out.trans (by rw [e0, e1, e2, e3] <;> try rfl))
    go_enter Tryz.func76, Tryz.ntmps76
    go_wp2_with fail
    go_quiet (fail)
    go_wp2
    go_ret
    exact ⟨ret_bool HO.out.symm, _, rfl⟩
  cases e4 : (fs == as_)
  · have HO := Hid.in_ (HC.out.trans (by rw [e0, e1, e2, e3, e4] <;> try rfl))
    go_enter Tryz.func76, Tryz.ntmps76
    go_wp2_with fail
    go_quiet (fail)
    go_wp2
    go_ret
    exact ⟨ret_bool HO.out.symm, _, rfl⟩
  · have HO := Hid.in_ (HC.out.trans (by rw [e0, e1, e2, e3, e4] <;> try rfl))
    go_enter Tryz.func76, Tryz.ntmps76
    go_wp2_with fail
    go_quiet (fail)
    go_wp2
    go_ret
    exact ⟨ret_bool HO.out.symm, _, rfl⟩
theorem dd2 (w : World) (a b : Nat) : (w.drewN a).drewN b = w.drewN (a + b) := by
  show ({ w with drawn := w.drawn + a + b } : World) = { w with drawn := w.drawn + (a + b) }
  rw [Nat.add_assoc]
theorem dd3 (w : World) (a b c : Nat) : ((w.drewN a).drewN b).drewN c = w.drewN (a + (b + c)) := by rw [dd2, dd2]
theorem dd4 (w : World) (a b c d : Nat) : (((w.drewN a).drewN b).drewN c).drewN d = w.drewN (a + (b + (c + d))) := by rw [dd2, dd2, dd2]
theorem dd5 (w : World) (a b c d e : Nat) : ((((w.drewN a).drewN b).drewN c).drewN d).drewN e = w.drewN (a + (b + (c + (d + e)))) := by rw [dd2, dd2, dd2, dd2]
theorem lt_cases (a b : AdrR) :
    (a.c ≠ b.c ∧ ((a.c < b.c ∧ Hid (ltA a b)) ∨ (¬ a.c < b.c ∧ Hid (¬ ltA a b)))) ∨
    (a.c = b.c ∧ a.h ≠ b.h ∧ ((a.h < b.h ∧ Hid (ltA a b)) ∨ (¬ a.h < b.h ∧ Hid (¬ ltA a b)))) ∨
    (a.c = b.c ∧ a.h = b.h ∧ a.n ≠ b.n ∧ ((a.n < b.n ∧ Hid (ltA a b)) ∨ (¬ a.n < b.n ∧ Hid (¬ ltA a b)))) ∨
    (a.c = b.c ∧ a.h = b.h ∧ a.n = b.n ∧ ((a.s < b.s ∧ Hid (ltA a b)) ∨ (¬ a.s < b.s ∧ Hid (¬ ltA a b)))) := by
  unfold Hid ltA
  omega
set_option maxHeartbeats 2000000 in
theorem spec_l10Before {bf of bv ov : Nat} {a b : AdrR} (w : World) (hf : BoxAt w bf of a.cells) (hv : BoxAt w bv ov b.cells) :
    Calls Tryz.prog 113 #[.pointer (some ⟨bf, of, none⟩), .pointer (some ⟨bv, ov, none⟩)] w fun e w' => e = .returned (.bool (decide (ltA a b))) ∧ ∃ k, w' = w.drewN k := by
  have HC := lt_cases a b
  obtain ⟨x0, x1, x2, x3⟩ := boxAt4 hf
  obtain ⟨y0, y1, y2, y3⟩ := boxAt4 hv
  clear hf hv
  obtain ⟨fc, fh, fn, fs⟩ := a
  obtain ⟨ac, ah, an, as_⟩ := b
  simp only at HC x0 x1 x2 x3 y0 y1 y2 y3
  obtain ⟨h1, ⟨h5, HO⟩ | ⟨h5, HO⟩⟩ | ⟨h1, h2, ⟨h5, HO⟩ | ⟨h5, HO⟩⟩ | ⟨h1, h2, h3, ⟨h5, HO⟩ | ⟨h5, HO⟩⟩ | ⟨h1, h2, h3, ⟨h5, HO⟩ | ⟨h5, HO⟩⟩ := HC
  all_goals
    try subst h1
    try subst h2
    try subst h3
    go_enter Tryz.func113, Tryz.ntmps113
    repeat (go_wp2_with fail; go_quiet (fail))
    go_wp2
    go_ret
    first
    | exact ⟨ret_bool (decide_eq_true HO.out).symm, by first | exact ⟨_, dd2 _ _ _⟩ | exact ⟨_, dd3 _ _ _ _⟩ | exact ⟨_, dd4 _ _ _ _ _⟩ | exact ⟨_, dd5 _ _ _ _ _ _⟩ | exact ⟨_, rfl⟩⟩
    | exact ⟨ret_bool (decide_eq_decide.2 (iff_of_false (by omega) HO.out)), by first | exact ⟨_, dd2 _ _ _⟩ | exact ⟨_, dd3 _ _ _ _⟩ | exact ⟨_, dd4 _ _ _ _ _⟩ | exact ⟨_, dd5 _ _ _ _ _ _⟩ | exact ⟨_, rfl⟩⟩
theorem wr_twoT (w : World) (t t' : TypeId) (Z F : List Value) : Wr ((w.alloc (.cells Z.toArray t)).alloc (.cells F.toArray t')) w.heap.size Z ∧ Wr ((w.alloc (.cells Z.toArray t)).alloc (.cells F.toArray t')) (w.heap.size + 1) F ∧
    Below w.heap.size w ((w.alloc (.cells Z.toArray t)).alloc (.cells F.toArray t')) := by
  have h1 : (w.alloc (.cells Z.toArray t)).heap.size = w.heap.size + 1 := by unfold World.alloc; rw [Array.size_push]
  refine ⟨Wr.step (balloc (Below.refl _ _) _) (Wr.new w Z t), ?_, balloc (balloc (Below.refl _ _) _) _⟩
  have := Wr.new (w.alloc (.cells Z.toArray t)) F t'
  rw [h1] at this
  exact this
theorem wr4a {w : World} {b : Nat} {a0 a1 a2 a3 : Value} (h : Wr w b [a0, a1, a2, a3]) : (w.cell? ⟨b, 0, none⟩ = some a0 ∧ w.cell? ⟨b, 1, none⟩ = some a1 ∧ w.cell? ⟨b, 2, none⟩ = some a2 ∧ w.cell? ⟨b, 3, none⟩ = some a3) ∧
    (w.frozen? ⟨b, 0, none⟩ = false ∧ w.frozen? ⟨b, 1, none⟩ = false ∧ w.frozen? ⟨b, 2, none⟩ = false ∧ w.frozen? ⟨b, 3, none⟩ = false) :=
  ⟨⟨h.box 0 _ rfl, h.box 1 _ rfl, h.box 2 _ rfl, h.box 3 _ rfl⟩, h.soft 0, h.soft 1, h.soft 2, h.soft 3⟩
theorem Wr.put4a {w : World} {b : Nat} {a0 a1 a2 a3 : Value} (h : Wr w b [a0, a1, a2, a3]) (x0 x1 x2 x3 : Value) :
    Wr ((((w.setCell ⟨b, 0, none⟩ x0).setCell ⟨b, 1, none⟩ x1).setCell ⟨b, 2, none⟩ x2).setCell ⟨b, 3, none⟩ x3) b [x0, x1, x2, x3] :=
  (((h.set x0 (i := 0) (by simp)).set x1 (i := 1) (by simp)).set x2 (i := 2) (by simp)).set x3 (i := 3) (by simp)
theorem below_put4a {W w : World} {B b : Nat} (h : Below B W w) (hb : B ≤ b) (x0 x1 x2 x3 : Value) :
    Below B W ((((w.setCell ⟨b, 0, none⟩ x0).setCell ⟨b, 1, none⟩ x1).setCell ⟨b, 2, none⟩ x2).setCell ⟨b, 3, none⟩ x3) :=
  (((h.setCell (p := ⟨b, 0, none⟩) hb _).setCell (p := ⟨b, 1, none⟩) hb _).setCell (p := ⟨b, 2, none⟩) hb _).setCell (p := ⟨b, 3, none⟩) hb _
set_option maxHeartbeats 1000000 in
theorem impl_addressOf (c h n s : Int) (d t l p : Value) (w : World) :
    Calls Tryz.prog 80 #[.agg #[.int .i64 c, .int .i64 h, .int .i64 n, .int .i64 s, d, t, l, p]] w fun e w' => e = .returned (.agg #[.int .i64 c, .int .i64 h, .int .i64 n, .int .i64 s]) ∧ Below w.heap.size w w' := by
  have hW := wr_twoT w 63 103 [.int .i64 c, .int .i64 h, .int .i64 n, .int .i64 s, d, t, l, p] [.int .i64 0, .int .i64 0, .int .i64 0, .int .i64 0]
  obtain ⟨⟨x0, x1, x2, x3, x4, x5, x6, x7⟩, _⟩ := wr8 hW.1
  have hW2 := wr_twoT w 63 103 [.int .i64 c, .int .i64 h, .int .i64 n, .int .i64 s, d, t, l, p] [.int .i64 c, .int .i64 h, .int .i64 n, .int .i64 s]
  obtain ⟨⟨d0, d1, d2, d3⟩, _⟩ := wr4a hW2.2.1
  have HB := Hid.in_ hW2.2.2
  clear hW hW2
  go_enter Tryz.func80, Tryz.ntmps80
  go_wp2
  refine bodyPost_ret ?_ rfl ⟨rfl, HB.out⟩
  simp [results, Tryz.results80, go_sem, d0, d1, d2, d3]
end Go.Proofs.YtlelgpknkgjaeaaGreatDoor

/- Rows of records that are sorted: what the kit's contract on 'slices.SortFunc' says of a row of one's own. -/
namespace Go.Proofs.YtlelgpknkgjaeaaGreatDoor
open Go.ChangeShapes Go.WideShapes Go.ChangeAt Go.RowKit Go.Shelf
open Go.Sort (SWO PermIn SortedIn putCells mapBlock onCells)
set_option linter.unusedSimpArgs false
set_option linter.unusedVariables false
set_option maxRecDepth 4000

theorem flatK_list {α : Type} [Inhabited α] {f : α → List Value} {k : Nat} (hk : ∀ x, (f x).length = k) (k0 : 0 < k) (d : Array α) : (Go.Sort.flatK f k d).toList = d.toList.flatMap f := by
  apply List.ext_getElem?
  intro t
  have hl : (Go.Sort.flatK f k d).toList.length = d.size * k := by rw [Array.length_toList, Go.Sort.size_flatK]
  have hr : (d.toList.flatMap f).length = d.size * k := by rw [flat_len hk, Array.length_toList]
  by_cases ht : t < d.size * k
  · have hi : t / k < d.size := Nat.div_lt_of_lt_mul (by rwa [Nat.mul_comm])
    have hj : t % k < k := Nat.mod_lt _ k0
    have hx : d.toList[t / k]? = some d[t / k]! := by
      rw [List.getElem?_eq_getElem (by rw [Array.length_toList]; exact hi), getElem!_pos d (t / k) hi]; rfl
    have h1 : (d.toList.flatMap f)[t]? = (f d[t / k]!)[t % k]? := by
      have := flat_get hk d.toList (t / k) (t % k) _ hx hj
      rwa [Nat.div_add_mod'] at this
    have h2 : (Go.Sort.flatK f k d).toList[t]? = some (Go.Sort.flatK f k d)[t]! := by
      have hs : t < (Go.Sort.flatK f k d).size := by rw [Go.Sort.size_flatK]; exact ht
      rw [List.getElem?_eq_getElem (by rw [hl]; exact ht), getElem!_pos _ t hs]; rfl
    rw [h1, h2, Go.Sort.get_flatK _ _ _ _ ht, getElem!_pos (f d[t / k]!) (t % k) (by rw [hk]; exact hj), List.getElem?_eq_getElem (by rw [hk]; exact hj)]
  · rw [List.getElem?_eq_none (by omega), List.getElem?_eq_none (by omega)]

theorem put_take {F cur : Array Value} (h : F.size ≤ cur.size) : (putCells id 0 F cur).toList.take F.size = F.toList := by
  apply List.ext_getElem?
  intro t
  by_cases ht : t < F.size
  · rw [List.getElem?_take, if_pos ht, Array.getElem?_toList, Array.getElem?_toList]
    unfold putCells
    rw [Array.getElem?_mapIdx, Array.getElem?_eq_getElem (by omega)]
    simp [ht]
  · rw [List.getElem?_eq_none (by rw [List.length_take]; omega), List.getElem?_eq_none (by rw [Array.length_toList]; omega)]
theorem own_sorted {α : Type} [Inhabited α] {f : α → List Value} {k : Nat} (hk : ∀ x, (f x).length = k) (k0 : 0 < k) {w : World} {b g n cap : Nat} {e : TypeId} {d d' : List α} (h : w.ownsRow b e k (.slice (some ⟨g, 0, none⟩) n cap) n (d.flatMap f)) (hl : d'.length = d.length) (m : Nat) (os : Array Obj) :
    (sortWorldK f k w g 0 m d'.toArray os).ownsRow b e k (.slice (some ⟨g, 0, none⟩) n cap) n (d'.flatMap f) ∧ Below b w (sortWorldK f k w g 0 m d'.toArray os) := by
  have h1 := h.1
  rw [flat_len hk] at h1
  rcases h.2 with ⟨e1, _⟩ | ⟨g1, cap1, cur, e1, hb, hg, hnc, hcm, hcs, _⟩
  · cases e1
  · injection e1 with e1 e2 e3
    injection e1 with e1
    injection e1 with e1
    subst e1 e3
    have hF : (Go.Sort.flatK f k d'.toArray).size = n * k := by rw [Go.Sort.size_flatK, List.size_toArray, hl, h1]
    have hgl : g < w.heap.size := (Array.getElem?_eq_some_iff.1 hg).1
    have hle : n * k ≤ cur.size := by rw [hcs]; exact Nat.mul_le_mul_right k hnc
    have hs : (w.heap.modify g (onCells (putCells id 0 (Go.Sort.flatK f k d'.toArray)))).size = w.heap.size := Array.size_modify
    have hw : (sortWorldK f k w g 0 m d'.toArray os).heap = (w.heap.modify g (onCells (putCells id 0 (Go.Sort.flatK f k d'.toArray)))) ++ os := rfl
    have hat : (sortWorldK f k w g 0 m d'.toArray os).heap[g]? = some (.cells (putCells id 0 (Go.Sort.flatK f k d'.toArray) cur) e (0, 0)) := by
      rw [hw, Array.getElem?_append_left (by rw [hs]; exact hgl), Array.getElem?_modify, if_pos rfl, hg]; rfl
    refine ⟨⟨by rw [flat_len hk, hl, h1], .inr ⟨g, cap, _, rfl, hb, hat, hnc, hcm, ?_, ?_⟩⟩, ⟨rfl, rfl, rfl, ?_, ?_⟩⟩
    · unfold putCells; rw [Array.size_mapIdx]; exact hcs
    · have := put_take (F := Go.Sort.flatK f k d'.toArray) (cur := cur) (by rw [hF]; exact hle)
      rw [hF] at this
      rw [this, flatK_list hk k0]
    · rw [hw, Array.size_append, hs]; omega
    · intro i hi
      rw [hw, Array.getElem?_append_left (by rw [hs]; omega), Array.getElem?_modify, if_neg (by omega)]
theorem holds_own {α : Type} [Inhabited α] {f : α → List Value} {k : Nat} (hk : ∀ x, (f x).length = k) (k0 : 0 < k) {w : World} {b g n cap : Nat} {e : TypeId} {d : List α} (h : w.ownsRow b e k (.slice (some ⟨g, 0, none⟩) n cap) n (d.flatMap f)) : Go.Sort.HoldsK f k w g 0 d.toArray := by
  intro j hj
  rw [Nat.zero_add]
  have hl : (Go.Sort.flatK f k d.toArray).toList[j]? = some (Go.Sort.flatK f k d.toArray)[j]! := by
    rw [List.getElem?_eq_getElem (by rw [Array.length_toList]; exact hj), getElem!_pos _ j hj]; rfl
  rw [flatK_list hk k0] at hl
  refine ⟨?_, h.frozenAt j⟩
  have := h.cells (g := g) rfl j _ hl
  rwa [addr_add, Nat.zero_add] at this

end Go.Proofs.YtlelgpknkgjaeaaGreatDoor

/- The addresses are sorted and struck: 'address.compare', 'cmp.Or', 'slices.SortFunc', 'slices.Compact'. -/
namespace Go.Proofs.YtlelgpknkgjaeaaGreatDoor
open Go.ChangeShapes Go.WideShapes Go.ChangeAt Go.RowKit Go.Shelf
open Go.Sort (SWO PermIn SortedIn putCells mapBlock onCells)
set_option linter.unusedSimpArgs false
set_option linter.unusedVariables false
set_option maxRecDepth 4000

instance : Inhabited AdrR := ⟨⟨0, 0, 0, 0⟩⟩
def orI : List Int → Int
  | [] => 0
  | x :: l => if x ≠ 0 then x else orI l
theorem orI_drop {l : List Int} {k : Nat} {x : Int} (h : l[k]? = some x) : orI (l.drop k) = if x ≠ 0 then x else orI (l.drop (k + 1)) := by
  have hk : k < l.length := (List.getElem?_eq_some_iff.1 h).1
  have e : l[k] = x := (List.getElem?_eq_some_iff.1 h).2
  rw [List.drop_eq_getElem_cons hk, e]
  rfl
def cmpA (x y : AdrR) : Int := orI [Lib.compareInt x.c y.c, Lib.compareInt x.h y.h, Lib.compareInt x.n y.n, Lib.compareInt x.s y.s]
theorem cmpI_cases (a b : Int) : (a < b ∧ Lib.compareInt a b = -1) ∨ (a = b ∧ Lib.compareInt a b = 0) ∨ (b < a ∧ Lib.compareInt a b = 1) := by
  unfold Lib.compareInt
  rcases Int.lt_trichotomy a b with h | h | h
  · exact .inl ⟨h, by simp [h]⟩
  · subst h; exact .inr (.inl ⟨rfl, by simp⟩)
  · refine .inr (.inr ⟨h, ?_⟩)
    have h1 : ¬ a < b := by omega
    simp [h, h1]
theorem lt_A (x y : AdrR) : ltOf cmpA x y = decide (ltA x y) := by
  have key : (cmpA x y < 0) ↔ ltA x y := by
    unfold cmpA orI orI orI orI orI ltA
    rcases cmpI_cases x.c y.c with ⟨h1, e1⟩ | ⟨h1, e1⟩ | ⟨h1, e1⟩ <;> rw [e1]
    · simp; omega
    · rcases cmpI_cases x.h y.h with ⟨h2, e2⟩ | ⟨h2, e2⟩ | ⟨h2, e2⟩ <;> rw [e2]
      · simp; omega
      · rcases cmpI_cases x.n y.n with ⟨h3, e3⟩ | ⟨h3, e3⟩ | ⟨h3, e3⟩ <;> rw [e3]
        · simp; omega
        · rcases cmpI_cases x.s y.s with ⟨h4, e4⟩ | ⟨h4, e4⟩ | ⟨h4, e4⟩ <;> rw [e4] <;> simp <;> omega
        · simp; omega
      · simp; omega
    · simp; omega
  unfold ltOf
  exact decide_eq_decide.2 key
theorem swo_A : SWO (ltOf cmpA) where
  irrefl x := by rw [lt_A]; exact decide_eq_false (ltA_irrefl x)
  trans x y z h1 h2 := by rw [lt_A] at *; exact decide_eq_true (ltA_trans (of_decide_eq_true h1) (of_decide_eq_true h2))
  ntrans x y z h1 h2 := by
    rw [lt_A] at *
    have h1 := of_decide_eq_false h1
    have h2 := of_decide_eq_false h2
    refine decide_eq_false ?_
    unfold ltA at *
    omega
set_option maxHeartbeats 1000000 in
theorem cmp_Or {g : Nat} {l : List Int} (w : World) (hx : Box w g (I64 l)) (hl : l.length = 4) :
    Calls Tryz.prog 116 #[.slice (some ⟨g, 0, none⟩) 4 4] w fun e w' => e = .returned (.int .i64 (orI l)) ∧ w' = w := by
  have HX := Hid.in_ hx
  have HL := Hid.in_ hl
  clear hx hl
  go_enter Tryz.func116, Tryz.ntmps116
  go_wp2
  go_loopg [8] 4 (fun m i wr => ∃ k : Nat, k + m = 4 ∧ i = .int .i64 k ∧ Hid (orI l = orI (l.drop k)) ∧ w = wr)
  case atStart => exact ⟨0, by omega, rfl, rfl, rfl⟩
  case round =>
    obtain ⟨k, hkm, rfl, HO, rfl⟩ := hrel
    have HK := Hid.in_ hkm
    clear hkm
    by_cases hlt : k < 4
    · obtain ⟨x, hm⟩ := get_lt l k (by rw [HL.out]; exact hlt)
      have c0 : w.cell? ⟨g, k, none⟩ = some (.int .i64 x) := HX.out k _ (I64_get hm)
      have HD := Hid.in_ (orI_drop hm)
      clear hm
      by_cases h0 : x = 0
      · subst h0
        go_wp2
        have hk := HK.out
        go_roundg (gk - 1)
        case measure => omega
        case rel => exact ⟨k + 1, by omega, by go_num, HO.out.trans (by rw [HD.out]; rfl), rfl⟩
      · go_wp2
        go_ret
        exact ⟨show Ending.returned (.int .i64 x) = _ by rw [HO.out, HD.out, if_pos h0], rfl⟩
    · have hk := HK.out
      obtain rfl : k = 4 := by omega
      go_wp2
      go_ret
      exact ⟨show Ending.returned (.int .i64 0) = _ by rw [HO.out, List.drop_of_length_le (by rw [HL.out]; exact Nat.le_refl _)]; rfl, rfl⟩
theorem grow3 (W : World) (a b c : Array Obj) (q : Nat) : Go.Sort.grow ((Go.Sort.grow (Go.Sort.grow W a) b).drewN q) c = Go.Sort.grow (W.drewN q) (a ++ (b ++ c)) := by
  show Go.Sort.grow (Go.Sort.grow (Go.Sort.grow (W.drewN q) a) b) c = _
  rw [Go.Sort.grow_grow, Go.Sort.grow_grow]
set_option maxHeartbeats 4000000 in
theorem impl_compare (x y : AdrR) (W : World) : Calls Tryz.prog 82 #[.agg #[.int .i64 x.c, .int .i64 x.h, .int .i64 x.n, .int .i64 x.s], .agg #[.int .i64 y.c, .int .i64 y.h, .int .i64 y.n, .int .i64 y.s]] W fun e w' => e = .returned (.int .i64 (cmpA x y)) ∧ ∃ q os', w' = Go.Sort.grow (W.drewN q) os' := by
  have hcon : ∀ a b W', Calls Tryz.prog 70 #[.int .i64 a, .int .i64 b] W' fun e w' => e = .returned (.int .i64 (Lib.compareInt a b)) ∧ w' = W' := fun a b W' => AnyG.cmp_Compare_int Tryz.cmpI64 a b W'
  obtain ⟨x0, x1, x2, x3⟩ := x
  obtain ⟨y0, y1, y2, y3⟩ := y
  have C0 := Hid.in_ (hcon x0 y0)
  have C1 := Hid.in_ (hcon x1 y1)
  have C2 := Hid.in_ (hcon x2 y2)
  have C3 := Hid.in_ (hcon x3 y3)
  have HV : Hid (cmpA ⟨x0, x1, x2, x3⟩ ⟨y0, y1, y2, y3⟩ = orI [Lib.compareInt x0 y0, Lib.compareInt x1 y1, Lib.compareInt x2 y2, Lib.compareInt x3 y3]) := rfl
  generalize cmpA ⟨x0, x1, x2, x3⟩ ⟨y0, y1, y2, y3⟩ = z at *
  generalize Lib.compareInt x0 y0 = r0 at *
  generalize Lib.compareInt x1 y1 = r1 at *
  generalize Lib.compareInt x2 y2 = r2 at *
  generalize Lib.compareInt x3 y3 = r3 at *
  clear hcon
  simp only
  have hW := wr_twoT W 103 103 [.int .i64 x0, .int .i64 x1, .int .i64 x2, .int .i64 x3] [.int .i64 y0, .int .i64 y1, .int .i64 y2, .int .i64 y3]
  obtain ⟨W2, hW2⟩ : ∃ W2, W2 = (W.alloc (.cells #[.int .i64 x0, .int .i64 x1, .int .i64 x2, .int .i64 x3] 103)).alloc (.cells #[.int .i64 y0, .int .i64 y1, .int .i64 y2, .int .i64 y3] 103) := ⟨_, rfl⟩
  change Wr ((W.alloc (.cells #[.int .i64 x0, .int .i64 x1, .int .i64 x2, .int .i64 x3] 103)).alloc (.cells #[.int .i64 y0, .int .i64 y1, .int .i64 y2, .int .i64 y3] 103)) _ _ ∧ Wr ((W.alloc (.cells #[.int .i64 x0, .int .i64 x1, .int .i64 x2, .int .i64 x3] 103)).alloc (.cells #[.int .i64 y0, .int .i64 y1, .int .i64 y2, .int .i64 y3] 103)) _ _ ∧ _ at hW
  rw [← hW2] at hW
  obtain ⟨⟨c0, c1, c2, c3⟩, _⟩ := wr4a hW.1
  obtain ⟨⟨d0, d1, d2, d3⟩, _⟩ := wr4a hW.2.1
  have HW2 := Hid.in_ hW2
  clear hW hW2
  go_enter Tryz.func82, Tryz.ntmps82
  go_wp2_with fail
  rw [← HW2.out]
  refine wp_region_still_tail 20 (by kernel_rfl) (by kernel_rfl) ?_
  simp only [List.take_succ_cons, List.take_zero, List.drop_succ_cons, List.drop_zero]
  still_step
  still_step
  still_step
  still_step
  still_call (C0.out _)
  still_step
  still_step
  still_step
  still_step
  still_call (C1.out _)
  still_step
  still_step
  still_step
  still_step
  still_call (C2.out _)
  still_step
  still_step
  still_step
  still_step
  still_call (C3.out _)
  refine wpStill_nil ?_
  change wpList _ _ _ _ _ (W2.drewN 1)
  obtain ⟨W3, hW3⟩ : ∃ W3, W3 = W2.drewN 1 := ⟨_, rfl⟩
  rw [← hW3]
  have HBX := Hid.in_ (Box.new W3 [.int .i64 r0, .int .i64 r1, .int .i64 r2, .int .i64 r3] 3)
  have HW3 := Hid.in_ hW3
  clear hW3 c0 c1 c2 c3 d0 d1 d2 d3
  go_wp2_with (go_at_call 116; refine (cmp_Or (l := [r0, r1, r2, r3]) _ HBX.out rfl).mono ?_; rintro e w' ⟨rfl, rfl⟩)
  go_ret
  exact ⟨show Ending.returned (.int .i64 (orI [r0, r1, r2, r3])) = _ by rw [HV.out], 1, _, by rw [HW3.out, HW2.out, Go.Sort.alloc_eq_grow, Go.Sort.alloc_eq_grow, Go.Sort.alloc_eq_grow]; exact grow3 _ _ _ _ _⟩
theorem adr_one {x : AdrR} : ∀ v ∈ x.cells, v.oneCell' = true := by
  intro v hv
  simp [AdrR.cells] at hv
  rcases hv with rfl | rfl | rfl | rfl <;> rfl
set_option maxHeartbeats 1000000 in
theorem sort_adrs {b g cap n : Nat} {d : List AdrR} (w : World) (h : w.ownsRow b 103 4 (.slice (some ⟨g, 0, none⟩) n cap) n (d.flatMap AdrR.cells)) (hn : n ≤ 100000) :
    Calls Tryz.prog 81 #[.slice (some ⟨g, 0, none⟩) n cap, .func (.func 82) #[] #[]] w fun e w' => e = .returned (.tuple #[]) ∧ ∃ d' : List AdrR, d'.Perm d ∧ d'.Pairwise (fun x y => ¬ ltA y x) ∧ w'.ownsRow b 103 4 (.slice (some ⟨g, 0, none⟩) n cap) n (d'.flatMap AdrR.cells) ∧ Below b w w' := by
  have eg : ∀ args w, (callFunc 82 args).run Tryz.prog w = .ok (.enter 82 args) w := enters_of Tryz.func82 (by kernel_rfl) rfl
  have hlx : d.length = n := by have := h.1; rw [flat_len AdrR.len] at this; omega
  have hC : ∀ blk off size w, CmpLays Tryz.prog 82 #[] AdrR.cells 4 cmpA blk off size w := fun _ _ _ _ _ _ _ _ x y => impl_compare x y _
  have hcon := AnyQ.slices_SortFunc Tryz.sortAd 4 Tryz.isAgg103 Tryz.sizeOf103 AdrR.cells AdrR.len (fun x v hv => adr_one v hv) cmpA swo_A 82 #[] g 0 cap d.toArray w eg (hC _ _ _ _) (holds_own AdrR.len (by decide) h) ((h.lt g rfl).2) (by rw [List.size_toArray]; omega)
  change Calls Tryz.prog 81 _ _ _ at hcon
  rw [List.size_toArray, hlx] at hcon
  refine hcon.mono ?_
  rintro e w' ⟨he, d', m, os, hp, hs, rfl⟩
  obtain ⟨p1, _, p3⟩ := hp
  have hsz : d'.size = n := by rw [p1, List.size_toArray, hlx]
  have ex : ∀ a : Array AdrR, a.size = n → (a.extract 0 n).toList = a.toList := fun a ha => by rw [← ha]; simp
  rw [ex d' hsz, ex d.toArray (by rw [List.size_toArray, hlx])] at p3
  obtain ⟨hO, hB⟩ := own_sorted AdrR.len (by decide) h (d' := d'.toList) (by rw [Array.length_toList, hsz, hlx]) m os
  refine ⟨he, d'.toList, p3, ?_, hO, hB⟩
  rw [List.pairwise_iff_getElem]
  intro i j hi hj hij
  rw [Array.length_toList] at hi hj
  have := hs i j (Nat.zero_le _) hij (by rw [← hsz]; exact hj)
  rw [lt_A, getElem!_pos d' i hi, getElem!_pos d' j hj] at this
  exact of_decide_eq_false this
theorem sort_anone (A : Option Addr) (c : Nat) (fv : Value) (w : World) :
    Calls Tryz.prog 81 #[.slice A 0 c, fv] w fun e w' => e = .returned (.tuple #[]) ∧ w' = w := by
  have h := AnyF.slices_SortFunc_none Tryz.sortAd A c fv w
  change Calls Tryz.prog 81 _ _ _ at h
  exact h
end Go.Proofs.YtlelgpknkgjaeaaGreatDoor

/- 'slices.Compact' over addresses: neighbours that are equal are struck. -/
namespace Go.Proofs.YtlelgpknkgjaeaaGreatDoor
open Go.ChangeShapes Go.WideShapes Go.ChangeAt Go.RowKit
set_option linter.unusedSimpArgs false
set_option linter.unusedVariables false
set_option maxRecDepth 4000

theorem setCells_eq (g : Nat) : ∀ (vs : List Value) (o : Nat) (w : World), w.setCells g o vs = setCells w g o vs
  | [], _, _ => rfl
  | v :: vs, o, w => setCells_eq g vs (o + 1) _
theorem setL_take : ∀ (vs : List Value) (o j : Nat) (xs : List Value), j ≤ o → (setL xs o vs).take j = xs.take j
  | [], _, _, _, _ => rfl
  | v :: vs, o, j, xs, h => by
    show (setL (xs.set o v) (o + 1) vs).take j = _
    rw [setL_take vs (o + 1) j (xs.set o v) (by omega)]
    exact List.take_set_of_le h
theorem own_take {w : World} {b g n cap s m : Nat} {e : TypeId} {xs : List Value} (h : w.ownsRow b e s (.slice (some ⟨g, 0, none⟩) n cap) n xs) (hm : m ≤ n) : w.ownsRow b e s (.slice (some ⟨g, 0, none⟩) m cap) m (xs.take (m * s)) := by
  have hl := h.1
  rcases h.2 with ⟨e1, _⟩ | ⟨g1, cap1, cur, e1, hb, hg, hnc, hcm, hcs, ht⟩
  · cases e1
  · injection e1 with e1 e2 e3
    injection e1 with e1
    injection e1 with e1
    subst e1 e3
    have hms : m * s ≤ n * s := Nat.mul_le_mul_right s hm
    refine ⟨by rw [List.length_take]; omega, .inr ⟨g, cap, cur, rfl, hb, hg, by omega, hcm, hcs, ?_⟩⟩
    rw [← ht, List.take_take, Nat.min_eq_left hms]
theorem flat_take {α : Type} {f : α → List Value} {s : Nat} (hf : ∀ x, (f x).length = s) (l : List α) (m : Nat) : (l.flatMap f).take (m * s) = (l.take m).flatMap f := by
  by_cases hm : m ≤ l.length
  · have e : l.flatMap f = (l.take m).flatMap f ++ (l.drop m).flatMap f := by rw [← List.flatMap_append, List.take_append_drop]
    have hl : ((l.take m).flatMap f).length = m * s := by rw [flat_len hf, List.length_take, Nat.min_eq_left hm]
    rw [e, List.take_append_of_le_length (by omega), List.take_of_length_le (by omega)]
  · rw [List.take_of_length_le (l := l) (by omega), List.take_of_length_le]
    rw [flat_len hf]
    exact Nat.mul_le_mul_right s (by omega)
theorem Tryz.eql_AdrR (a b : AdrR) (w : World) : (binOp .eql 103 (.agg #[.int .i64 a.c, .int .i64 a.h, .int .i64 a.n, .int .i64 a.s]) (.agg #[.int .i64 b.c, .int .i64 b.h, .int .i64 b.n, .int .i64 b.s])).run Tryz.prog w = .ok (.bool ((a.c == b.c) && ((a.h == b.h) && ((a.n == b.n) && ((a.s == b.s) && true))))) w := by
  have hE : (Op.equalIn 10000 103 (.agg #[.int .i64 a.c, .int .i64 a.h, .int .i64 a.n, .int .i64 a.s]) (.agg #[.int .i64 b.c, .int .i64 b.h, .int .i64 b.n, .int .i64 b.s])).run Tryz.prog w = .ok ((a.c == b.c) && ((a.h == b.h) && ((a.n == b.n) && ((a.s == b.s) && true)))) w := by
    refine (run_equalIn_agg w 9999 103 _ _ (by kernel_rfl) (by kernel_rfl)).trans ?_
    simp only [Program.fieldsOf, Tryz.underlying103]
    refine eqF_step (by kernel_rfl) (by kernel_rfl) rfl rfl (run_equalIn_int w 9998 2 .i64 .i64 _ _ Tryz.underlying2) ?_
    refine eqF_step (by kernel_rfl) (by kernel_rfl) rfl rfl (run_equalIn_int w 9998 2 .i64 .i64 _ _ Tryz.underlying2) ?_
    refine eqF_step (by kernel_rfl) (by kernel_rfl) rfl rfl (run_equalIn_int w 9998 2 .i64 .i64 _ _ Tryz.underlying2) ?_
    refine eqF_step (by kernel_rfl) (by kernel_rfl) rfl rfl (run_equalIn_int w 9998 2 .i64 .i64 _ _ Tryz.underlying2) ?_
    rfl
  rw [run_eql_struct, hE]
  rfl
theorem Tryz.neq_AdrR (a b : AdrR) (w : World) : (binOp .neq 103 (.agg #[.int .i64 a.c, .int .i64 a.h, .int .i64 a.n, .int .i64 a.s]) (.agg #[.int .i64 b.c, .int .i64 b.h, .int .i64 b.n, .int .i64 b.s])).run Tryz.prog w = .ok (.bool (!((a.c == b.c) && ((a.h == b.h) && ((a.n == b.n) && ((a.s == b.s) && true)))))) w := by
  have hE : (Op.equalIn 10000 103 (.agg #[.int .i64 a.c, .int .i64 a.h, .int .i64 a.n, .int .i64 a.s]) (.agg #[.int .i64 b.c, .int .i64 b.h, .int .i64 b.n, .int .i64 b.s])).run Tryz.prog w = .ok ((a.c == b.c) && ((a.h == b.h) && ((a.n == b.n) && ((a.s == b.s) && true)))) w := by
    refine (run_equalIn_agg w 9999 103 _ _ (by kernel_rfl) (by kernel_rfl)).trans ?_
    simp only [Program.fieldsOf, Tryz.underlying103]
    refine eqF_step (by kernel_rfl) (by kernel_rfl) rfl rfl (run_equalIn_int w 9998 2 .i64 .i64 _ _ Tryz.underlying2) ?_
    refine eqF_step (by kernel_rfl) (by kernel_rfl) rfl rfl (run_equalIn_int w 9998 2 .i64 .i64 _ _ Tryz.underlying2) ?_
    refine eqF_step (by kernel_rfl) (by kernel_rfl) rfl rfl (run_equalIn_int w 9998 2 .i64 .i64 _ _ Tryz.underlying2) ?_
    refine eqF_step (by kernel_rfl) (by kernel_rfl) rfl rfl (run_equalIn_int w 9998 2 .i64 .i64 _ _ Tryz.underlying2) ?_
    rfl
  rw [run_neq_struct, hE]
  rfl
theorem Tryz.guard_AdrR (a b : AdrR) (op : BinOp) (x y : Operand) (w : World) : (eqGuard op 103 x y (.agg #[.int .i64 a.c, .int .i64 a.h, .int .i64 a.n, .int .i64 a.s]) (.agg #[.int .i64 b.c, .int .i64 b.h, .int .i64 b.n, .int .i64 b.s])).run Tryz.prog w = .ok () w := run_eqGuard_agg w op 103 x y _ _ (by kernel_rfl)
theorem eqA_beq (a b : AdrR) : ((a.c == b.c) && ((a.h == b.h) && ((a.n == b.n) && ((a.s == b.s) && true)))) = eqA a b := by
  unfold eqA
  cases e1 : (a.c == b.c) <;> cases e2 : (a.h == b.h) <;> cases e3 : (a.n == b.n) <;> cases e4 : (a.s == b.s) <;> simp_all
theorem eqA_no {a b : AdrR} (h : a ≠ b) : eqA a b = false := by
  cases e : eqA a b
  · rfl
  · exact absurd (eqA_yes e) h
theorem Tryz.eql_same (a : AdrR) (w : World) : (binOp .eql 103 (.agg #[.int .i64 a.c, .int .i64 a.h, .int .i64 a.n, .int .i64 a.s]) (.agg #[.int .i64 a.c, .int .i64 a.h, .int .i64 a.n, .int .i64 a.s])).run Tryz.prog w = .ok (.bool true) w := by
  rw [Tryz.eql_AdrR, eqA_beq, eqA_self]
theorem Tryz.eql_diff {a b : AdrR} (h : a ≠ b) (w : World) : (binOp .eql 103 (.agg #[.int .i64 a.c, .int .i64 a.h, .int .i64 a.n, .int .i64 a.s]) (.agg #[.int .i64 b.c, .int .i64 b.h, .int .i64 b.n, .int .i64 b.s])).run Tryz.prog w = .ok (.bool false) w := by
  rw [Tryz.eql_AdrR, eqA_beq, eqA_no h]
theorem Tryz.neq_same (a : AdrR) (w : World) : (binOp .neq 103 (.agg #[.int .i64 a.c, .int .i64 a.h, .int .i64 a.n, .int .i64 a.s]) (.agg #[.int .i64 a.c, .int .i64 a.h, .int .i64 a.n, .int .i64 a.s])).run Tryz.prog w = .ok (.bool false) w := by
  rw [Tryz.neq_AdrR, eqA_beq, eqA_self]; rfl
theorem Tryz.neq_diff {a b : AdrR} (h : a ≠ b) (w : World) : (binOp .neq 103 (.agg #[.int .i64 a.c, .int .i64 a.h, .int .i64 a.n, .int .i64 a.s]) (.agg #[.int .i64 b.c, .int .i64 b.h, .int .i64 b.n, .int .i64 b.s])).run Tryz.prog w = .ok (.bool true) w := by
  rw [Tryz.neq_AdrR, eqA_beq, eqA_no h]; rfl
theorem zeros4 (n : Nat) : (Builtin.zeroCells #[Value.int .i64 0, .int .i64 0, .int .i64 0, .int .i64 0] n).toList = List.replicate (n * 4) (.int .i64 0) := by
  simp [Builtin.zeroCells]
  apply List.ext_getElem
  · simp
  · intro i h1 h2
    simp at h1
    have h4 : i % 4 < 4 := Nat.mod_lt _ (by decide)
    have : ∀ k : Nat, k < 4 → ([Value.int IntKind.i64 0, .int .i64 0, .int .i64 0, .int .i64 0] : List Value)[k]? = some (.int .i64 0) := by
      intro k hk
      have : k = 0 ∨ k = 1 ∨ k = 2 ∨ k = 3 := by omega
      rcases this with rfl | rfl | rfl | rfl <;> rfl
    simp
    rw [this (i % 4) h4]
    rfl
theorem run_clear4 (w : World) (ty : TypeId) (b o n c : Nat) (hn : 0 < n) (hc : ∀ j, j < n * 4 → (w.cell? ⟨b, o + j, none⟩).isSome = true) (hf : ∀ j, j < n * 4 → w.frozen? ⟨b, o + j, none⟩ = false) :
    (Builtin.clear_ #[101] ty #[.slice (some ⟨b, o, none⟩) n c]).run Tryz.prog w = .ok (.tuple #[]) (setCells w b o (List.replicate (n * 4) (.int .i64 0))) := by
  have hst := run_storeCells_cells (P := Tryz.prog) b o (List.replicate (n * 4) (.int .i64 0)) 0 w (by simpa using hc) (by simpa using hf) (by intro v hv; rw [List.eq_of_mem_replicate hv]; rfl)
  rw [Nat.add_zero, setCells_eq] at hst
  have hv : ∀ w, (zeroValue 103).run Tryz.prog w = .ok (.agg #[.int .i64 0, .int .i64 0, .int .i64 0, .int .i64 0]) w := fun w => by kernel_rfl
  obtain ⟨m, rfl⟩ : ∃ m, n = m + 1 := ⟨n - 1, by omega⟩
  have hz : (Builtin.zeroCells (Value.agg #[.int .i64 0, .int .i64 0, .int .i64 0, .int .i64 0]).cells (m + 1)).toList = List.replicate ((m + 1) * 4) (.int .i64 0) := zeros4 _
  simp [Builtin.clear_, run_underlying Tryz.underlying101, hv, hz, hst]
/-- what lies in the row while it is struck. -/
def cmpR (l : List AdrR) (j : Nat) : List AdrR := cmpTo l j ++ l.drop (cmpTo l j).length
theorem cmpR_len {l : List AdrR} {j : Nat} (h : j ≤ l.length) : (cmpR l j).length = l.length := by
  have := cmpTo_len l j
  unfold cmpR
  rw [List.length_append, List.length_drop]
  omega
theorem cmpR_get {l : List AdrR} {j i : Nat} (h : (cmpTo l j).length ≤ i) : (cmpR l j)[i]? = l[i]? := by
  unfold cmpR
  rw [List.getElem?_append_right h, List.getElem?_drop]
  congr 1
  omega
theorem cmpR_step {l : List AdrR} {j : Nat} {x y : AdrR} (h0 : l[j]? = some y) (h : l[j + 1]? = some x) (hne : y ≠ x) : (cmpR l (j + 1)).set (cmpTo l (j + 1)).length x = cmpR l (j + 2) := by
  have hj : j + 1 < l.length := (List.getElem?_eq_some_iff.1 h).1
  have hl := cmpTo_len l (j + 1)
  have hk : (cmpTo l (j + 1)).length < l.length := by omega
  unfold cmpR
  rw [cmpTo_new h0 h hne, List.set_append_right _ _ (Nat.le_refl _), Nat.sub_self, List.drop_eq_getElem_cons hk, List.set_cons_zero, List.length_append, List.append_assoc]
  rfl
theorem cmpTo_all {l : List AdrR} : ∀ {k : Nat}, (∀ i, i + 1 < k → l[i]? ≠ l[i + 1]?) → k ≤ l.length → cmpTo l k = l.take k
  | 0, _, _ => rfl
  | 1, _, hk => by
    obtain ⟨x, hx⟩ := get_lt l 0 (by omega)
    rw [cmpTo_one hx, List.take_add_one, hx]
    rfl
  | k + 2, h, hk => by
    obtain ⟨x, hx⟩ := get_lt l k (by omega)
    obtain ⟨y, hy⟩ := get_lt l (k + 1) (by omega)
    have hne : x ≠ y := fun e => h k (by omega) (by rw [hx, hy, e])
    rw [cmpTo_new hx hy hne, cmpTo_all (k := k + 1) (fun i hi => h i (by omega)) (by omega), List.take_add_one (i := k + 1), hy]
    rfl
theorem cmpTo_tail {l : List AdrR} {k : Nat} (h : (cmpTo l (k + 1)).length = k) : ∀ q, 1 ≤ q → (cmpTo l (k + q)).length + 1 ≤ k + q
  | 0, hq => by omega
  | 1, _ => by omega
  | q + 2, _ => by
    have ih := cmpTo_tail h (q + 1) (by omega)
    have : (cmpTo l (k + (q + 2))).length ≤ (cmpTo l (k + (q + 1))).length + 1 := by
      show (cmpTo l (k + (q + 1) + 1)).length ≤ _
      conv => lhs; unfold cmpTo
      split
      · split
        · omega
        · rw [List.length_append]; exact Nat.le_refl _
      · omega
    omega
theorem grown_drewN {w w' : World} {r : Option Nat} (h : w.grownBy w' r) (q : Nat) : w.grownBy (w'.drewN q) r := ⟨h.os, h.tape, h.output, h.size, h.block⟩
theorem own_box {w : World} {b g n cap s : Nat} {e : TypeId} {xs : List Value} (h : w.ownsRow b e s (.slice (some ⟨g, 0, none⟩) n cap) n xs) : Box w g xs ∧ (∀ j, w.frozen? ⟨g, j, none⟩ = false) ∧ n ≤ cap ∧ cap ≤ 9223372036854775807 := by
  refine ⟨fun j u hu => ?_, fun j => h.frozenAt j, ?_⟩
  · have := h.cells (g := g) rfl j u hu
    rwa [addr_add, Nat.zero_add] at this
  · rcases h.2 with ⟨e1, _⟩ | ⟨g1, cap1, cur, e1, _, _, h1, h2, _⟩
    · cases e1
    · injection e1 with _ _ e3
      obtain rfl := e3
      unfold maxLen at h2
      exact ⟨h1, by omega⟩
set_option maxHeartbeats 4000000 in
theorem slices_CompactA {b g n cap : Nat} {l : List AdrR} (w : World) (h : w.ownsRow b 103 4 (.slice (some ⟨g, 0, none⟩) n cap) n (l.flatMap AdrR.cells)) :
    Calls Tryz.prog 83 #[.slice (some ⟨g, 0, none⟩) n cap] w fun e w' => ∃ m, m = (cmpTo l n).length ∧ e = .returned (.slice (some ⟨g, 0, none⟩) m cap) ∧ w'.ownsRow b 103 4 (.slice (some ⟨g, 0, none⟩) m cap) m ((cmpTo l n).flatMap AdrR.cells) ∧ w.grownBy w' (some g) := by
  have hlx : l.length = n := by have := h.1; rw [flat_len AdrR.len] at this; omega
  obtain ⟨_, _, hnc, hcm⟩ := own_box h
  have HO := Hid.in_ h
  have HL := Hid.in_ hlx
  clear h hlx
  by_cases h2 : (n : Int) < 2
  · have HE := Hid.in_ (show cmpTo l n = l by
      rw [cmpTo_all (fun i hi => absurd hi (by omega)) (by rw [HL.out]; exact Nat.le_refl _), List.take_of_length_le (by rw [HL.out]; exact Nat.le_refl _)])
    go_enter Tryz.func83, Tryz.ntmps83
    go_wp2
    go_ret
    refine ⟨n, by rw [HE.out, HL.out], rfl, by rw [HE.out]; exact HO.out, World.grownBy.refl _ _⟩
  go_enter Tryz.func83, Tryz.ntmps83
  go_wp2_with fail
  go_loopg [3] (n - 1) (fun m v wr => ∃ k i : Nat, k + m = n ∧ i + 1 = k ∧ v = .int .i64 k ∧ Hid (∀ q, q + 1 < k → l[q]? ≠ l[q + 1]?) ∧ Hid (wr.ownsRow b 103 4 (.slice (some ⟨g, 0, none⟩) n cap) n (l.flatMap AdrR.cells)) ∧ Hid (w.grownBy wr (some g)))
  case atStart => exact ⟨1, 0, by omega, rfl, rfl, fun q hq => absurd hq (by omega), HO.out, World.grownBy.refl _ _⟩
  case round =>
    clear HO
    obtain ⟨k, i, hkm, hik, rfl, HA, HO, HG⟩ := hrel
    have HK := Hid.in_ (And.intro hkm hik)
    have hsub : (k : Int) - 1 = (i : Int) := by omega
    clear hkm
    by_cases hlt : k < n
    · obtain ⟨HX, HF, _, _⟩ := own_box HO.out
      obtain ⟨x, hx⟩ := get_lt l i (by rw [HL.out]; omega)
      obtain ⟨y, hy⟩ := get_lt l k (by rw [HL.out]; exact hlt)
      obtain ⟨c0, c1, c2, c3⟩ := boxAt4 (Box.elem AdrR.len HX hx)
      obtain ⟨d0, d1, d2, d3⟩ := boxAt4 (Box.elem AdrR.len HX hy)
      have hin : (i : Int) < n := by omega
      have hi0 : (0 : Int) ≤ i := by omega
      have hk0 : (0 : Int) ≤ k := by omega
      have hkn : (k : Int) < n := by omega
      have HXI := Hid.in_ hx
      have HYI := Hid.in_ hy
      clear HX HF hx hy
      by_cases hxy : y = x
      · subst hxy
        have heq := fun w => Tryz.eql_same y w
        have hgd := fun op a b w => Tryz.guard_AdrR y y op a b w
        have hncI : (n : Int) ≤ cap := by omega
        have hkcI : (k : Int) ≤ cap := by omega
        have hC0 := Hid.in_ (show cmpTo l (k + 1) = cmpTo l k from by
          have e := cmpTo_same (l := l) (j := i) (x := y) HXI.out (by rw [(HK.out).2]; exact HYI.out)
          rw [← (HK.out).2]
          exact e)
        have hC1 := Hid.in_ (show cmpTo l k = l.take k from cmpTo_all HA.out (by rw [HL.out]; omega))
        have hR0 := Hid.in_ (show cmpR l (k + 1) = l by
          unfold cmpR
          rw [hC0.out, hC1.out, List.length_take, Nat.min_eq_left (by rw [HL.out]; omega), List.take_append_drop])
        have hl0 := Hid.in_ (show (cmpTo l (k + 1)).length = k by rw [hC0.out, hC1.out, List.length_take, Nat.min_eq_left (by rw [HL.out]; omega)])
        clear c0 c1 c2 c3 d0 d1 d2 d3
        obtain ⟨c0, c1, c2, c3⟩ := boxAt4 (Box.elem AdrR.len (own_box HO.out).1 HXI.out)
        obtain ⟨d0, d1, d2, d3⟩ := boxAt4 (Box.elem AdrR.len (own_box HO.out).1 HYI.out)
        go_wp2_with fail
        go_quiet (fail)
        obtain ⟨wo, hwo⟩ : ∃ wo, wo = wr.drewN nq := ⟨_, rfl⟩
        rw [← hwo]
        have HOo := Hid.in_ (show wo.ownsRow b 103 4 (.slice (some ⟨g, 0, none⟩) n cap) n ((cmpR l (k + 1)).flatMap AdrR.cells) by rw [hwo, hR0.out]; exact own_drewN HO.out _)
        have HGo := Hid.in_ (show w.grownBy wo (some g) by rw [hwo]; exact grown_drewN HG.out _)
        clear hwo c0 c1 c2 c3 d0 d1 d2 d3 heq hgd
        go_wp2_with fail
        obtain ⟨gO, rfl⟩ : ∃ g, g = gk := ⟨_, rfl⟩
        go_loopg [3, 5] (n - k - 1) (fun m v v5 wr => ∃ q p kk : Nat, k + q + m = n ∧ p + 1 = q ∧ v = .int .i64 kk ∧ v5 = .int .i64 q ∧ Hid (kk = (cmpTo l (k + q)).length) ∧ Hid (wr.ownsRow b 103 4 (.slice (some ⟨g, 0, none⟩) n cap) n ((cmpR l (k + q)).flatMap AdrR.cells)) ∧ Hid (w.grownBy wr (some g)))
        case atStart => exact ⟨1, 0, k, by omega, rfl, rfl, rfl, hl0.out.symm, HOo.out, HGo.out⟩
        case round =>
          clear HOo HGo HO HG
          obtain ⟨q, p, kk, hqm, hpq, rfl, rfl, HKK, HO, HG⟩ := hrel
          have HQ := Hid.in_ (And.intro hqm hpq)
          have hsub2 : (q : Int) - 1 = (p : Int) := by omega
          clear hqm
          have hcl : kk + 1 ≤ k + q := by
            have e := cmpTo_tail (l := l) (k := k) hl0.out q (by omega)
            rw [HKK.out]; omega
          have hkkn : (kk : Int) < n := by have := (HQ.out).1; omega
          have hkk0 : (0 : Int) ≤ kk := by omega
          by_cases hlq : k + q < n
          · obtain ⟨HX, HF, _, _⟩ := own_box HO.out
            obtain ⟨x, hx⟩ := get_lt l (k + p) (by rw [HL.out]; omega)
            obtain ⟨z, hz⟩ := get_lt l (k + q) (by rw [HL.out]; exact hlq)
            have hcx : (cmpR l (k + q))[k + p]? = some x := (cmpR_get (by rw [← HKK.out]; omega)).trans hx
            have hcz : (cmpR l (k + q))[k + q]? = some z := (cmpR_get (by rw [← HKK.out]; omega)).trans hz
            obtain ⟨c0, c1, c2, c3⟩ := boxAt4 (Box.elem AdrR.len HX hcx)
            obtain ⟨d0, d1, d2, d3⟩ := boxAt4 (Box.elem AdrR.len HX hcz)
            rw [Nat.add_mul] at c0 c1 c2 c3 d0 d1 d2 d3
            have hqr : (q : Int) < ((n - k : Nat) : Int) := by omega
            have hpr : (p : Int) < ((n - k : Nat) : Int) := by omega
            have hp0 : (0 : Int) ≤ p := by omega
            have hq0 : (0 : Int) ≤ q := by omega
            have HXI2 := Hid.in_ hx
            have HZI2 := Hid.in_ hz
            by_cases hzx : z = x
            · subst hzx
              have heq := fun w => Tryz.neq_same z w
              have hgd := fun op a b w => Tryz.guard_AdrR z z op a b w
              have HN := Hid.in_ (show cmpTo l (k + q + 1) = cmpTo l (k + q) from by
                have e := cmpTo_same (l := l) (j := k + p) (x := z) HXI2.out (by rw [Nat.add_assoc, (HQ.out).2]; exact HZI2.out)
                rw [show k + p + 2 = k + q + 1 by have := (HQ.out).2; omega, show k + p + 1 = k + q by have := (HQ.out).2; omega] at e
                exact e)
              clear HX HF hx hz hcx hcz
              go_wp2_with fail
              go_quiet (fail)
              go_wp2
              have hk := HQ.out
              go_roundg (gk - 1)
              case measure => omega
              case rel => exact ⟨q + 1, q, kk, by omega, rfl, rfl, by go_num, by show kk = (cmpTo l (k + q + 1)).length; rw [HN.out]; exact HKK.out, by show World.ownsRow _ b _ 4 _ n ((cmpTo l (k + q + 1) ++ l.drop (cmpTo l (k + q + 1)).length).flatMap AdrR.cells); rw [HN.out]; exact own_drewN HO.out _, grown_drewN HG.out _⟩
            · have heq := fun w => Tryz.neq_diff (a := z) (b := x) hzx w
              have hgd := fun op a b w => Tryz.guard_AdrR z x op a b w
              have hN := cmpTo_new (l := l) (j := k + p) (x := z) (y := x) HXI2.out (by rw [Nat.add_assoc, (HQ.out).2]; exact HZI2.out) (fun e => hzx e.symm)
              have hS := cmpR_step (l := l) (j := k + p) (x := z) (y := x) HXI2.out (by rw [Nat.add_assoc, (HQ.out).2]; exact HZI2.out) (fun e => hzx e.symm)
              rw [show k + p + 2 = k + q + 1 by have := (HQ.out).2; omega, show k + p + 1 = k + q by have := (HQ.out).2; omega] at hN hS
              rw [← HKK.out] at hS
              have HN := Hid.in_ hN
              have HS := Hid.in_ hS
              obtain ⟨y0, hy0⟩ := get_lt (cmpR l (k + q)) kk (by rw [cmpR_len (by rw [HL.out]; omega), HL.out]; omega)
              have HY := Hid.in_ hy0
              clear HX HF hx hz hcx hcz hN hS hy0
              go_wp2_with fail
              go_quiet (fail)
              obtain ⟨wo2, hwo2⟩ : ∃ wo2, wo2 = wr.drewN nq := ⟨_, rfl⟩
              rw [← hwo2]
              have HO2 := Hid.in_ (show wo2.ownsRow b 103 4 (.slice (some ⟨g, 0, none⟩) n cap) n ((cmpR l (k + q)).flatMap AdrR.cells) by rw [hwo2]; exact own_drewN HO.out _)
              have HG2 := Hid.in_ (show w.grownBy wo2 (some g) by rw [hwo2]; exact grown_drewN HG.out _)
              clear hwo2 c0 c1 c2 c3 d0 d1 d2 d3
              obtain ⟨HX, HF, _, _⟩ := own_box HO2.out
              have hcz : (cmpR l (k + q))[k + q]? = some z := (cmpR_get (by rw [← HKK.out]; omega)).trans HZI2.out
              obtain ⟨d0, d1, d2, d3⟩ := boxAt4 (Box.elem AdrR.len HX hcz)
              rw [Nat.add_mul] at d0 d1 d2 d3
              obtain ⟨e0, e1, e2, e3⟩ := boxAt4 (Box.elem AdrR.len HX HY.out)
              have f0 := HF (kk * 4)
              have f1 := HF (kk * 4 + 1)
              have f2 := HF (kk * 4 + 2)
              have f3 := HF (kk * 4 + 3)
              have hS3 := own_setRec AdrR.len (k := kk) z (by rw [cmpR_len (by rw [HL.out]; omega), HL.out]; omega) HO2.out
              rw [HS.out] at hS3
              have HS3 := Hid.in_ (And.intro hS3.1 (HG2.out.trans hS3.2))
              clear HX HF hcz hS3
              go_wp2
              have hk := HQ.out
              go_roundg (gk - 1)
              case measure => omega
              case rel => exact ⟨q + 1, q, kk + 1, by omega, rfl, by go_num, by go_num, by show kk + 1 = (cmpTo l (k + q + 1)).length; rw [HN.out, List.length_append, ← HKK.out]; rfl, HS3.out.1, HS3.out.2⟩
          · have hk := HQ.out
            have hqn : k + q = n := by omega
            rw [hqn] at HKK HO
            obtain ⟨HX, HF, _, _⟩ := own_box HO.out
            have hlen : (cmpR l n).length = n := by rw [cmpR_len (by rw [HL.out]; exact Nat.le_refl _), HL.out]
            have hclr := fun ty => run_clear4 wr ty g (kk * 4) (n - kk) (cap - kk) (by omega) (fun j hj => by
              obtain ⟨u, hu⟩ := get_lt ((cmpR l n).flatMap AdrR.cells) (kk * 4 + j) (by rw [flat_len AdrR.len, hlen]; omega)
              rw [HX _ u hu]; rfl) (fun j _ => HF _)
            have hS := own_setCells (List.replicate ((n - kk) * 4) (.int .i64 0)) (kk * 4) HO.out
            have hT := own_take hS.1 (m := kk) (by omega)
            rw [setL_take _ _ _ _ (Nat.le_refl _), flat_take AdrR.len] at hT
            have hTk : (cmpR l n).take kk = cmpTo l n := by
              unfold cmpR
              rw [HKK.out, List.take_left']
              rfl
            rw [hTk] at hT
            have HR := Hid.in_ (And.intro hT (HG.out.trans hS.2))
            have hkc : (kk : Int) ≤ cap := by omega
            have hkn2 : (kk : Int) ≤ n := by omega
            clear HX HF hlen hS hT hTk
            go_wp2
            go_ret
            exact ⟨kk, HKK.out, rfl, HR.out.1, HR.out.2⟩
      · have heq := fun w => Tryz.eql_diff (a := y) (b := x) hxy w
        have hgd := fun op a b w => Tryz.guard_AdrR y x op a b w
        go_wp2_with fail
        go_quiet (fail)
        go_wp2
        have hk := HK.out
        go_roundg (gk - 1)
        case measure => omega
        case rel =>
          refine ⟨k + 1, k, by omega, rfl, by go_num, fun q hq => ?_, own_drewN HO.out _, grown_drewN HG.out _⟩
          rcases Nat.lt_or_ge (q + 1) k with hq1 | hq1
          · exact HA.out q hq1
          · obtain rfl : q = i := by omega
            rw [HXI.out, hk.2, HYI.out]
            intro e
            injection e with e
            exact hxy e.symm
    · have hk := HK.out
      obtain rfl : k = n := by omega
      have HE := Hid.in_ (show cmpTo l k = l by
        rw [cmpTo_all HA.out (by rw [HL.out]; exact Nat.le_refl _), List.take_of_length_le (by rw [HL.out]; exact Nat.le_refl _)])
      go_wp2
      go_ret
      refine ⟨k, by rw [HE.out, HL.out], rfl, by rw [HE.out]; exact HO.out, HG.out⟩
end Go.Proofs.YtlelgpknkgjaeaaGreatDoor

/- 'VoteBytes' of the reference. -/
namespace Go.Proofs.YtlelgpknkgjaeaaGreatDoor
open Go.ChangeShapes Go.WideShapes Go.ChangeAt Go.RowKit
set_option linter.unusedSimpArgs false
set_option linter.unusedVariables false
set_option maxRecDepth 4000

theorem Tryz.infoU8v : (Tryz.prog.info? 5).map (fun i => (i.zero, i.size, i.bytes)) = some (some (.int .u8 0), 1, 1) := by kernel_rfl
theorem Tryz.infoI64v : (Tryz.prog.info? 2).map (fun i => (i.zero, i.size, i.bytes)) = some (some (.int .i64 0), 1, 8) := by kernel_rfl
def mostTo (l : List ByteArray) (k m : Nat) : Nat := if m = 0 then 0 else cntN l k (bestTo l k m)
theorem most_yes {l : List ByteArray} {k m X : Nat} (hX : cntN l k m = X) (h : mostTo l k m < X) : bestTo l k (m + 1) = m ∧ mostTo l k (m + 1) = X := by
  subst hX
  have h1 : bestTo l k (m + 1) = m := by
    by_cases hc : cntN l k (bestTo l k m) < cntN l k m
    · exact bestTo_yes hc
    · rw [bestTo_no hc]
      rcases Nat.eq_zero_or_pos m with h0 | h0
      · subst h0
        have := bestTo_le l k 0
        omega
      · unfold mostTo at h
        rw [if_neg (by omega)] at h
        exact absurd h hc
  refine ⟨h1, ?_⟩
  unfold mostTo
  rw [if_neg (by omega), h1]
theorem most_no {l : List ByteArray} {k m X : Nat} (hX : cntN l k m = X) (h : ¬ mostTo l k m < X) : bestTo l k (m + 1) = bestTo l k m ∧ mostTo l k (m + 1) = mostTo l k m := by
  subst hX
  unfold mostTo at h
  have h1 : bestTo l k (m + 1) = bestTo l k m := by
    refine bestTo_no fun hc => ?_
    rcases Nat.eq_zero_or_pos m with h0 | h0
    · rw [if_pos h0] at h
      omega
    · rw [if_neg (by omega)] at h
      exact h hc
  refine ⟨h1, ?_⟩
  unfold mostTo
  rw [if_neg (by omega), h1]
  rcases Nat.eq_zero_or_pos m with h0 | h0
  · subst h0
    rw [if_pos rfl] at h ⊢
    have : bestTo l k 0 = 0 := rfl
    rw [this]
    omega
  · rw [if_neg (by omega)]
theorem mostTo_le (l : List ByteArray) (k m : Nat) : mostTo l k m ≤ l.length := by
  unfold mostTo
  split
  · omega
  · exact cntTo_le _ _ _ _
theorem most_all {l : List ByteArray} {k n : Nat} (hl : l.length = n) : (((mostTo l k 256 : Nat) : Int) == (n : Int)) = !diffAt l k := by
  have h1 := best_all l k
  have h2 : mostTo l k 256 = cntN l k (bestTo l k 256) := by unfold mostTo; rw [if_neg (by omega)]
  rw [h2]
  cases hd : diffAt l k
  · rw [hd] at h1
    rw [h1.2 rfl, hl]
    simp
  · rw [hd] at h1
    have : ¬ cntN l k (bestTo l k 256) = l.length := fun e => by have := h1.1 e; cases this
    simp
    omega
theorem byte_is (d : UInt8) {b : Nat} (hb : b < 256) : (d = UInt8.ofNat b ∧ ((d.toNat : Int) == (b : Int)) = true) ∨ (d ≠ UInt8.ofNat b ∧ ((d.toNat : Int) == (b : Int)) = false) := by
  by_cases h : d = UInt8.ofNat b
  · refine .inl ⟨h, ?_⟩
    subst h
    rw [UInt8.toNat_ofNat', Nat.mod_eq_of_lt (by omega)]
    simp
  · refine .inr ⟨h, beq_eq_false_iff_ne.2 fun e => h (UInt8.toNat_inj.1 ?_)⟩
    rw [UInt8.toNat_ofNat', Nat.mod_eq_of_lt (by omega)]
    omega
set_option maxHeartbeats 1000000 in
theorem spec_l10Byte {v : Value} {n b : Nat} {l : List ByteArray} (k : Nat) (w : World) (h : w.ownsRow b 9 1 v n (Strs l)) (hl : l.length = n) (hk : ∀ s ∈ l, k < s.size ∧ s.size ≤ 1048576) (hn : n ≤ 1048576) :
    Calls Tryz.prog 152 #[v, .int .i64 k] w fun e w' => e = .returned (.tuple #[.int .u8 (bestTo l k 256 : Nat), .bool (!diffAt l k)]) ∧ w = w' := by
  obtain ⟨A, c, rfl, _, _, hA⟩ := own_shape h
  have HL := Hid.in_ hl
  have H1 := Hid.in_ hA
  have HZ := Hid.in_ hk
  have HALL := Hid.in_ (most_all (k := k) hl)
  clear hA h hl hk
  go_enter Tryz.func152, Tryz.ntmps152
  go_wp2_with fail
  go_loopg [6, 7, 8] 256 (fun m be mo i wr => ∃ j : Nat, j + m = 256 ∧ i = .int .i64 j ∧ be = .int .u8 (bestTo l k j : Nat) ∧ mo = .int .i64 (mostTo l k j : Nat) ∧ w = wr)
  case atStart => exact ⟨0, by omega, rfl, rfl, rfl, rfl⟩
  case round =>
    obtain ⟨j, hkm, rfl, rfl, rfl, rfl⟩ := hrel
    have HK := Hid.in_ hkm
    clear hkm
    have hml := mostTo_le l k j
    rw [HL.out] at hml
    by_cases hlt : j < 256
    · have hw8 : IntKind.u8.wrap (j : Int) = (j : Int) := IntWalk.u8_in _ (by omega)
      have HMY := Hid.in_ (fun X (hX : cntN l k j = X) => And.intro (most_yes (k := k) hX) (most_no (k := k) hX))
      have hbb := bestTo_le l k j
      have HCN := Hid.in_ (show cntN l k j = cntTo l k (UInt8.ofNat j) n from by unfold cntN; rw [HL.out])
      generalize hbe : bestTo l k j = BE at *
      generalize hmo : mostTo l k j = MO at *
      have HBM := Hid.in_ (And.intro hbe hmo)
      clear hbe hmo
      go_wp2_with fail
      obtain ⟨gO, rfl⟩ : ∃ g, g = gk := ⟨_, rfl⟩
      go_loopg [9, 10] n (fun m o i wi => ∃ q : Nat, q + m = n ∧ i = .int .i64 q ∧ o = .int .i64 (cntTo l k (UInt8.ofNat j) q : Nat) ∧ w = wi)
      case atStart => exact ⟨0, by omega, rfl, rfl, rfl⟩
      case round =>
        obtain ⟨q, hqm, rfl, rfl, rfl⟩ := hrel
        have HJ := Hid.in_ hqm
        clear hqm
        have hle := cntTo_le l k (UInt8.ofNat j) q
        by_cases hlq : q < n
        · obtain ⟨g, rfl, _, hg, hx, _⟩ := H1.out (by omega)
          obtain ⟨s, hs⟩ := get_lt l q (by rw [HL.out]; exact hlq)
          have c0 := hx q _ (Strs_get hs)
          obtain ⟨hks, hsz⟩ := HZ.out s (List.mem_of_getElem? hs)
          obtain ⟨d, hd⟩ : ∃ d : UInt8, s[k] = d := ⟨_, rfl⟩
          have HCV := Hid.in_ (colAt_val hs hks hd)
          clear hx hs
          obtain ⟨e1, e2⟩ | ⟨e1, e2⟩ := byte_is d hlt
          · have HN := Hid.in_ (cnt_next1 (l := l) (k := k) (i := q) (c := UInt8.ofNat j) (by rw [HCV.out, e1]))
            clear e1
            generalize cntTo l k (UInt8.ofNat j) q = X at *
            go_wp2
            have hj := HJ.out
            go_roundg (gk - 1)
            case measure => omega
            case rel => exact ⟨q + 1, by omega, by go_num, by rw [HN.out]; go_num, rfl⟩
          · have HN := Hid.in_ (cnt_next0 (l := l) (k := k) (i := q) (c := UInt8.ofNat j) (by rw [HCV.out]; exact e1))
            clear e1
            generalize cntTo l k (UInt8.ofNat j) q = X at *
            go_wp2
            have hj := HJ.out
            go_roundg (gk - 1)
            case measure => omega
            case rel => exact ⟨q + 1, by omega, by go_num, by rw [HN.out], rfl⟩
        · have hj := HJ.out
          obtain rfl : q = n := by omega
          generalize cntTo l k (UInt8.ofNat j) q = X at *
          have HM := Hid.in_ (HMY.out X HCN.out)
          by_cases hq : MO < X
          · have HM2 := Hid.in_ (HM.out.1 hq)
            go_wp2
            have hk := HK.out
            go_roundg (gO - 1)
            case measure => omega
            case rel => exact ⟨j + 1, by omega, by go_num, by rw [HM2.out.1], by rw [HM2.out.2], rfl⟩
          · have HM2 := Hid.in_ (HM.out.2 hq)
            go_wp2
            have hk := HK.out
            go_roundg (gO - 1)
            case measure => omega
            case rel => exact ⟨j + 1, by omega, by go_num, by rw [HM2.out.1], by rw [HM2.out.2], rfl⟩
    · have hk := HK.out
      obtain rfl : j = 256 := by omega
      have hq := HALL.out
      generalize mostTo l k 256 = MO at *
      go_wp2
      go_ret2
      exact ⟨rfl, rfl⟩
theorem vote_cell (l : List ByteArray) (k X : Nat) (h : bestTo l k 256 = X) : Lib.byteCells (voteTo l k) ++ [.int .u8 (X : Int)] = Lib.byteCells (voteTo l (k + 1)) := by
  rw [voteTo_next, ← voteB_nat h]
  unfold Lib.byteCells
  rw [List.map_append]
  rfl
set_option maxHeartbeats 2000000 in
theorem spec_l10Vote {v : Value} {n b N : Nat} {l : List ByteArray} (w : World) (h : w.ownsRow b 9 1 v n (Strs l)) (h0 : 0 < n) (hk : ∀ s ∈ l, s.size = N) (hN : N ≤ 1024) (hn : n ≤ 1048576) :
    Calls Tryz.prog 114 #[v] w fun e w' => ∃ v', e = .returned (.tuple #[.string ⟨(voteTo l N).toArray⟩, v']) ∧ w'.ownsRow w.heap.size 2 1 v' (placesTo (diffAt l) N).length (I64 (placesTo (diffAt l) N)) ∧ Below w.heap.size w w' := by
  obtain ⟨i0, hti, hz0, hz1, hz2⟩ := info_parts Tryz.infoU8v
  obtain ⟨i1, hti1, hy0, hy1, hy2⟩ := info_parts Tryz.infoI64v
  have hlx : l.length = n := by have := h.1; rw [Strs_len] at this; omega
  have HOW := Hid.in_ h
  obtain ⟨A, c, rfl, _, _, hA⟩ := own_shape h
  have HL := Hid.in_ hlx
  have HZ := Hid.in_ hk
  obtain ⟨g, rfl, _, hg, hx, _⟩ := hA h0
  obtain ⟨s0, hs0⟩ := get_lt l 0 (by omega)
  have HX := Hid.in_ (hx 0 _ (Strs_get hs0))
  have hsz0 := hk s0 (List.mem_of_getElem? hs0)
  clear hA h hlx hk hx hs0
  go_enter Tryz.func114, Tryz.ntmps114
  go_wp2_with fail
  go_loopg [4, 5, 6] N (fun m v u i wr => ∃ k : Nat, k + m = N ∧ i = .int .i64 k ∧ Hid (wr.ownsRow w.heap.size 5 1 v k (Lib.byteCells (voteTo l k))) ∧ Hid (wr.ownsRow w.heap.size 2 1 u (placesTo (diffAt l) k).length (I64 (placesTo (diffAt l) k))) ∧ Hid (Below w.heap.size w wr))
  case atStart =>
    refine ⟨0, by omega, rfl, ?_, ?_, ?_⟩
    · exact ostep (balloc (Below.refl _ _) _) (World.ownsRow_lit (size := 1) (e := 5) w #[] 0 (Nat.le_refl _) (by decide) (by decide))
    · have hsz : (w.alloc (.cells #[] 5)).heap.size = w.heap.size + 1 := by unfold World.alloc; exact Array.size_push _
      have h := World.ownsRow_lit (base := w.heap.size) (size := 1) (e := 2) (w.alloc (.cells #[] 5)) #[] 0 (by omega) (by decide) (by decide)
      rw [hsz] at h
      exact h
    · exact balloc (balloc (Below.refl _ _) _) _
  case round =>
    obtain ⟨k, hkm, rfl, HI, HP, HB⟩ := hrel
    have HK := Hid.in_ hkm
    clear hkm
    have c0 := cstep HB.out HX.out
    by_cases hlt : k < N
    · have HO := Hid.in_ (ostep HB.out HOW.out)
      have HPL := Hid.in_ (placesTo_len (diffAt l) k)
      go_wp2_with fail
      refine (spec_l10Byte k _ HO.out HL.out (fun s hs => by have := HZ.out s hs; omega) (by omega)).mono ?_
      rintro e w2 ⟨rfl, rfl⟩
      obtain ⟨X, hX⟩ : ∃ X, bestTo l k 256 = X := ⟨_, rfl⟩
      have HW := Hid.in_ (vote_cell l k X hX)
      have hXb := bestTo_le l k 256
      rw [hX] at hXb ⊢
      clear hX
      cases hd : diffAt l k
      · have HPN := Hid.in_ (placesTo_no hd)
        clear hd
        go_wp2_with (at_builtin; refine wpList_append_own _ rfl _ _ 43 rfl w.heap.size 5 i0 (.int .u8 0) 1 1 Tryz.underlying43 hti hz0 hz1 hz2 rfl (by decide) _ _ _ rfl (HI.out.alloc _) ⟨wr.heap.size, 0, none⟩ 1 1 [.int .u8 (X : Int)] rfl rfl (cell_one_new _ _ _) (fun x hx => by simp at hx; subst hx; rfl) (by unfold maxLen; omega) (by omega) (balloc HB.out _).size ?_; intro v4 w4 ho4 hg4 _)
        have HB4 := Hid.in_ (bgrown (balloc HB.out _) (HI.out.alloc _) (Nat.le_refl _) hg4)
        have HP4 := Hid.in_ (kept_apart (by decide) (HP.out.alloc _) (HI.out.alloc _) hg4)
        have HO4 := Hid.in_ (show w4.ownsRow w.heap.size 5 1 v4 (k + 1) (Lib.byteCells (voteTo l (k + 1))) by rw [← HW.out]; exact ho4)
        clear ho4 hg4
        have hk := HK.out
        go_roundg (gk - 1)
        case measure => omega
        case rel => exact ⟨k + 1, by omega, by go_num, HO4, by rw [HPN.out]; exact HP4, HB4⟩
      · have HPN := Hid.in_ (placesTo_yes hd)
        clear hd
        go_wp2_with (first
          | (at_builtin; refine wpList_append_own _ rfl _ _ 43 rfl w.heap.size 5 i0 (.int .u8 0) 1 1 Tryz.underlying43 hti hz0 hz1 hz2 rfl (by decide) _ _ _ rfl (HI.out.alloc _) ⟨wr.heap.size, 0, none⟩ 1 1 [.int .u8 (X : Int)] rfl rfl (cell_one_new _ _ _) (fun x hx => by simp at hx; subst hx; rfl) (by unfold maxLen; omega) (by omega) (balloc HB.out _).size ?_; intro v4 w4 ho4 hg4 _; have HB4 := Hid.in_ (bgrown (balloc HB.out _) (HI.out.alloc _) (Nat.le_refl _) hg4); have HP4 := Hid.in_ (kept_apart (by decide) (HP.out.alloc _) (HI.out.alloc _) hg4); have HO4 := Hid.in_ (show w4.ownsRow w.heap.size 5 1 v4 (k + 1) (Lib.byteCells (voteTo l (k + 1))) by rw [← HW.out]; exact ho4); clear ho4 hg4)
          | (at_builtin; refine wpList_append_own _ rfl _ _ 54 rfl w.heap.size 2 i1 (.int .i64 0) 1 8 Tryz.underlying54 hti1 hy0 hy1 hy2 rfl (by decide) _ _ _ rfl (HP4.out.alloc _) ⟨w4.heap.size, 0, none⟩ 1 1 [.int .i64 (k : Int)] rfl rfl (cell_one_new _ _ _) (fun x hx => by simp at hx; subst hx; rfl) (by have := HPL.out; unfold maxLen; omega) (by have := HPL.out; omega) (balloc HB4.out _).size ?_; intro v6 w6 ho6 hg6 _))
        have HB6 := Hid.in_ (bgrown (balloc HB4.out _) (HP4.out.alloc _) (Nat.le_refl _) hg6)
        have HO6 := Hid.in_ (kept_apart (by decide) (HO4.out.alloc _) (HP4.out.alloc _) hg6)
        have HP6 := Hid.in_ (show w6.ownsRow w.heap.size 2 1 v6 (placesTo (diffAt l) (k + 1)).length (I64 (placesTo (diffAt l) (k + 1))) by rw [HPN.out, List.length_append, I64_app]; exact ho6)
        clear ho6 hg6
        have hk := HK.out
        go_roundg (gk - 1)
        case measure => omega
        case rel => exact ⟨k + 1, by omega, by go_num, HO6, HP6, HB6⟩
    · have hk := HK.out
      obtain rfl : k = N := by omega
      have hc := conv_own Tryz.underlying43 Tryz.underlying5 Tryz.underlying9 HI.out
      go_wp2
      go_ret2
      exact ⟨_, rfl, HP.out, HB.out⟩
end Go.Proofs.YtlelgpknkgjaeaaGreatDoor

/- 'VoteBytes' of the program and of the reference. -/
namespace Go.Proofs.YtlelgpknkgjaeaaGreatDoor
open Go.ChangeShapes Go.WideShapes Go.ChangeAt Go.RowKit
set_option linter.unusedSimpArgs false
set_option linter.unusedVariables false
set_option maxRecDepth 4000

theorem okVote_len {l : List ByteArray} (h : inB l.length 1 64 = false) : okVote l = false := by
  unfold okVote
  rw [decide_eq_false (fun hh => by rw [inB_mk (by omega) (by omega)] at h; cases h), Bool.false_and]
def cntL (l : List ByteArray) (k j : Nat) : List Int := (List.range 256).map fun b => (cntTo l k (UInt8.ofNat b) j : Nat)
theorem cntL_at (l : List ByteArray) (k j : Nat) {b : Nat} (h : b < 256) : (I64 (cntL l k j))[b]? = some (.int .i64 (cntTo l k (UInt8.ofNat b) j : Nat)) := I64_get (by unfold cntL; rw [List.getElem?_map, List.getElem?_range h]; rfl)
theorem cntL_len (l : List ByteArray) (k j : Nat) : (I64 (cntL l k j)).length = 256 := by rw [I64_len]; unfold cntL; rw [List.length_map, List.length_range]
theorem cntL_zero (l : List ByteArray) (k : Nat) : I64 (cntL l k 0) = List.replicate 256 (.int .i64 0) := by
  apply List.ext_getElem?
  intro i
  by_cases h : i < 256
  · rw [cntL_at l k 0 h, List.getElem?_replicate, if_pos h]; rfl
  · rw [List.getElem?_eq_none (by rw [cntL_len]; omega), List.getElem?_eq_none (by rw [List.length_replicate]; omega)]
theorem cntL_next {l : List ByteArray} {k j : Nat} {d : UInt8} (h : colAt l k j = d) : (I64 (cntL l k j)).set d.toNat (.int .i64 ((cntTo l k d j : Nat) + 1)) = I64 (cntL l k (j + 1)) := by
  have hd := d.toNat_lt
  apply List.ext_getElem?
  intro i
  by_cases hi : i < 256
  · rw [cntL_at l k (j + 1) hi]
    by_cases he : d.toNat = i
    · subst he
      rw [List.getElem?_set_self (by rw [cntL_len]; exact hi), UInt8.ofNat_toNat, cnt_next1 h]
      rfl
    · rw [List.getElem?_set_ne he, cntL_at l k j hi, cnt_next0 (by rw [h]; intro e; apply he; rw [e, UInt8.toNat_ofNat', Nat.mod_eq_of_lt (by omega)])]
  · rw [List.getElem?_eq_none (by rw [List.length_set, cntL_len]; omega), List.getElem?_eq_none (by rw [cntL_len]; omega)]
theorem Tryz.infoInt_v : (Tryz.prog.info? 3).map (fun i => (i.zero, i.size, i.bytes)) = some (some (.int .i64 0), 1, 8) := by kernel_rfl
theorem Tryz.cnt_index {cs : Array Value} {k : Nat} {v : Value} (hk : k < 256) (hv : cs[k]? = some v) (w : World) : (Instr.index 178 (.agg cs) (.int .i64 (k : Int))).run Tryz.prog w = .ok v w := by
  obtain ⟨i0, hti, hz0, hz1, hz2⟩ := info_parts Tryz.infoInt_v
  have hp := run_part_plain (P := Tryz.prog) (e := 3) w (by kernel_rfl) hv
  have h1 : (0 : Int) ≤ (k : Int) ∧ (k : Int) < ((256 : Nat) : Int) := by omega
  simp [Instr.index, run_underlying Tryz.underlying178, asIntOf, h1, sizeOf, typeInfo, hti, hz1, hk, hv, go_sem]
theorem Tryz.zero256 (l : List ByteArray) (k : Nat) : Tryz.zeroCells178 = (I64 (cntL l k 0)).toArray := by
  rw [cntL_zero]
  rfl
/-- The counts of a place so far: block C. -/
structure VSt (l : List ByteArray) (N k j G C : Nat) (w wr : World) : Prop where
  row : wr.ownsRow G 5 1 (.slice (some ⟨G, 0, none⟩) N N) N (Lib.byteCells (fillR (voteTo l N) 0 k))
  bel : Below G w wr
  cnt : wr.heap[C]? = some (.cells (I64 (cntL l k j)).toArray 178 (0, 0))
  GC : G < C
theorem VSt.cell {l : List ByteArray} {N k j G C : Nat} {w wr : World} (h : VSt l N k j G C w wr) {b : Nat} (hb : b < 256) : wr.cell? ⟨C, b, none⟩ = some (.int .i64 (cntTo l k (UInt8.ofNat b) j : Nat)) := by
  rw [Lib.cell_of_heap h.cnt]
  simpa using cntL_at l k j hb
theorem VSt.put {l : List ByteArray} {N k j G C : Nat} {w wr : World} (h : VSt l N k j G C w wr) {d : UInt8} (hd : colAt l k j = d) :
    VSt l N k (j + 1) G C w (wr.setCell ⟨C, d.toNat, none⟩ (.int .i64 ((cntTo l k d j : Nat) + 1))) := by
  have hGC := h.GC
  refine ⟨h.row.kept (setCell_grown wr C d.toNat _) (.inr fun e => Nat.ne_of_lt hGC (by simpa [Value.ownBlock] using e)), h.bel.setCell (p := ⟨C, d.toNat, none⟩) (show G ≤ C by omega) _, ?_, hGC⟩
  rw [heap_setCell_same wr C d.toNat _ _ _ h.cnt, ← cntL_next hd]
  simp
theorem vote_fill {M : List UInt8} {k X : Nat} {c : UInt8} (h : M[k]? = some c) (hX : (c.toNat : Int) = (X : Int)) : (Lib.byteCells (fillR M 0 k)).set k (.int .u8 (X : Int)) = Lib.byteCells (fillR M 0 (k + 1)) := by
  rw [← hX, byteCells_set, fillR_set h]
set_option maxHeartbeats 4000000 in
theorem impl_voteBytes {v : Value} {n b N : Nat} {l : List ByteArray} (w : World) (h : w.ownsRow b 9 1 v n (Strs l)) (h0 : 0 < n) (hk : ∀ s ∈ l, s.size = N) (hN2 : N ≤ 1024) (hn : n ≤ 1048576) :
    Calls Tryz.prog 117 #[v] w fun e w' => e = .returned (.string ⟨(voteTo l N).toArray⟩) ∧ Below w.heap.size w w' := by
  obtain ⟨i0, hti, hz0, hz1, hz2⟩ := info_parts Tryz.infoU8v
  have hlx : l.length = n := by have := h.1; rw [Strs_len] at this; omega
  obtain ⟨A, c, rfl, _, _, hA⟩ := own_shape h
  have HL := Hid.in_ hlx
  have HZ := Hid.in_ hk
  obtain ⟨g, rfl, _, hg, hx, _⟩ := hA h0
  obtain ⟨s0, hs0⟩ := get_lt l 0 (by omega)
  have HX := Hid.in_ hx
  have HS0 := Hid.in_ hs0
  have hsz0 := hk s0 (List.mem_of_getElem? hs0)
  have c0 := hx 0 _ (Strs_get hs0)
  clear hA h hlx hk hx hs0
  go_enter Tryz.func117, Tryz.ntmps117
  go_wp2_with (at_make; refine wpList_make_full _ rfl _ _ _ rfl w.heap.size 5 i0 _ 1 Tryz.underlying43 hti hz0 hz1 _ _ _ _ N rfl rfl rfl rfl (by rw [hz2]; omega) (by unfold maxLen; omega) (Nat.le_refl _) ?_; intro w2 hown hgrow)
  have HO : Hid (w2.ownsRow w.heap.size 5 1 (.slice (some ⟨w.heap.size, 0, none⟩) N N) N (Lib.byteCells (fillR (voteTo l N) 0 0)) ∧ Below w.heap.size w w2) := by
    refine ⟨?_, (Below.refl _ _).grown hgrow (Nat.le_refl _) (by simp)⟩
    have h : (madeCells (Value.int .u8 0).cells (N * 1)).toList = Lib.byteCells (fillR (voteTo l N) 0 0) := by
      show (madeCells #[Value.int .u8 0] (N * 1)).toList = _
      rw [toList_madeCells_one, fillR_none, voteTo_len]
      simp [Lib.byteCells]
    rw [← h]
    exact hown
  obtain ⟨G, hG⟩ : ∃ G, w.heap.size = G := ⟨_, rfl⟩
  have HG := Hid.in_ hG
  rw [hG] at HO ⊢
  clear hown hgrow hG c0
  go_loopg [18] N (fun m i wr => ∃ k : Nat, k + m = N ∧ i = .int .i64 k ∧ Hid (wr.ownsRow G 5 1 (.slice (some ⟨G, 0, none⟩) N N) N (Lib.byteCells (fillR (voteTo l N) 0 k)) ∧ Below G w wr))
  case atStart => exact ⟨0, by omega, rfl, HO⟩
  case round =>
    clear HO
    obtain ⟨k, hkm, rfl, HO⟩ := hrel
    have HK := Hid.in_ hkm
    clear hkm
    by_cases hlt : k < N
    · have HBL := Hid.in_ (fun X (h : bestTo l k 256 = X) => voteB_nat h)
      obtain ⟨C, hC⟩ : ∃ C, wr.heap.size = C := ⟨_, rfl⟩
      have hGC : G < C := by have := (HO.out.1.lt G rfl).2; omega
      have HV := Hid.in_ (show VSt l N k 0 G C w (wr.alloc (.cells Tryz.zeroCells178 178)) from ⟨ostep (balloc (Below.refl _ _) _) HO.out.1, HO.out.2.alloc (by omega) _, by rw [Tryz.zero256 l k, ← hC]; exact heap_alloc_new wr _, hGC⟩)
      go_wp2_with fail
      generalize wr.alloc (.cells Tryz.zeroCells178 178) = w3 at *
      clear HO hC
      obtain ⟨gO, rfl⟩ : ∃ g, g = gk := ⟨_, rfl⟩
      go_loopg [23] n (fun m i wi => ∃ j : Nat, j + m = n ∧ i = .int .i64 j ∧ Hid (VSt l N k j G C w wi))
      case atStart => exact ⟨0, by omega, rfl, HV⟩
      case round =>
        clear HV
        obtain ⟨j, hjm, rfl, HV⟩ := hrel
        have HJ := Hid.in_ hjm
        clear hjm
        by_cases hlj : j < n
        · obtain ⟨s, hs⟩ := get_lt l j (by rw [HL.out]; exact hlj)
          have hgw : g < G := by have := HG.out; omega
          have c1 := (HV.out.bel.cell (p := ⟨g, j, none⟩) hgw).trans (HX.out j _ (Strs_get hs))
          have hsz := HZ.out s (List.mem_of_getElem? hs)
          have hks : k < s.size := by omega
          obtain ⟨d, hd⟩ : ∃ d : UInt8, s[k] = d := ⟨_, rfl⟩
          have hcol := colAt_val hs hks hd
          have c2 := HV.out.cell (b := d.toNat) (by have := d.toNat_lt; omega)
          rw [UInt8.ofNat_toNat] at c2
          have f2 := Lib.frozen_of_heap HV.out.cnt d.toNat
          have HV2 := Hid.in_ (HV.out.put hcol)
          have hle := cntTo_le l k d j
          have hd256 : d.toNat < 256 := by have := d.toNat_lt; omega
          clear hs hcol HV
          generalize cntTo l k d j = X at *
          go_wp2
          have hj := HJ.out
          go_roundg (gk - 1)
          case measure => omega
          case rel => exact ⟨j + 1, by omega, by go_num, HV2⟩
        · have hj := HJ.out
          obtain rfl : j = n := by omega
          go_wp2_with (refine wpList_load_row rfl 178 _ rfl C rfl 178 _ (0, 0) _ HV.out.cnt Tryz.underlying178 rfl (by rw [List.size_toArray, cntL_len]; kernel_rfl) ?_)
          have HCI := Hid.in_ (fun (q : Nat) (hq : q < 256) (w : World) => Tryz.cnt_index (cs := (I64 (cntL l k j)).toArray) (v := .int .i64 (cntTo l k (UInt8.ofNat q) j : Nat)) hq (by simpa using cntL_at l k j hq) w)
          have HCC := Hid.in_ (fun (q : Nat) (hq : q < 256) => HV.out.cell hq)
          have HNN := Hid.in_ (show ∀ q, cntN l k q = cntTo l k (UInt8.ofNat q) j from fun q => by unfold cntN; rw [HL.out])
          generalize (I64 (cntL l k j)).toArray = CS at *
          go_loopg [8, 36] 256 (fun m be i wi => ∃ q : Nat, q + m = 256 ∧ i = .int .i64 q ∧ be = .int .i64 (bestTo l k q : Nat) ∧ wr = wi)
          case atStart => exact ⟨0, by omega, rfl, rfl, rfl⟩
          case round =>
            obtain ⟨q, hqm, rfl, rfl, rfl⟩ := hrel
            have HQ := Hid.in_ hqm
            clear hqm
            have hbl := bestTo_le l k q
            by_cases hlq : q < 256
            · have d1 := fun w => HCI.out q hlq w
              have d2 := HCC.out (bestTo l k q) (by omega)
              have HY := Hid.in_ (And.intro (fun h => bestTo_yes (l := l) (k := k) (m := q) h) (fun h => bestTo_no (l := l) (k := k) (m := q) h))
              rw [HNN.out, HNN.out] at HY
              have l1 := cntTo_le l k (UInt8.ofNat q) j
              have l2 := cntTo_le l k (UInt8.ofNat (bestTo l k q)) j
              generalize cntTo l k (UInt8.ofNat (bestTo l k q)) j = Y at *
              generalize cntTo l k (UInt8.ofNat q) j = X at *
              by_cases hxy : Y < X
              · have HY2 := Hid.in_ (HY.out.1 hxy)
                generalize bestTo l k q = B at *
                go_wp2
                have hq := HQ.out
                go_roundg (gk - 1)
                case measure => omega
                case rel => exact ⟨q + 1, by omega, by go_num, by rw [HY2.out], rfl⟩
              · have HY2 := Hid.in_ (HY.out.2 hxy)
                have HB := Hid.in_ (rfl : bestTo l k q = bestTo l k q)
                go_wp2
                have hq := HQ.out
                go_roundg (gk - 1)
                case measure => omega
                case rel => exact ⟨q + 1, by omega, by go_num, by rw [HY2.out], rfl⟩
            · have hq := HQ.out
              obtain rfl : q = 256 := by omega
              clear hq hlq HCI HCC HNN
              obtain ⟨X, hX⟩ : ∃ X, bestTo l k 256 = X := ⟨_, rfl⟩
              have hXw : IntKind.u8.wrap (X : Int) = (X : Int) := IntWalk.u8_in _ (by omega)
              have HXN := Hid.in_ (HBL.out X hX)
              rw [hX]
              clear hX hbl
              have f1 := HV.out.row.cellAt k (by omega)
              obtain ⟨u, hu⟩ := get_lt (Lib.byteCells (fillR (voteTo l N) 0 k)) k (by rw [Lib.byteCells_length, fillR_len _ _ _ (by rw [voteTo_len]; omega), voteTo_len]; exact hlt)
              rw [hu] at f1
              have f2 := HV.out.row.frozenAt k
              have HF := Hid.in_ (And.intro (HV.out.row.stored k (.int .u8 (X : Int))).1 (HV.out.bel.setCell (p := ⟨G, k, none⟩) (Nat.le_refl _) (.int .u8 (X : Int))))
              rw [vote_fill (voteTo_get l hlt) HXN.out] at HF
              clear hu HV
              go_wp2
              have hk := HK.out
              go_roundg (gO - 1)
              case measure => omega
              case rel => exact ⟨k + 1, by omega, by go_num, HF⟩
    · have hk := HK.out
      obtain rfl : k = N := by omega
      have hO := HO.out.1
      have hfa := fillR_all (voteTo l k) 0
      rw [voteTo_len] at hfa
      rw [hfa] at hO
      have hc := conv_own Tryz.underlying43 Tryz.underlying5 Tryz.underlying9 hO
      clear hO hfa
      go_wp2
      go_ret
      exact ⟨rfl, by rw [HG.out]; exact HO.out.2⟩
end Go.Proofs.YtlelgpknkgjaeaaGreatDoor

/- 'VoteBytes' of the program and of the reference: what they return. -/
namespace Go.Proofs.YtlelgpknkgjaeaaGreatDoor
open Go.ChangeShapes Go.WideShapes Go.ChangeAt Go.RowKit
set_option linter.unusedSimpArgs false
set_option linter.unusedVariables false
set_option maxRecDepth 4000

set_option maxHeartbeats 4000000 in
theorem impl_differing_any {v : Value} {n b N : Nat} {l : List ByteArray} (w : World) (h : w.ownsRow b 9 1 v n (Strs l)) (h0 : 0 < n) (hk : ∀ s ∈ l, s.size = N) (hN2 : N ≤ 1048576) :
    Calls Tryz.prog 118 #[v] w fun e w' => ∃ v', e = .returned v' ∧ w'.ownsRow w.heap.size 2 1 v' (placesTo (diffAt l) N).length (I64 (placesTo (diffAt l) N)) ∧ Below w.heap.size w w' := by
  obtain ⟨i0, hti, hz0, hz1, hz2⟩ := info_parts Tryz.infoI64v
  have hlx : l.length = n := by have := h.1; rw [Strs_len] at this; omega
  obtain ⟨A, c, rfl, _, _, hA⟩ := own_shape h
  have HL := Hid.in_ hlx
  have H1 := Hid.in_ hA
  have HZ := Hid.in_ hk
  clear hlx hk
  obtain ⟨g, rfl, _, hg, hx, _⟩ := hA h0
  obtain ⟨s0, hs0⟩ := get_lt l 0 (by rw [HL.out]; exact h0)
  have HX := Hid.in_ hx
  have HS0 := Hid.in_ hs0
  have hsz0 := HZ.out s0 (List.mem_of_getElem? hs0)
  have c0 := hx 0 _ (Strs_get hs0)
  clear hx hs0 hA h
  go_enter Tryz.func118, Tryz.ntmps118
  go_wp2
  clear c0
  go_loopg [3, 11] N (fun m v i wr => ∃ k : Nat, k + m = N ∧ i = .int .i64 k ∧ Hid (wr.ownsRow w.heap.size 2 1 v (placesTo (diffAt l) k).length (I64 (placesTo (diffAt l) k))) ∧ Hid (Below w.heap.size w wr))
  case atStart => exact ⟨0, by omega, rfl, World.ownsRow_nil _ _ _ _, Below.refl _ _⟩
  case round =>
    obtain ⟨k, hkm, rfl, HI, HB⟩ := hrel
    have HK := Hid.in_ hkm
    clear hkm
    by_cases hlt : k < N
    · have HLN := Hid.in_ (placesTo_len (diffAt l) k)
      go_wp2
      obtain ⟨gO, rfl⟩ : ∃ g, g = gk := ⟨_, rfl⟩
      obtain ⟨wo, rfl⟩ : ∃ wo : World, wo = wr := ⟨_, rfl⟩
      obtain ⟨vo, hvo⟩ : ∃ vo : Value, vo = u3 := ⟨_, rfl⟩
      rw [← hvo] at HI
      go_loopg [3, 16] n (fun m v i wi => ∃ j : Nat, j + m = n ∧ i = .int .i64 j ∧ v = vo ∧ Hid (∀ t, t < j → colAt l k t = colAt l k 0) ∧ ∃ q, wi = wo.drewN q)
      case atStart => exact ⟨0, by omega, rfl, hvo.symm, fun t ht => by omega, 0, rfl⟩
      case round =>
        obtain ⟨j, hjm, rfl, rfl, HE, q, rfl⟩ := hrel
        have HJ := Hid.in_ hjm
        clear hjm
        have HIq := Hid.in_ (own_drewN HI.out q)
        have HBq := Hid.in_ (below_drewN HB.out q)
        by_cases hlj : j < n
        · obtain ⟨s, hs⟩ := get_lt l j (by rw [HL.out]; exact hlj)
          have c0 := (HX.out.step HB.out) 0 _ (Strs_get HS0.out)
          have c1 := (HX.out.step HB.out) j _ (Strs_get hs)
          have hsz := HZ.out s (List.mem_of_getElem? hs)
          have hks : k < s.size := by omega
          have hk0 : k < s0.size := by omega
          obtain ⟨c, hc⟩ : ∃ c : UInt8, s[k] = c := ⟨_, rfl⟩
          obtain ⟨d, hd⟩ : ∃ d : UInt8, s0[k] = d := ⟨_, rfl⟩
          have HC1 := Hid.in_ (colAt_val hs hks hc)
          have HC0 := Hid.in_ (colAt_val HS0.out hk0 hd)
          clear hs
          obtain rfl | ⟨h1, h2⟩ := byte_cases' c d
          · have HE2 := Hid.in_ (show ∀ t, t < j + 1 → colAt l k t = colAt l k 0 from fun t ht => by
              rcases Nat.lt_or_ge t j with h | h
              · exact HE.out t h
              · obtain rfl : t = j := by omega
                rw [HC1.out, HC0.out])
            go_wp2_with fail
            go_quiet (fail)
            go_wp2
            have hj := HJ.out
            go_roundg (gk - 1)
            case measure => omega
            case rel => exact ⟨j + 1, by omega, by go_num, rfl, HE2, _, rfl⟩
          · have HW := Hid.in_ (placesTo_yes (diff_yes (by rw [HL.out]; exact hlj) (by rw [HC1.out, HC0.out]; exact h2)))
            go_wp2_with fail
            go_quiet (fail)
            have HI2 := Hid.in_ (own_drewN HI.out (q + nq))
            have HB2 := Hid.in_ (below_drewN HB.out (q + nq))
            go_wp2_with (at_builtin; refine wpList_append_own _ rfl _ _ 54 rfl w.heap.size 2 i0 (.int .i64 0) 1 8 Tryz.underlying54 hti hz0 hz1 hz2 rfl (by decide) _ _ _ rfl (HI2.out.alloc _) ⟨wo.heap.size, 0, none⟩ 1 1 [.int .i64 k] rfl rfl (cell_one_new (wo.drewN (q + nq)) _ _) (fun x hx => by simp at hx; subst hx; rfl) (by have := HLN.out; unfold maxLen; omega) (by have := HLN.out; omega) (balloc HB2.out _).size ?_; intro v4 w4 ho4 hg4 _)
            have HB4 := Hid.in_ (bgrown (balloc HB2.out _) (HI2.out.alloc _) (Nat.le_refl _) hg4)
            have hk := HK.out
            go_roundg (gO - 1)
            case measure => omega
            case rel => exact ⟨k + 1, by omega, by go_num, by rw [HW.out, List.length_append, I64_app]; exact ho4, HB4.out⟩
        · have hj := HJ.out
          obtain rfl : j = n := by omega
          have HW := Hid.in_ (placesTo_no (diff_no (l := l) (k := k) fun t ht => HE.out t (by rw [← HL.out]; exact ht)))
          go_wp2
          have hk := HK.out
          go_roundg (gO - 1)
          case measure => omega
          case rel => exact ⟨k + 1, by omega, by go_num, by rw [HW.out]; exact HIq.out, HBq.out⟩
    · have hk := HK.out
      obtain rfl : k = N := by omega
      go_wp2
      go_ret
      exact ⟨_, rfl, HI.out, HB.out⟩
def voteE (l : List ByteArray) (v : Value) : Ending := .returned (.tuple #[.string (voteV l), v, .bool (okVote l)])
theorem vote_at {l : List ByteArray} (h : okVote l = true) : 1 ≤ l.length ∧ l.length ≤ 64 ∧ revLen l ≤ 512 ∧ ∀ s ∈ l, s.size = revLen l := by
  unfold okVote at h
  rw [Bool.and_eq_true, Bool.and_eq_true, decide_eq_true_eq, decide_eq_true_eq, List.all_eq_true] at h
  exact ⟨h.1.1, h.1.2, h.2.1, fun s hs => of_decide_eq_true (h.2.2 s hs)⟩
theorem vote_mk {l : List ByteArray} (h1 : inB l.length 1 64 = true) (h2 : revLen l ≤ 512) (h3 : ∀ (j : Nat) (s : ByteArray), l[j]? = some s → s.size = revLen l) : okVote l = true := by
  obtain ⟨a1, a2⟩ := inB_t h1
  unfold okVote
  rw [decide_eq_true (by omega), decide_eq_true h2, Bool.true_and, Bool.true_and, List.all_eq_true]
  intro s hs
  obtain ⟨j, hj⟩ := List.getElem?_of_mem hs
  exact decide_eq_true (h3 j s hj)
theorem vote_big {l : List ByteArray} (h : ¬ revLen l ≤ 512) : okVote l = false := by
  unfold okVote
  rw [decide_eq_false h, Bool.false_and, Bool.and_false]
theorem vote_odd {l : List ByteArray} {j : Nat} {s : ByteArray} (hs : l[j]? = some s) (h : s.size ≠ revLen l) : okVote l = false := by
  cases hv : okVote l
  · rfl
  · exact absurd ((vote_at hv).2.2.2 s (List.mem_of_getElem? hs)) h
theorem voteW_len (l : List ByteArray) : (voteW l).length ≤ 512 := by
  cases h : okVote l
  · rw [(vote_no h).2]; exact Nat.zero_le _
  · rw [(vote_yes rfl h).2]
    have := placesTo_len (diffAt l) (revLen l)
    have := (vote_at h).2.2.1
    omega
end Go.Proofs.YtlelgpknkgjaeaaGreatDoor

/- 'l10All', 'l10Fill' of the reference. -/
namespace Go.Proofs.YtlelgpknkgjaeaaGreatDoor
open Go.ChangeShapes Go.WideShapes Go.ChangeAt Go.RowKit
set_option linter.unusedSimpArgs false
set_option linter.unusedVariables false
set_option maxRecDepth 4000

theorem cells8g {w : World} {g : Nat} {a0 a1 a2 a3 a4 a5 a6 a7 : Value} {t : TypeId} (hg : g = w.heap.size) : ∀ j u, ([a0, a1, a2, a3, a4, a5, a6, a7] : List Value)[j]? = some u → (w.alloc (.cells #[a0, a1, a2, a3, a4, a5, a6, a7] t)).cell? ((⟨g, 0, none⟩ : Addr).add j) = some u := fun j u hu => by
  subst hg
  have h := World.ownsRow_lit (e := t) w #[a0, a1, a2, a3, a4, a5, a6, a7] 1 (base := w.heap.size) (size := 8) (Nat.le_refl _) (by decide) rfl
  exact h.cells (g := w.heap.size) rfl j u hu
theorem preF_small {ls : List (List FndR)} {i k : Nat} (h5 : ls.length ≤ 5) (h64 : ∀ fs ∈ ls, fs.length ≤ 64) (hi : i < ls.length) (hk : k ≤ 64) : (preF ls i k).length ≤ 320 := by
  have h1 := preF_le (k := k) h64 hi hk
  have h2 : 64 * (i + 1) ≤ 64 * 5 := Nat.mul_le_mul_left 64 (by omega)
  omega
set_option maxHeartbeats 4000000 in
theorem spec_l10All {v : Value} {b n bv ov : Nat} {os : List FsO} {ls : List (List FndR)} {a : AdrR} (st : Int) (w : World) (h : FsRow w b v os) (hl : os.map FsO.r = ls) (hn : ls.length = n) (h64 : ∀ fs ∈ ls, fs.length ≤ 64) (hn5 : n ≤ 5) (hv : BoxAt w bv ov a.cells) :
    Calls Tryz.prog 77 #[v, .pointer (some ⟨bv, ov, none⟩), .int .i64 st] w fun e w' => ∃ v', e = .returned v' ∧ w'.ownsRow w.heap.size 63 8 v' (pickF ls.flatten a st).length ((pickF ls.flatten a st).flatMap FndR.cells) ∧ Below w.heap.size w w' := by
  obtain ⟨i0, hti, hz0, hz1, hz2⟩ := info_parts Tryz.info_Found
  have hno : os.length = n := by rw [← hn, ← hl, List.length_map]
  have HE := Hid.in_ h.each
  obtain ⟨A, c, rfl, _, hcn, hA⟩ := own_shape h.row
  rw [hno] at hcn hA ⊢
  have H1 := Hid.in_ hA
  have HNO := Hid.in_ hno
  have HLS := Hid.in_ hl
  have HNN := Hid.in_ hn
  have H64 := Hid.in_ h64
  have HVB := Hid.in_ hv
  clear h hl hn h64 hv hno hA
  go_enter Tryz.func77, Tryz.ntmps77
  go_wp2_with fail
  go_loopg [7, 8] n (fun m v7 v8 wr => ∃ i : Nat, i + m = n ∧ v8 = .int .i64 i ∧ Hid (wr.ownsRow w.heap.size 63 8 v7 (pickF (preF ls i 0) a st).length ((pickF (preF ls i 0) a st).flatMap FndR.cells)) ∧ Hid (Below w.heap.size w wr))
  case atStart => exact ⟨0, by omega, rfl, by rw [preF_zero]; exact World.ownsRow_lit w #[] 0 (Nat.le_refl _) (by decide) (by decide), balloc (Below.refl _ _) _⟩
  case round =>
    obtain ⟨i, him, rfl, HI, HB⟩ := hrel
    have HK := Hid.in_ him
    clear him
    by_cases hlt : i < n
    · obtain ⟨g, rfl, _, hg, hx, _⟩ := H1.out (by omega)
      obtain ⟨⟨fs, fv⟩, ho⟩ := get_lt os i (by rw [HNO.out]; exact hlt)
      have hbx := Box.elem FsO.len hx ho
      rw [Nat.mul_one] at hbx
      have HC0 : Hid (w.cell? ⟨g, i, none⟩ = some fv) := by have := hbx 0 _ rfl; exact this
      have hfr : w.ownsRow b 63 8 fv fs.length (fs.flatMap FndR.cells) := HE.out _ (List.mem_of_getElem? ho)
      have hli : ls[i]? = some fs := fso_get HLS.out ho
      have hfl : fs.length ≤ 64 := H64.out fs (List.mem_of_getElem? hli)
      have HLI := Hid.in_ hli
      obtain ⟨N, hN⟩ : ∃ N, fs.length = N := ⟨_, rfl⟩
      rw [hN] at hfr hfl
      obtain ⟨A2, c2, rfl, _, hc2, hA2⟩ := own_shape hfr
      have H2 := Hid.in_ hA2
      have HFN := Hid.in_ hN
      have hgw : g < wr.heap.size := Nat.lt_of_lt_of_le hg HB.out.size
      clear hbx hx ho hfr hli hA2 hN
      go_wp2_with fail
      obtain ⟨gO, rfl⟩ : ∃ g, g = gk := ⟨_, rfl⟩
      go_loopg [7, 9] N (fun m v7 v9 wr => ∃ k : Nat, k + m = N ∧ v9 = .int .i64 k ∧ Hid (wr.ownsRow w.heap.size 63 8 v7 (pickF (preF ls i k) a st).length ((pickF (preF ls i k) a st).flatMap FndR.cells)) ∧ Hid (Below w.heap.size w wr))
      case atStart => exact ⟨0, by omega, rfl, HI, HB⟩
      case round =>
        clear HI HB
        obtain ⟨k, hkm, rfl, HI, HB⟩ := hrel
        have HQ := Hid.in_ hkm
        clear hkm
        have c0 : wr.cell? ⟨g, i, none⟩ = some (.slice A2 N c2) := cstep HB.out HC0.out
        by_cases hlk : k < N
        · obtain ⟨g2, rfl, _, hg2, hx2, _⟩ := H2.out (by omega)
          obtain ⟨f, hf⟩ := get_lt fs k (by rw [HFN.out]; exact hlk)
          have hfb := (Box.elem FndR.len hx2 hf).step HB.out
          have HFB := Hid.in_ hfb
          have HPN := Hid.in_ (preF_next HLI.out hf)
          have HPL := Hid.in_ (show (pickF (preF ls i k) a st).length ≤ 320 from Nat.le_trans (pick_len _ _ _) (preF_small (by rw [HNN.out]; exact hn5) H64.out (by rw [HNN.out]; exact hlt) (by omega)))
          have HKEY := Hid.in_ (spec_l10Key wr hfb (HVB.out.step HB.out))
          have hg2w : g2 < wr.heap.size := Nat.lt_of_lt_of_le hg2 HB.out.size
          clear hx2 hf hfb
          cases hk : keyF f a
          · rw [hk] at HKEY
            have HN := Hid.in_ (show pickF (preF ls i (k + 1)) a st = pickF (preF ls i k) a st by rw [HPN.out, pick_no (by rw [hk]; rfl)])
            clear hk
            go_wp2_with fail
            refine HKEY.out.mono ?_
            rintro e w2 ⟨rfl, q, rfl⟩
            go_wp2
            have hq := HQ.out
            go_roundg (gk - 1)
            case measure => omega
            case rel => exact ⟨k + 1, by omega, by go_num, by rw [HN.out]; exact own_drewN HI.out _, below_drewN HB.out _⟩
          · rw [hk] at HKEY
            obtain ⟨fc, fh, fn, fs_, fd, ft, fl, fp⟩ := f
            cases hst : (ft == st)
            · have HN := Hid.in_ (show pickF (preF ls i (k + 1)) a st = pickF (preF ls i k) a st by rw [HPN.out, pick_no (by rw [hk]; simp only [beq_eq_false_iff_ne, ne_eq] at hst; simp [hst])])
              clear hk
              go_wp2_with fail
              refine HKEY.out.mono ?_
              rintro e w2 ⟨rfl, q, rfl⟩
              have hB2 := Below.refl wr.heap.size wr
              obtain ⟨d0, d1, d2, d3, d4, d5, d6, d7⟩ := boxAt8 HFB.out
              go_wp2
              have hq := HQ.out
              go_roundg (gk - 1)
              case measure => omega
              case rel => exact ⟨k + 1, by omega, by go_num, by rw [HN.out]; exact own_drewN HI.out _, below_drewN HB.out _⟩
            · have HN := Hid.in_ (show pickF (preF ls i (k + 1)) a st = pickF (preF ls i k) a st ++ [⟨fc, fh, fn, fs_, fd, ft, fl, fp⟩] by rw [HPN.out, pick_yes (by rw [hk]; simp only [beq_iff_eq] at hst; simp [hst])])
              clear hk
              go_wp2_with fail
              refine HKEY.out.mono ?_
              rintro e w2 ⟨rfl, q, rfl⟩
              obtain ⟨wq, hwq⟩ : ∃ wq, wq = wr.drewN q := ⟨_, rfl⟩
              rw [← hwq]
              have HB2 := Hid.in_ (show Below w.heap.size w wq by rw [hwq]; exact below_drewN HB.out _)
              have hi2 := own_drewN HI.out q
              rw [← hwq] at hi2
              have HI2 := Hid.in_ hi2
              clear hi2
              have hB3 : Below wr.heap.size wr wq := by rw [hwq]; exact below_drewN (Below.refl _ _) _
              obtain ⟨d0, d1, d2, d3, d4, d5, d6, d7⟩ := boxAt8 (HFB.out.step hB3)
              have c0 := cstep hB3 c0
              clear hwq HB HI hB3
              go_wp2_with (at_builtin; refine wpList_append_own _ rfl _ _ 28 rfl w.heap.size 63 i0 (.agg #[.int .i64 0, .int .i64 0, .int .i64 0, .int .i64 0, .string ByteArray.empty, .int .i64 0, .bool false, .int .i64 0]) 8 72 Tryz.underlying28 hti hz0 hz1 hz2 rfl (by decide) _ _ _ rfl (HI2.out.alloc _) ⟨wq.heap.size, 0, none⟩ 1 1 [.int .i64 fc, .int .i64 fh, .int .i64 fn, .int .i64 fs_, .string fd, .int .i64 ft, .bool fl, .int .i64 fp] rfl rfl (cells8g rfl) (fun x hx => by simp at hx; rcases hx with rfl | rfl | rfl | rfl | rfl | rfl | rfl | rfl <;> rfl) (by have := HPL.out; unfold maxLen; omega) (by have := HPL.out; omega) (balloc HB2.out _).size ?_; intro v4 w4 ho4 hg4 _)
              have HB4 := Hid.in_ (bgrown (balloc HB2.out _) (HI2.out.alloc _) (Nat.le_refl _) hg4)
              have HO4 := Hid.in_ (show w4.ownsRow w.heap.size 63 8 v4 (pickF (preF ls i (k + 1)) a st).length ((pickF (preF ls i (k + 1)) a st).flatMap FndR.cells) by
                rw [HN.out, List.length_append, List.flatMap_append]
                exact ho4)
              clear ho4 hg4
              have hq := HQ.out
              go_roundg (gk - 1)
              case measure => omega
              case rel => exact ⟨k + 1, by omega, by go_num, HO4, HB4⟩
        · have hq := HQ.out
          obtain rfl : k = N := by omega
          have HT := Hid.in_ (show preF ls i k = preF ls (i + 1) 0 by rw [← HFN.out]; exact preF_turn HLI.out)
          rw [HT.out] at HI
          go_wp2
          have hk := HK.out
          go_roundg (gO - 1)
          case measure => omega
          case rel => exact ⟨i + 1, by omega, by go_num, HI, HB⟩
    · have hk := HK.out
      obtain rfl : i = n := by omega
      have HP := Hid.in_ (show preF ls i 0 = ls.flatten by rw [← HNN.out]; exact preF_all ls)
      rw [HP.out] at HI
      go_wp2
      go_ret
      exact ⟨_, rfl, HI.out, HB.out⟩
/-- one cell of a record that lies in a row. -/
theorem flat_put {α : Type} {f : α → List Value} {size : Nat} (hf : ∀ x, (f x).length = size) : ∀ (l : List α) (k j : Nat) (o o' : α) (x : Value), l[k]? = some o → j < size → f o' = (f o).set j x → (l.flatMap f).set (k * size + j) x = (l.set k o').flatMap f
  | [], k, j, o, o', x, h, _, _ => by simp at h
  | y :: l, 0, j, o, o', x, h, hj, he => by
    have hy : y = o := by simpa using h
    subst hy
    rw [Nat.zero_mul, Nat.zero_add, List.set_cons_zero, List.flatMap_cons, List.flatMap_cons, List.set_append_left _ _ (by rw [hf]; exact hj), he]
  | y :: l, k + 1, j, o, o', x, h, hj, he => by
    have h' : l[k]? = some o := by simpa using h
    rw [List.set_cons_succ, List.flatMap_cons, List.flatMap_cons, List.set_append_right _ _ (by rw [hf, Nat.add_mul]; omega), hf, show (k + 1) * size + j - size = k * size + j by rw [Nat.add_mul]; omega, flat_put hf l k j o o' x h' hj he]
theorem own_put {α : Type} {f : α → List Value} {size : Nat} (hf : ∀ x, (f x).length = size) {w : World} {base g n cap : Nat} {e : TypeId} {l : List α} (h : w.ownsRow base e size (.slice (some ⟨g, 0, none⟩) n cap) n (l.flatMap f)) {k j : Nat} {o : α} (o' : α) (x : Value) (hk : l[k]? = some o) (hj : j < size) (he : f o' = (f o).set j x) :
    (w.setCell ⟨g, k * size + j, none⟩ x).ownsRow base e size (.slice (some ⟨g, 0, none⟩) n cap) n ((l.set k o').flatMap f) ∧ w.grownBy (w.setCell ⟨g, k * size + j, none⟩ x) (some g) := by
  have := own_setCells [x] (k * size + j) h
  rw [show setL (l.flatMap f) (k * size + j) [x] = (l.flatMap f).set (k * size + j) x from rfl, flat_put hf l k j o o' x hk hj he] at this
  exact this
def VotO.fill (o : VotO) (D : ByteArray) (x : Bool) (W : List Int) (wv : Value) : VotO := ⟨⟨o.r.c, o.r.h, o.r.n, o.r.s, D, o.r.t, x, W, o.r.vo⟩, wv⟩
theorem fill_put {w : World} {bo g n cap k : Nat} {l : List VotO} {o : VotO} (h : w.ownsRow bo 72 9 (.slice (some ⟨g, 0, none⟩) n cap) n (l.flatMap VotO.cells)) (hk : l[k]? = some o) (D : ByteArray) (x : Bool) (W : List Int) (wv : Value) :
    (((w.setCell ⟨g, k * 9 + 4, none⟩ (.string D)).setCell ⟨g, k * 9 + 7, none⟩ wv).setCell ⟨g, k * 9 + 6, none⟩ (.bool x)).ownsRow bo 72 9 (.slice (some ⟨g, 0, none⟩) n cap) n ((l.set k (o.fill D x W wv)).flatMap VotO.cells) ∧
    w.grownBy (((w.setCell ⟨g, k * 9 + 4, none⟩ (.string D)).setCell ⟨g, k * 9 + 7, none⟩ wv).setCell ⟨g, k * 9 + 6, none⟩ (.bool x)) (some g) := by
  have hlt : k < l.length := (List.getElem?_eq_some_iff.1 hk).1
  have h1 := own_put VotO.len h (o' := ⟨⟨o.r.c, o.r.h, o.r.n, o.r.s, D, o.r.t, o.r.x, o.r.l, o.r.vo⟩, o.v⟩) (.string D) hk (j := 4) (by decide) rfl
  have h2 := own_put VotO.len h1.1 (o' := ⟨⟨o.r.c, o.r.h, o.r.n, o.r.s, D, o.r.t, o.r.x, W, o.r.vo⟩, wv⟩) wv (List.getElem?_set_self hlt) (j := 7) (by decide) rfl
  have h3 := own_put VotO.len h2.1 (o' := o.fill D x W wv) (.bool x) (List.getElem?_set_self (by rw [List.length_set]; exact hlt)) (j := 6) (by decide) rfl
  rw [List.set_set, List.set_set] at h3
  exact ⟨h3.1, (h1.2.trans h2.2).trans h3.2⟩
theorem grown_of_below {w w' : World} (r : Option Nat) (h : Below w.heap.size w w') : w.grownBy w' r := ⟨h.os, h.tape, h.output, h.size, fun k hk _ => h.block k hk⟩
theorem filter_next {fs : List FndR} {i : Nat} {f : FndR} (h : fs[i]? = some f) : ((fs.take (i + 1)).filter FndR.l).length = ((fs.take i).filter FndR.l).length + (if f.l = true then 1 else 0) := by
  rw [List.take_add_one, h, List.filter_append, List.length_append]
  show _ + (List.filter FndR.l [f]).length = _
  cases e : f.l
  · rw [List.filter_cons_of_neg (by rw [e]; decide)]; rfl
  · rw [List.filter_cons_of_pos (by exact e)]; rfl
set_option maxHeartbeats 4000000 in
theorem spec_l10Fill {lv : Value} {bl m bo g n cap k N : Nat} {fs : List FndR} {l : List VotO} {o : VotO} (w : World) (hf : w.ownsRow bl 63 8 lv m (fs.flatMap FndR.cells)) (hr : w.ownsRow bo 72 9 (.slice (some ⟨g, 0, none⟩) n cap) n (l.flatMap VotO.cells))
    (hk : l[k]? = some o) (hm : 0 < m) (h320 : m ≤ 320) (hN : ∀ s ∈ fs.map FndR.d, s.size = N) (hN2 : N ≤ 1024) :
    Calls Tryz.prog 78 #[.pointer (some ⟨g, k * 9, none⟩), lv] w fun e w' => e = .returned (.tuple #[]) ∧ ∃ wv, w'.ownsRow w.heap.size 2 1 wv (placesTo (diffAt (fs.map FndR.d)) N).length (I64 (placesTo (diffAt (fs.map FndR.d)) N)) ∧
      w'.ownsRow bo 72 9 (.slice (some ⟨g, 0, none⟩) n cap) n ((l.set k (o.fill ⟨(voteTo (fs.map FndR.d) N).toArray⟩ (decide (m < 2 * (fs.filter FndR.l).length)) (placesTo (diffAt (fs.map FndR.d)) N) wv)).flatMap VotO.cells) ∧ w.grownBy w' (some g) := by
  obtain ⟨i0, hti, hz0, hz1, hz2⟩ := info_parts Tryz.info_Str
  have hlx : fs.length = m := by have := hf.1; rw [flat_len FndR.len] at this; omega
  obtain ⟨A, c, rfl, _, hcm, hA⟩ := own_shape hf
  have H1 := Hid.in_ hA
  have HL := Hid.in_ hlx
  have HR := Hid.in_ hr
  have HKO := Hid.in_ hk
  obtain ⟨DS, hDS⟩ : ∃ DS, fs.map FndR.d = DS := ⟨_, rfl⟩
  obtain ⟨del, hdel⟩ : ∃ del, (fs.filter FndR.l).length = del := ⟨_, rfl⟩
  rw [hDS] at hN ⊢
  obtain ⟨W, hW⟩ : ∃ W, placesTo (diffAt DS) N = W := ⟨_, rfl⟩
  obtain ⟨D, hD⟩ : ∃ D : ByteArray, (⟨(voteTo DS N).toArray⟩ : ByteArray) = D := ⟨_, rfl⟩
  have hxe : decide (m < 2 * del) = decide ((m : Int) < 2 * (del : Int)) := decide_eq_decide.2 (by omega)
  rw [hW, hD, hdel, hxe]
  have HWE := Hid.in_ hW
  have HDE := Hid.in_ hD
  have HDL := Hid.in_ hdel
  have HDS := Hid.in_ hDS
  have HZ := Hid.in_ hN
  clear hf hr hA hk hlx hN hDS hdel hW hD hxe
  go_enter Tryz.func78, Tryz.ntmps78
  go_wp2_with fail
  go_loopg [4, 5, 6] m (fun r v4 v5 v6 wr => ∃ i d : Nat, i + r = m ∧ v6 = .int .i64 i ∧ v5 = .int .i64 d ∧ Hid (d = ((fs.take i).filter FndR.l).length) ∧ Hid (wr.ownsRow w.heap.size 9 1 v4 i (Strs ((fs.take i).map FndR.d))) ∧ Hid (Below w.heap.size w wr))
  case atStart => exact ⟨0, 0, by omega, rfl, rfl, rfl, World.ownsRow_lit w #[] 0 (Nat.le_refl _) (by decide) (by decide), balloc (Below.refl _ _) _⟩
  case round =>
    obtain ⟨i, d, him, rfl, rfl, HD, HI, HB⟩ := hrel
    have HK := Hid.in_ him
    clear him
    by_cases hlt : i < m
    · obtain ⟨g1, rfl, _, hg, hx, _⟩ := H1.out (by omega)
      obtain ⟨f, hfi⟩ := get_lt fs i (by rw [HL.out]; exact hlt)
      obtain ⟨x0, x1, x2, x3, x4, x5, x6, x7⟩ := boxAt8 ((Box.elem FndR.len hx hfi).step HB.out)
      have HFW := Hid.in_ (Box.elem FndR.len hx hfi)
      have HFN := Hid.in_ (filter_next hfi)
      have HTN := Hid.in_ (show (fs.take (i + 1)).map FndR.d = (fs.take i).map FndR.d ++ [f.d] by rw [List.take_add_one, hfi, List.map_append]; rfl)
      have hdb : d ≤ i := by rw [HD.out]; exact Nat.le_trans (List.length_filter_le _ _) (by rw [List.length_take]; omega)
      have hgw : g1 < wr.heap.size := Nat.lt_of_lt_of_le hg HB.out.size
      clear hx hfi
      obtain ⟨fc, fh, fn, fs_, fd, ft, fl, fp⟩ := f
      simp only at x0 x1 x2 x3 x4 x5 x6 x7 HFN HTN
      cases efl : fl
      · rw [efl] at HFN
        go_wp2_with (at_builtin; refine wpList_append_own _ rfl _ _ 33 rfl w.heap.size 9 i0 (.string ⟨#[]⟩) 1 16 Tryz.underlying33 hti hz0 hz1 hz2 rfl (by decide) _ _ _ rfl (HI.out.alloc _) ⟨wr.heap.size, 0, none⟩ 1 1 [.string fd] rfl rfl (cell_one_new _ _ _) (fun x hx => by simp at hx; subst hx; rfl) (by unfold maxLen; omega) (by omega) (balloc HB.out _).size ?_; intro v4 w4 ho4 hg4 _; have HB4 := Hid.in_ (bgrown (balloc HB.out _) (HI.out.alloc _) (Nat.le_refl _) hg4); have HO4 := Hid.in_ (show w4.ownsRow w.heap.size 9 1 v4 (i + 1) (Strs ((fs.take (i + 1)).map FndR.d)) by rw [HTN.out]; unfold Strs at ho4 ⊢; rw [List.map_append]; exact ho4); clear ho4; obtain ⟨x0, x1, x2, x3, x4, x5, x6, x7⟩ := boxAt8 (HFW.out.step HB4.out))
        have hk := HK.out
        go_roundg (gk - 1)
        case measure => omega
        case rel => exact ⟨i + 1, d, by omega, by go_num, by go_num, by rw [HFN.out, ← HD.out]; rfl, HO4, HB4⟩
      · rw [efl] at HFN
        go_wp2_with (at_builtin; refine wpList_append_own _ rfl _ _ 33 rfl w.heap.size 9 i0 (.string ⟨#[]⟩) 1 16 Tryz.underlying33 hti hz0 hz1 hz2 rfl (by decide) _ _ _ rfl (HI.out.alloc _) ⟨wr.heap.size, 0, none⟩ 1 1 [.string fd] rfl rfl (cell_one_new _ _ _) (fun x hx => by simp at hx; subst hx; rfl) (by unfold maxLen; omega) (by omega) (balloc HB.out _).size ?_; intro v4 w4 ho4 hg4 _; have HB4 := Hid.in_ (bgrown (balloc HB.out _) (HI.out.alloc _) (Nat.le_refl _) hg4); have HO4 := Hid.in_ (show w4.ownsRow w.heap.size 9 1 v4 (i + 1) (Strs ((fs.take (i + 1)).map FndR.d)) by rw [HTN.out]; unfold Strs at ho4 ⊢; rw [List.map_append]; exact ho4); clear ho4; obtain ⟨x0, x1, x2, x3, x4, x5, x6, x7⟩ := boxAt8 (HFW.out.step HB4.out))
        have hk := HK.out
        go_roundg (gk - 1)
        case measure => omega
        case rel => exact ⟨i + 1, d + 1, by omega, by go_num, by go_num, by rw [HFN.out, ← HD.out]; rfl, HO4, HB4⟩
    · have hk := HK.out
      obtain rfl : i = m := by omega
      have HTK := Hid.in_ (show fs.take i = fs by rw [List.take_of_length_le (by rw [HL.out]; exact Nat.le_refl _)])
      rw [HTK.out, HDL.out] at HD
      rw [HTK.out, HDS.out] at HI
      have hdb : d ≤ i := by rw [HD.out, ← HDL.out, ← HL.out]; exact List.length_filter_le _ _
      have hv := spec_l10Vote wr HI.out hm HZ.out hN2 (by omega)
      rw [HWE.out, HDE.out] at hv
      have HV := Hid.in_ hv
      have hgw : g < w.heap.size := (HR.out.lt g rfl).2
      obtain rfl : d = del := HD.out
      clear hv HD HTK
      go_wp2_with fail
      refine HV.out.mono ?_
      rintro e w2 ⟨wv, rfl, ho2, hb2⟩
      have HB2 := Hid.in_ (HB.out.trans (hb2.mono HB.out.size))
      have HWV := Hid.in_ (own_base ho2 HB.out.size)
      have HR2 := Hid.in_ (own_below HR.out HB2.out (Nat.le_refl _))
      clear hb2 ho2
      obtain ⟨A9, c9, rfl, _, _, _⟩ := own_shape HWV.out
      obtain ⟨HX, HF, _, _⟩ := own_box HR2.out
      obtain ⟨c0, c1, c2, c3, c4, c5, c6, c7, c8⟩ := boxAt9 (Box.elem VotO.len HX HKO.out)
      have f4 := HF (k * 9 + 4)
      have f7 := HF (k * 9 + 7)
      have f6 := HF (k * 9 + 6)
      have hP := fill_put HR2.out HKO.out D (decide ((i : Int) < 2 * (d : Int))) W (.slice A9 W.length c9)
      have HP := Hid.in_ (And.intro hP.1 ((grown_of_below _ HB2.out).trans hP.2))
      have HWF := Hid.in_ (kept_apart (by decide) HWV.out HR2.out hP.2)
      clear HX HF hP
      go_wp2
      refine bodyPost_end (v := .tuple #[]) ?_ rfl ⟨rfl, _, HWF.out, HP.out.1, HP.out.2⟩
      simp [results, Tryz.results78, Sem.run_pure]
end Go.Proofs.YtlelgpknkgjaeaaGreatDoor

/- A map of the calls' own keyed by int64, read as a function of its keys. -/
namespace Go.Proofs.YtlelgpknkgjaeaaGreatDoor
open Go.ChangeShapes Go.WideShapes Go.ChangeAt Go.RowKit Go.Maps
set_option linter.unusedSimpArgs false
set_option linter.unusedVariables false

/-- an element is read as itself. -/
def heldR (v : Value) : Option (DataW Value × List MemPlace) := some (.held v, [])
theorem heldR_inv {v : Value} {z : Value} {ps : List MemPlace} (h : heldR v = some (.held z, ps)) : v = z := by
  unfold heldR at h
  injection h with h
  injection h with h _
  injection h
/-- Block b is a map of at most n entries whose elements are f, where there is none: z. -/
structure MapV (w : World) (b n : Nat) (f : Int → Value) (z : Value) : Prop where
  ex : ∃ D : DataW Value, w.ownsMap Tryz.prog 2 heldR b n D ∧ IsMap D ∧ ∀ k : Int, D.atKey (.int .i64 k) (.held z) = .held (f k)
theorem MapV.made (w : World) (z : Value) : MapV (w.alloc (.map #[] 0)) w.heap.size 0 (fun _ => z) z :=
  ⟨.map [], World.ownsMap_made _ _ _ _, isMap_empty, fun _ => rfl⟩
theorem MapV.lt {w : World} {b n : Nat} {f : Int → Value} {z : Value} (h : MapV w b n f z) : b < w.heap.size := by
  obtain ⟨D, h, _⟩ := h.ex
  exact h.lt
theorem MapV.of_block {w w' : World} {b n : Nat} {f : Int → Value} {z : Value} (h : MapV w b n f z) (hb : w'.heap[b]? = w.heap[b]?) : MapV w' b n f z := by
  obtain ⟨D, ⟨es, c, h1, h2⟩, h3⟩ := h.ex
  exact ⟨D, ⟨es, c, hb.trans h1, h2⟩, h3⟩
theorem MapV.step {w w' : World} {b n : Nat} {f : Int → Value} {z : Value} (k : Below w.heap.size w w') (h : MapV w b n f z) : MapV w' b n f z := h.of_block (k.block b h.lt)
theorem MapV.kept {w w' : World} {b n : Nat} {f : Int → Value} {z : Value} {row : Option Nat} (h : MapV w b n f z) (hg : w.grownBy w' row) (hne : some b ≠ row) : MapV w' b n f z := h.of_block (hg.block b h.lt hne)
theorem MapV.mono {w : World} {b n m : Nat} {f : Int → Value} {z : Value} (h : MapV w b n f z) (hm : n ≤ m) : MapV w b m f z := by
  obtain ⟨D, h1, h2⟩ := h.ex
  exact ⟨D, h1.mono hm, h2⟩
theorem MapV.same {w : World} {b n : Nat} {f f' : Int → Value} {z : Value} (h : MapV w b n f z) (hf : ∀ k, f k = f' k) : MapV w b n f' z := by
  obtain rfl : f = f' := funext hf
  exact h
theorem keyLaw : Keyed Tryz.prog 2 := int_keyed Tryz.underlying2
theorem MapV.look {w : World} {b n : Nat} {f : Int → Value} {z : Value} (h : MapV w b n f z) {t e : TypeId} (ht : Tryz.prog.underlying t = some (.map 2 e)) (hz : (zeroValue e).run Tryz.prog w = .ok z w) {k : Int} (hw : (Lit.int .i64 k).wf = true) :
    (Instr.lookup t (.map (some b)) (.int .i64 k) false).run Tryz.prog w = .ok (f k) w := by
  obtain ⟨D, h1, _, h3⟩ := h.ex
  obtain ⟨v, ps, hrun, hv⟩ := h1.lookup keyLaw ht hz (zd := .held z) (zp := []) rfl (keyOf_int_mk Tryz.underlying2 hw)
  rw [h3] at hv
  rw [hrun, heldR_inv hv]
def putF (f : Int → Value) (k : Int) (v : Value) : Int → Value := fun j => if j = k then v else f j
theorem putF_same (f : Int → Value) (k : Int) (v : Value) : putF f k v k = v := if_pos rfl
theorem putF_other {f : Int → Value} {k j : Int} {v : Value} (h : j ≠ k) : putF f k v j = f j := if_neg h
theorem MapV.put {w : World} {b n : Nat} {f : Int → Value} {z : Value} (h : MapV w b n f z) {t e : TypeId} (ht : Tryz.prog.underlying t = some (.map 2 e)) {k : Int} (hw : (Lit.int .i64 k).wf = true) (hn : n < maxLen) (v : Value) :
    ∃ w', (Instr.mapUpdate t (.map (some b)) (.int .i64 k) v).run Tryz.prog w = .ok () w' ∧ MapV w' b (n + 1) (putF f k v) z ∧ w.grownBy w' (some b) := by
  obtain ⟨D, h1, h2, h3⟩ := h.ex
  have hk := keyOf_int_mk Tryz.underlying2 hw
  obtain ⟨w', hrun, h4, hg⟩ := h1.update keyLaw ht hn hk (val := v) (d := .held v) (ps := []) rfl
  refine ⟨w', hrun, ⟨_, h4, h2.put _ _, fun j => ?_⟩, hg⟩
  by_cases hj : j = k
  · subst hj
    rw [atKey_put_same h2 (keyLaw.key hk), putF_same]
  · rw [atKey_put_other (fun e => by injection e with _ e; exact hj e), h3, putF_other hj]

/-- 'm[k]' at the operation. -/
theorem wpList_lookup_V (w : World) {ops : Array Oper} {rest : List Oper} {o : Oper} {a : Act} {Q : Exit → Act → World → Prop}
    (hg : o.guard = none) (m x : Operand) (t : TypeId) (hop : o.op = Op.lookup t m x false) (e : TypeId) (ht : Tryz.prog.underlying t = some (.map 2 e)) (z : Value) (hz : (zeroValue e).run Tryz.prog w = .ok z w)
    (b n : Nat) (f : Int → Value) (hm : a.eval m = .map (some b)) (hown : MapV w b n f z) (k : Int) (hx : a.eval x = .int .i64 k) (hw : (Lit.int .i64 k).wf = true)
    (hK : wpList Tryz.prog ops Q rest (a.put o.dst (f k)) w) : wpList Tryz.prog ops Q (o :: rest) a w := by
  refine wpList_plain hg fun K' hK' => ?_
  have hrun := hown.look ht hz hw
  unfold Oper.wp
  simp [execOp, hop, hm, hx, hrun, Result.andThen]
  exact hK' _ _ hK
/-- 'm[k] = v' at the operation. -/
theorem wpList_mapUpdate_V (w : World) {ops : Array Oper} {rest : List Oper} {o : Oper} {a : Act} {Q : Exit → Act → World → Prop}
    (hg : o.guard = none) (m x v : Operand) (t : TypeId) (hop : o.op = Op.mapUpdate t m x v) (e : TypeId) (ht : Tryz.prog.underlying t = some (.map 2 e)) (z : Value)
    (b n : Nat) (f : Int → Value) (hm : a.eval m = .map (some b)) (hown : MapV w b n f z) (hn : n < maxLen) (k : Int) (val : Value) (hx : a.eval x = .int .i64 k) (hv : a.eval v = val) (hw : (Lit.int .i64 k).wf = true)
    (hK : ∀ w', MapV w' b (n + 1) (putF f k val) z → w.grownBy w' (some b) → wpList Tryz.prog ops Q rest (a.put o.dst undef) w') : wpList Tryz.prog ops Q (o :: rest) a w := by
  refine wpList_plain hg fun K' hK' => ?_
  obtain ⟨w', hrun, h1, h2⟩ := hown.put ht hw hn val
  unfold Oper.wp
  simp [execOp, hop, hm, hx, hv, hrun, Result.andThen]
  exact hK' _ _ (hK w' h1 h2)
end Go.Proofs.YtlelgpknkgjaeaaGreatDoor
