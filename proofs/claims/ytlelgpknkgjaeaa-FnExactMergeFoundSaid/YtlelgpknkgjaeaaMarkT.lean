/- The marks of strings: 'markText', 'markStringS', 'heldStringS' of the laws. -/
import Derived.Test.YtlelgpknkgjaeaaStrs
import Derived.Test.YtlelgpknkgjaeaaStr
import Derived.Laws.Concat
import Derived.Deep.RegionWith
namespace Go.Proofs.Ytlelgpknkgjaeaa
open Go.ChangeShapes Go.WideShapes Go.ChangeAt Go.RowKit
set_option linter.unusedSimpArgs false
set_option linter.unusedVariables false
set_option maxRecDepth 4000

def digitB (k : Nat) : ByteArray := ⟨[UInt8.ofNat (48 + k % 10)].toArray⟩
def digitsT : Nat → Nat → ByteArray → ByteArray
  | 0, _, o => o
  | f + 1, k, o => if k = 0 then o else digitsT f (k / 10) (digitB k ++ o)
def mT : ByteArray := ⟨#[109]⟩
def markT (k : Nat) : ByteArray := mT ++ digitsT 20 k ⟨#[]⟩
theorem digitsT_zero (f : Nat) (o : ByteArray) : digitsT f 0 o = o := by
  cases f <;> rfl
theorem digitsT_next {f k : Nat} {o : ByteArray} (h : 0 < k) : digitsT (f + 1) k o = digitsT f (k / 10) (digitB k ++ o) := by
  show (if k = 0 then o else _) = _
  rw [if_neg (by omega)]
theorem digit_cell (k : Nat) : (#[Value.int .u8 (48 + (k : Int) % 10)] : Array Value).toList = Lib.byteCells [UInt8.ofNat (48 + k % 10)] := by
  show [Value.int .u8 (48 + (k : Int) % 10)] = [Value.int .u8 ((UInt8.ofNat (48 + k % 10)).toNat : Int)]
  rw [UInt8.toNat_ofNat']
  congr 2
  omega
theorem conv_one {w : World} {cs : List UInt8} {vs : Array Value} {n : Nat} (hn : vs.size = n) (h : vs.toList = Lib.byteCells cs) (hm : n ≤ maxLen) :
    (convert 107 9 (.slice (some ⟨w.heap.size, 0, none⟩) n n)).run Try.prog (w.alloc (.cells vs 5)) = .ok (.string ⟨cs.toArray⟩) (w.alloc (.cells vs 5)) := by
  have := World.ownsRow_lit (base := w.heap.size) (size := 1) (e := 5) w vs n (Nat.le_refl _) hm (by omega)
  rw [h] at this
  exact conv_own Try.underlying107 Try.underlying5 Try.underlying9 this
theorem digitB_size (k : Nat) : (digitB k).size = 1 := rfl
set_option maxHeartbeats 2000000 in
theorem laws_markText (k : Nat) (w : World) (h1 : 0 < k) (h2 : k ≤ 4294967296) :
    Calls Try.prog 48 #[.int .i64 k] w fun e w' => e = .returned (.string (markT k)) ∧ Below w.heap.size w w' := by
  obtain ⟨T, hT⟩ : ∃ T, digitsT 20 k ⟨#[]⟩ = T := ⟨_, rfl⟩
  have HV := Hid.in_ (show markT k = mT ++ T by unfold markT; rw [hT])
  have HT := Hid.in_ hT
  clear hT
  go_enter Try.func48, Try.ntmps48
  go_wp2
  go_loopg [0, 3] 20 (fun m i o wr => ∃ (q : Nat) (s : ByteArray), i = .int .i64 q ∧ o = .string s ∧ q ≤ 4294967296 ∧ s.size + m = 20 ∧ Hid (q < 10 ^ m) ∧ Hid (digitsT m q s = T) ∧ Hid (Below w.heap.size w wr))
  case atStart => exact ⟨k, ⟨#[]⟩, rfl, rfl, h2, rfl, Nat.lt_of_le_of_lt h2 (by decide), HT.out, Below.refl _ _⟩
  case round =>
    obtain ⟨q, s, rfl, rfl, hq, hm, HQ, HD, HB⟩ := hrel
    by_cases h0 : 0 < q
    · obtain ⟨m, hgk⟩ : ∃ m, gk = m + 1 := by
        rcases gk with _ | m
        · have := HQ.out
          omega
        · exact ⟨m, rfl⟩
      have HG := Hid.in_ hgk
      have HQ2 := Hid.in_ (show q / 10 < 10 ^ m by
        have h := HQ.out
        rw [HG.out, Nat.pow_succ] at h
        omega)
      have HD2 := Hid.in_ (show digitsT m (q / 10) (digitB q ++ s) = T by
        have h := HD.out
        rw [HG.out, digitsT_next h0] at h
        exact h)
      have hc := conv_one (n := 1) (w := wr) rfl (digit_cell q) (by decide)
      have hE : (⟨[UInt8.ofNat (48 + q % 10)].toArray⟩ : ByteArray) = digitB q := rfl
      rw [hE] at hc
      have hz := digitB_size q
      have hno : ¬ ((digitB q).size + s.size > 9223372036854775807) := by rw [hz]; omega
      have HZ := Hid.in_ (show (digitB q ++ s).size = s.size + 1 by rw [ByteArray.size_append, hz]; omega)
      have HDV := Hid.in_ (show ((q : Int) / 10) = ((q / 10 : Nat) : Int) by omega)
      go_wp2
      have hgk := HG.out
      have hzz := HZ.out
      go_roundg m
      case measure => omega
      case rel => exact ⟨q / 10, digitB q ++ s, by first | rfl | (rw [HDV.out]), rfl, by omega, by omega, HQ2, HD2, balloc HB.out _⟩
    · obtain rfl : q = 0 := by omega
      have HS := Hid.in_ (show s = T by rw [← HD.out, digitsT_zero])
      have hno : ¬ ((⟨#[109]⟩ : ByteArray).size + s.size > 9223372036854775807) := by show ¬ (1 + s.size > 9223372036854775807); omega
      go_wp2
      go_ret
      refine ⟨?_, HB.out⟩
      rw [HV.out, ← HS.out]
      rfl
def mTexts (m n : Nat) : List ByteArray := (List.range n).map fun i => markT (m + i)
theorem mTexts_len (m n : Nat) : (mTexts m n).length = n := by simp [mTexts]
theorem mTexts_get {m n i : Nat} (h : i < n) : (mTexts m n)[i]? = some (markT (m + i)) := by simp [mTexts, h]
theorem mTexts_step (m n k : Nat) (l : List ByteArray) (hl : l.length = n) (h : k < n) : (Strs (mTexts m k ++ l.drop k)).set k (.string (markT (m + k))) = Strs (mTexts m (k + 1) ++ l.drop (k + 1)) := by
  rw [Strs_set]
  congr 1
  rw [List.set_append_right _ _ (by rw [mTexts_len]; exact Nat.le_refl _), mTexts_len, Nat.sub_self, List.drop_eq_getElem_cons (by omega), List.set_cons_zero]
  unfold mTexts
  rw [List.range_succ, List.map_append, List.append_assoc]
  rfl
/-- A call that leaves all old memory grows by no row. -/
theorem grown_below {w w' : World} (hb : Below w.heap.size w w') (b : Option Nat) : w.grownBy w' b where
  os := hb.os
  tape := hb.tape
  output := hb.output
  size := hb.size
  block := fun k hk _ => hb.block k hk
set_option maxHeartbeats 2000000 in
theorem laws_markStringS {v : Value} {n b : Nat} {l : List ByteArray} (m : Nat) (w : World) (h : w.ownsRow b 9 1 v n (Strs l)) (hm : 0 < m) (hm2 : m ≤ 1048576) (hn2 : n ≤ 1048576) :
    Calls Try.prog 14 #[v, .int .i64 m] w fun e w' => e = .returned (.int .i64 (m + n)) ∧ w'.ownsRow b 9 1 v n (Strs (mTexts m n)) ∧ w.grownBy w' v.ownBlock := by
  have hlx : l.length = n := by have := h.1; rw [Strs_len] at this; omega
  obtain ⟨A, c, rfl, hl, hn, hA⟩ := own_shape h
  have HX := Hid.in_ hlx
  have H0 := Hid.in_ h
  clear hA hl h hlx
  go_enter Try.func14, Try.ntmps14
  go_wp2
  go_loopg [1, 5] n (fun t m' i wr => ∃ k : Nat, k + t = n ∧ i = .int .i64 k ∧ m' = .int .i64 (m + k) ∧ Hid (wr.ownsRow b 9 1 (.slice A n c) n (Strs (mTexts m k ++ l.drop k)) ∧ w.grownBy wr (Value.slice A n c).ownBlock))
  case atStart => exact ⟨0, by omega, rfl, by simp, by simpa [mTexts] using H0.out, World.grownBy.refl _ _⟩
  case round =>
    obtain ⟨k, hkm, rfl, rfl, HO⟩ := hrel
    have HK := Hid.in_ hkm
    clear hkm
    by_cases hlt : k < n
    · go_wp2_with fail
      refine (show Calls Try.prog 48 #[.int .i64 ((m : Int) + (k : Int))] _ _ from laws_markText (m + k) _ (by omega) (by omega)).mono ?_
      rintro e w2 ⟨rfl, hb2⟩
      have HO1 := Hid.in_ (And.intro (ostep hb2 HO.out.1) (HO.out.2.trans (grown_below hb2 _)))
      clear hb2 HO
      obtain ⟨A', c', hv, hl', _, hA'⟩ := own_shape HO1.out.1
      obtain ⟨g, hg, _, _, hc, hf⟩ := hA' (by omega)
      obtain ⟨rfl, rfl⟩ : A = A' ∧ c = c' := by injection hv with h1 h2 h3; exact ⟨h1, h3⟩
      subst hg
      obtain ⟨u, hu⟩ := get_lt (Strs (mTexts m k ++ l.drop k)) k (by rw [Strs_len, List.length_append, mTexts_len, List.length_drop, HX.out]; omega)
      have f1 := hc k _ hu
      have f2 := hf k
      have HO2 : Hid ((w2.setCell ⟨g, k, none⟩ (.string (markT (m + k)))).ownsRow b 9 1 (.slice (some ⟨g, 0, none⟩) n c) n (Strs (mTexts m (k + 1) ++ l.drop (k + 1))) ∧ w.grownBy (w2.setCell ⟨g, k, none⟩ (.string (markT (m + k)))) (some g)) := by
        have h1 := (HO1.out.1.stored k (.string (markT (m + k))))
        rw [mTexts_step m n k l HX.out hlt] at h1
        exact ⟨h1.1, World.grownBy.trans HO1.out.2 h1.2⟩
      clear hc hf hu hv hl' HO1
      go_wp2
      have hk := HK.out
      go_roundg (gk - 1)
      case measure => omega
      case rel => exact ⟨k + 1, by omega, by go_num, by go_num, HO2⟩
    · have hk := HK.out
      obtain rfl : k = n := by omega
      have HE : Hid (wr.ownsRow b 9 1 (.slice A k c) k (Strs (mTexts m k)) ∧ w.grownBy wr (Value.slice A k c).ownBlock) := by
        have := HO.out
        rw [List.drop_of_length_le (by rw [HX.out]; exact Nat.le_refl _), List.append_nil] at this
        exact this
      clear HO
      go_wp2
      go_ret
      exact ⟨rfl, HE.out⟩
end Go.Proofs.Ytlelgpknkgjaeaa
