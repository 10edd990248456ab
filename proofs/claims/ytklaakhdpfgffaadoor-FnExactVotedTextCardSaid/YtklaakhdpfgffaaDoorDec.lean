/- Numbers in decimal: 'decimal' of the program, 'l01Dec' and 'l09Dec' of the reference. -/
import Derived.Test.YtklaakhdpfgffaaDoorTabI
import Derived.Test.YtklaakhdpfgffaaDoorShelfI
import Derived.Test.YtklaakhdpfgffaaDoorStr
import Derived.Lib.AppendIntMem
import Derived.Laws.Concat
import Derived.BigRegion
import Derived.Deep.RegionWith
import Derived.Deep.DeepCutAuto
import Derived.IntWalk
namespace Go.Proofs.YtklaakhdpfgffaaDoor
open Go.ChangeShapes Go.WideShapes Go.ChangeAt Go.RowKit
set_option linter.unusedSimpArgs false
set_option linter.unusedVariables false
set_option maxRecDepth 4000

def decS (n : Nat) : ByteArray := ⟨(Lib.decDigits n).toArray⟩
theorem ba_app (a b : List UInt8) : (⟨a.toArray⟩ : ByteArray) ++ ⟨b.toArray⟩ = ⟨(a ++ b).toArray⟩ := by
  apply ByteArray.ext
  rw [ByteArray.data_append]
  simp
theorem nDigits_le : ∀ (k u : Nat), u ≤ k → Lib.nDigits u ≤ u + 1
  | 0, u, h => by rw [Lib.nDigits_small (by omega)]; omega
  | k + 1, u, h => by
    by_cases h10 : u < 10
    · rw [Lib.nDigits_small h10]
      omega
    · rw [Lib.nDigits_big h10]
      have := nDigits_le k (u / 10) (by omega)
      omega
theorem decS_size (n : Nat) : (decS n).size ≤ n + 1 := by
  have : (decS n).size = (Lib.decDigits n).length := by show (Lib.decDigits n).toArray.size = _; simp
  rw [this, Lib.decDigits_length]
  exact nDigits_le n n (Nat.le_refl _)
theorem decS_small {n : Nat} (h : n < 10) : decS n = ⟨[UInt8.ofNat (48 + n)].toArray⟩ := by
  unfold decS
  rw [Lib.decDigits_one h]
theorem decS_big {n : Nat} (h : ¬ n < 10) : decS n = decS (n / 10) ++ ⟨[UInt8.ofNat (48 + n % 10)].toArray⟩ := by
  unfold decS
  rw [ba_app]
  rw [Lib.decDigits, dif_neg h]
theorem conv_dig {w : World} {n g : Nat} (h : n < 10) (hg : w.heap.size = g) :
    (convert 44 9 (.slice (some ⟨g, 0, none⟩) 1 1)).run Tryd.prog (w.alloc (.cells #[.int .u8 (48 + (n : Int))] 5)) = .ok (.string ⟨[UInt8.ofNat (48 + n)].toArray⟩) (w.alloc (.cells #[.int .u8 (48 + (n : Int))] 5)) := by
  subst hg
  have hc : (#[Value.int .u8 (48 + (n : Int))] : Array Value).toList = Lib.byteCells [UInt8.ofNat (48 + n)] := by
    show [Value.int .u8 (48 + (n : Int))] = [Value.int .u8 ((UInt8.ofNat (48 + n)).toNat : Int)]
    rw [UInt8.toNat_ofNat']
    congr 2
    omega
  have := World.ownsRow_lit (base := w.heap.size) (size := 1) (e := 5) w #[.int .u8 (48 + (n : Int))] 1 (Nat.le_refl _) (by decide) rfl
  rw [hc] at this
  exact conv_own Tryd.underlying44 Tryd.underlying5 Tryd.underlying9 this
theorem conv_dig2 {w w' : World} {n k g : Nat} (h : n < 10) (hg : w.heap.size = g) (hk : g < k) (hb : Below k (w.alloc (.cells #[.int .u8 (48 + (n : Int))] 5)) w') :
    (convert 44 9 (.slice (some ⟨g, 0, none⟩) 1 1)).run Tryd.prog w' = .ok (.string ⟨[UInt8.ofNat (48 + n)].toArray⟩) w' := by
  subst hg
  have hc : (#[Value.int .u8 (48 + (n : Int))] : Array Value).toList = Lib.byteCells [UInt8.ofNat (48 + n)] := by
    show [Value.int .u8 (48 + (n : Int))] = [Value.int .u8 ((UInt8.ofNat (48 + n)).toNat : Int)]
    rw [UInt8.toNat_ofNat']
    congr 2
    omega
  have := World.ownsRow_lit (base := w.heap.size) (size := 1) (e := 5) w #[.int .u8 (48 + (n : Int))] 1 (Nat.le_refl _) (by decide) rfl
  rw [hc] at this
  exact conv_own Tryd.underlying44 Tryd.underlying5 Tryd.underlying9 (own_below this hb (by unfold World.alloc; rw [Array.size_push]; omega))
theorem conv_dig3 {w : World} {n : Nat} (h : n < 10) :
    (convert 44 9 (.slice (some ⟨w.heap.size, 0, none⟩) 1 1)).run Tryd.prog (w.alloc (.cells #[.int .u8 (48 + (n : Int))] 5)).drew = .ok (.string ⟨[UInt8.ofNat (48 + n)].toArray⟩) (w.alloc (.cells #[.int .u8 (48 + (n : Int))] 5)).drew := conv_dig (w := w.drew) h rfl
theorem ret_strD {a b : ByteArray} (h : a = b) : Ending.returned (.string a) = .returned (.string b) := by rw [h]
theorem tab_name {P : Program} {w : World} {k : IntKind} {zs : List Int} {a b : String} (e : a = b) (h : Lib.TabIs P w a k zs) : Lib.TabIs P w b k zs := e ▸ h
/-- The library's table of powers of ten stands in the world, under the name that the program gives it. -/
def PowT (w : World) : Prop := Lib.TabIs Tryd.prog w (((Tryd.prog.globals[3]?).map fun x => x.name).getD "") .u64 Lib.pow10Tab
theorem impl_decimal (n : Nat) (w : World) (hn : n ≤ 4611686018427387904) (hT : PowT w) :
    Calls Tryd.prog 35 #[.int .i64 n] w fun e w' => e = .returned (.string (decS n)) ∧ Below w.heap.size w w' := by
  have HF := Hid.in_ (show Calls Tryd.prog 60 #[.int .i64 n, .int .i64 10] w fun e w' => e = .returned (.string (decS n)) ∧ Below w.heap.size w w' from
    (Any.strconv_FormatInt_10 Tryd.lays173 (n : Int) (by omega) (by omega) w (tab_name (by kernel_rfl) hT)).mono fun e w' h => by
      obtain ⟨he, k, os, hw⟩ := h
      have hi : (⟨(Lib.itoa (n : Int)).toArray⟩ : ByteArray) = decS n := by
        unfold Lib.itoa decS
        rw [if_neg (by omega), Int.toNat_natCast]
      rw [hi] at he
      exact ⟨he, by rw [hw]; exact Lib.below_grow _ w (Nat.le_refl _) k os⟩)
  go_enter Tryd.func35, Tryd.ntmps35
  go_wp2_with (go_at_call 60; refine HF.out.mono ?_; rintro e w1 ⟨rfl, hb1⟩)
  go_ret
  exact ⟨rfl, hb1⟩
theorem spec_l01Dec_small (n : Nat) (w : World) (h10 : n < 10) :
    Calls Tryd.prog 58 #[.int .i64 n] w fun e w' => e = .returned (.string (decS n)) ∧ Below w.heap.size w w' := by
  have hc := conv_dig (w := w) h10 rfl
  rw [← decS_small h10] at hc
  generalize decS n = D at *
  go_enter Tryd.func58, Tryd.ntmps58
  go_wp2
  go_ret
  exact ⟨rfl, balloc (Below.refl _ _) _⟩
set_option maxHeartbeats 2000000 in
theorem spec_l01Dec : ∀ (f n : Nat) (w : World), n ≤ f → n ≤ 1048576 →
    Calls Tryd.prog 58 #[.int .i64 n] w fun e w' => e = .returned (.string (decS n)) ∧ Below w.heap.size w w' := by
  intro f
  induction f with
  | zero => exact fun n w hn hm => spec_l01Dec_small n w (by omega)
  | succ f ih =>
    intro n w hn hm
    by_cases h10 : n < 10
    · exact spec_l01Dec_small n w h10
    · obtain ⟨q, hq⟩ : ∃ q, n / 10 = q := ⟨_, rfl⟩
      obtain ⟨r, hr⟩ : ∃ r, n % 10 = r := ⟨_, rfl⟩
      have IH := Hid.in_ (fun w => ih q w (by omega) (by omega))
      have HS := Hid.in_ (show decS n = decS q ++ ⟨[UInt8.ofNat (48 + r)].toArray⟩ by rw [← hq, ← hr]; exact decS_big h10)
      have hq1 : (n : Int).tdiv 10 = (q : Int) := by rw [Int.tdiv_eq_ediv_of_nonneg (by omega)]; omega
      have hq2 : (n : Int) / 10 = (q : Int) := by omega
      have hr1 : (n : Int).tmod 10 = (r : Int) := by rw [Int.tmod_eq_emod_of_nonneg (by omega)]; omega
      have hr2 : (n : Int) % 10 = (r : Int) := by omega
      have hr3 : r < 10 := by omega
      have hq3 : IntKind.i64.wrap (q : Int) = (q : Int) := IntWalk.i64_in _ (by omega)
      have hr4 : IntKind.i64.wrap (r : Int) = (r : Int) := IntWalk.i64_in _ (by omega)
      have hr5 : IntKind.i64.wrap (48 + (r : Int)) = 48 + (r : Int) := IntWalk.i64_in _ (by omega)
      have hr6 : IntKind.u8.wrap (48 + (r : Int)) = 48 + (r : Int) := IntWalk.u8_in _ (by omega)
      have hsz := decS_size q
      have hqn : q ≤ 1048576 := by omega
      obtain ⟨Q, hQ⟩ : ∃ Q, decS q = Q := ⟨_, rfl⟩
      obtain ⟨D, hD⟩ : ∃ D, (⟨[UInt8.ofNat (48 + r)].toArray⟩ : ByteArray) = D := ⟨_, rfl⟩
      have hDs : D.size = 1 := by rw [← hD]; rfl
      have HCA := Hid.in_ (fun w g hg => conv_dig (w := w) (g := g) hr3 hg)
      have HCB := Hid.in_ (fun w w' k g hg hk hb => conv_dig2 (w := w) (w' := w') (k := k) (g := g) hr3 hg hk hb)
      rw [hD] at HS HCA HCB
      rw [hQ] at IH HS hsz
      have hno : ¬ (Q.size + D.size > 9223372036854775807) := by omega
      have hc0 := conv_dig3 (w := w) hr3
      rw [hD] at hc0
      clear hq hr hQ hD
      go_enter Tryd.func58, Tryd.ntmps58
      go_upto_region 5 with fail
      go_region_with ((go_at_call 58; refine (IH.out _).mono ?_; rintro e w1 ⟨rfl, hb1⟩; have hc1 := HCA.out w1 w1.heap.size rfl; (try have hc2 := HCB.out w.drew w1 _ w.heap.size rfl (by first | exact Nat.lt_succ_self _ | (rw [Array.size_push]; exact Nat.lt_succ_self _) | (simp; done)) hb1)))
      all_goals
        go_wp2
        go_ret
        exact ⟨ret_strD HS.out.symm, by first | exact balloc (bstep (Below.refl _ w).drew hb1) _ | exact bstep (balloc (Below.refl _ w) _).drew hb1⟩
theorem spec_l09Dec_small (n : Nat) (w : World) (h10 : n < 10) :
    Calls Tryd.prog 37 #[.int .i64 n] w fun e w' => e = .returned (.string (decS n)) ∧ Below w.heap.size w w' := by
  have hc := conv_dig (w := w) h10 rfl
  rw [← decS_small h10] at hc
  generalize decS n = D at *
  go_enter Tryd.func37, Tryd.ntmps37
  go_wp2
  go_ret
  exact ⟨rfl, balloc (Below.refl _ _) _⟩
set_option maxHeartbeats 2000000 in
theorem spec_l09Dec : ∀ (f n : Nat) (w : World), n ≤ f → n ≤ 1048576 →
    Calls Tryd.prog 37 #[.int .i64 n] w fun e w' => e = .returned (.string (decS n)) ∧ Below w.heap.size w w' := by
  intro f
  induction f with
  | zero => exact fun n w hn hm => spec_l09Dec_small n w (by omega)
  | succ f ih =>
    intro n w hn hm
    by_cases h10 : n < 10
    · exact spec_l09Dec_small n w h10
    · obtain ⟨q, hq⟩ : ∃ q, n / 10 = q := ⟨_, rfl⟩
      obtain ⟨r, hr⟩ : ∃ r, n % 10 = r := ⟨_, rfl⟩
      have IH := Hid.in_ (fun w => ih q w (by omega) (by omega))
      have HS := Hid.in_ (show decS n = decS q ++ ⟨[UInt8.ofNat (48 + r)].toArray⟩ by rw [← hq, ← hr]; exact decS_big h10)
      have hq1 : (n : Int).tdiv 10 = (q : Int) := by rw [Int.tdiv_eq_ediv_of_nonneg (by omega)]; omega
      have hq2 : (n : Int) / 10 = (q : Int) := by omega
      have hr1 : (n : Int).tmod 10 = (r : Int) := by rw [Int.tmod_eq_emod_of_nonneg (by omega)]; omega
      have hr2 : (n : Int) % 10 = (r : Int) := by omega
      have hr3 : r < 10 := by omega
      have hq3 : IntKind.i64.wrap (q : Int) = (q : Int) := IntWalk.i64_in _ (by omega)
      have hr4 : IntKind.i64.wrap (r : Int) = (r : Int) := IntWalk.i64_in _ (by omega)
      have hr5 : IntKind.i64.wrap (48 + (r : Int)) = 48 + (r : Int) := IntWalk.i64_in _ (by omega)
      have hr6 : IntKind.u8.wrap (48 + (r : Int)) = 48 + (r : Int) := IntWalk.u8_in _ (by omega)
      have hsz := decS_size q
      have hqn : q ≤ 1048576 := by omega
      obtain ⟨Q, hQ⟩ : ∃ Q, decS q = Q := ⟨_, rfl⟩
      obtain ⟨D, hD⟩ : ∃ D, (⟨[UInt8.ofNat (48 + r)].toArray⟩ : ByteArray) = D := ⟨_, rfl⟩
      have hDs : D.size = 1 := by rw [← hD]; rfl
      have HCA := Hid.in_ (fun w g hg => conv_dig (w := w) (g := g) hr3 hg)
      have HCB := Hid.in_ (fun w w' k g hg hk hb => conv_dig2 (w := w) (w' := w') (k := k) (g := g) hr3 hg hk hb)
      rw [hD] at HS HCA HCB
      rw [hQ] at IH HS hsz
      have hno : ¬ (Q.size + D.size > 9223372036854775807) := by omega
      have hc0 := conv_dig3 (w := w) hr3
      rw [hD] at hc0
      clear hq hr hQ hD
      go_enter Tryd.func37, Tryd.ntmps37
      go_upto_region 3 with fail
      go_region_with ((go_at_call 37; refine (IH.out _).mono ?_; rintro e w1 ⟨rfl, hb1⟩; have hc1 := HCA.out w1 w1.heap.size rfl; (try have hc2 := HCB.out w.drew w1 _ w.heap.size rfl (by first | exact Nat.lt_succ_self _ | (rw [Array.size_push]; exact Nat.lt_succ_self _) | (simp; done)) hb1)))
      all_goals
        go_wp2
        go_ret
        exact ⟨ret_strD HS.out.symm, by first | exact balloc (bstep (Below.refl _ w).drew hb1) _ | exact bstep (balloc (Below.refl _ w) _).drew hb1⟩
end Go.Proofs.YtklaakhdpfgffaaDoor
