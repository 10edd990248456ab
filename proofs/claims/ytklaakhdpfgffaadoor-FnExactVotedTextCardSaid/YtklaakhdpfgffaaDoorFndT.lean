/- 'sectorText' and 'FoundText' of the program, 'FoundText' of the reference. -/
import Derived.Test.YtklaakhdpfgffaaDoorJoin
import Derived.Test.YtklaakhdpfgffaaDoorFound
namespace Go.Proofs.YtklaakhdpfgffaaDoor
open Go.ChangeShapes Go.WideShapes Go.ChangeAt Go.RowKit
set_option linter.unusedSimpArgs false
set_option linter.unusedVariables false
set_option maxRecDepth 4000

def secW (t : Int) : ByteArray := if t = 1 then ⟨#[103, 111, 111, 100]⟩ else if t = 2 then ⟨#[98, 97, 100, 45, 105, 100]⟩ else if t = 3 then ⟨#[98, 97, 100, 45, 100, 97, 116, 97]⟩ else if t = 4 then ⟨#[110, 111, 45, 100, 97, 116, 97]⟩ else ⟨#[119, 101, 97, 107]⟩
def secHead (c h n : Nat) : ByteArray := decS c ++ ⟨#[47]⟩ ++ decS h ++ ⟨#[47]⟩ ++ decS n
def secText (c h n s : Nat) (t : Int) : ByteArray := secHead c h n ++ ⟨#[32]⟩ ++ decS s ++ ⟨#[32]⟩ ++ secW t
theorem decS_255 {n : Nat} (h : n ≤ 255) : (decS n).size ≤ 256 := by have := decS_size n; omega
theorem joinS_three (c h n : Nat) : joinS [(c : Int), (h : Int), (n : Int)] ⟨#[47]⟩ = secHead c h n := by
  unfold joinS secHead
  apply ByteArray.ext
  apply Array.toList_inj.1
  simp [Lib.join, decI, ByteArray.data_append]
theorem secHead_size {c h n : Nat} (hc : c ≤ 255) (hh : h ≤ 255) (hn : n ≤ 255) : (secHead c h n).size ≤ 800 := by
  have h1 := decS_255 hc
  have h2 := decS_255 hh
  have h3 := decS_255 hn
  have h4 : (⟨#[47]⟩ : ByteArray).size = 1 := rfl
  unfold secHead
  rw [ByteArray.size_append, ByteArray.size_append, ByteArray.size_append, ByteArray.size_append]
  omega
theorem secW_size (t : Int) : (secW t).size ≤ 8 := by
  unfold secW
  split
  · decide
  split
  · decide
  split
  · decide
  split
  · decide
  · decide
theorem secText_size {c h n s : Nat} (t : Int) (hc : c ≤ 255) (hh : h ≤ 255) (hn : n ≤ 255) (hs : s ≤ 255) : (secText c h n s t).size ≤ 1100 := by
  have h1 := secHead_size hc hh hn
  have h2 := decS_255 hs
  have h3 := secW_size t
  have h4 : (⟨#[32]⟩ : ByteArray).size = 1 := rfl
  unfold secText
  rw [ByteArray.size_append, ByteArray.size_append, ByteArray.size_append, ByteArray.size_append]
  omega
set_option maxHeartbeats 4000000 in
theorem impl_sectorText (c h n s : Nat) (t : Int) (w : World) (hc : c ≤ 255) (hh : h ≤ 255) (hn : n ≤ 255) (hs : s ≤ 255) (h1 : 1 ≤ t) (h5 : t ≤ 5) (hP : PowT w) :
    Calls Tryd.prog 39 #[.int .i64 c, .int .i64 h, .int .i64 n, .int .i64 s, .int .i64 t] w fun e w' => e = .returned (.string (secText c h n s t)) ∧ Below w.heap.size w w' := by
  have HJ := Hid.in_ (show ∀ (w1 : World) (g : Nat), w1.heap.size = g → PowT w1 → Calls Tryd.prog 44 #[.slice (some ⟨g, 0, none⟩) 3 3, .string ⟨#[47]⟩] (w1.alloc (.cells #[.int .i64 (c : Int), .int .i64 (h : Int), .int .i64 (n : Int)] 2)) fun e w' =>
      e = .returned (.string (secHead c h n)) ∧ Below (w1.alloc (.cells #[.int .i64 (c : Int), .int .i64 (h : Int), .int .i64 (n : Int)] 2)).heap.size (w1.alloc (.cells #[.int .i64 (c : Int), .int .i64 (h : Int), .int .i64 (n : Int)] 2)) w' from fun w1 g hg hP => by
    subst hg
    have := impl_joinNumbers (v := .slice (some ⟨w1.heap.size, 0, none⟩) 3 3) (n := 3) (b := w1.heap.size) (l := [(c : Int), (h : Int), (n : Int)]) ⟨#[47]⟩ (w1.alloc (.cells #[.int .i64 (c : Int), .int .i64 (h : Int), .int .i64 (n : Int)] 2))
      (World.ownsRow_lit w1 #[.int .i64 (c : Int), .int .i64 (h : Int), .int .i64 (n : Int)] 3 (Nat.le_refl _) (by decide) rfl)
      (fun x hx => by simp only [List.mem_cons, List.not_mem_nil, or_false] at hx; omega) (by omega) (by decide) (tab_step hP (balloc (Below.refl _ _) _))
    rw [joinS_three] at this
    exact this)
  have HD := Hid.in_ (fun w hP => impl_decimal s w (by omega) hP)
  have HP := Hid.in_ hP
  have HT := Hid.in_ (show secText c h n s t = secHead c h n ++ ⟨#[32]⟩ ++ decS s ++ ⟨#[32]⟩ ++ secW t from rfl)
  have z1 := secHead_size hc hh hn
  have z2 := decS_255 hs
  have z3 : (⟨#[32]⟩ : ByteArray).size = 1 := rfl
  clear hP
  generalize secHead c h n = J at *
  generalize decS s = D at *
  have z4 : (J ++ ⟨#[32]⟩ : ByteArray).size ≤ 801 := by rw [ByteArray.size_append]; omega
  have z5 : (J ++ ⟨#[32]⟩ ++ D : ByteArray).size ≤ 1057 := by rw [ByteArray.size_append]; omega
  have z6 : (J ++ ⟨#[32]⟩ ++ D ++ ⟨#[32]⟩ : ByteArray).size ≤ 1058 := by rw [ByteArray.size_append]; omega
  have no1 : ¬ (J.size + (⟨#[32]⟩ : ByteArray).size > 9223372036854775807) := by omega
  have no2 : ¬ ((J ++ ⟨#[32]⟩ : ByteArray).size + D.size > 9223372036854775807) := by omega
  have no3 : ¬ ((J ++ ⟨#[32]⟩ ++ D : ByteArray).size + (⟨#[32]⟩ : ByteArray).size > 9223372036854775807) := by omega
  obtain rfl | rfl | rfl | rfl | rfl : t = 1 ∨ t = 2 ∨ t = 3 ∨ t = 4 ∨ t = 5 := by omega
  · have z7 : (⟨#[103, 111, 111, 100]⟩ : ByteArray).size = 4 := rfl
    have no4 : ¬ ((J ++ ⟨#[32]⟩ ++ D ++ ⟨#[32]⟩ : ByteArray).size + (⟨#[103, 111, 111, 100]⟩ : ByteArray).size > 9223372036854775807) := by omega
    go_enter Tryd.func39, Tryd.ntmps39
    go_wp2_with fail
    refine (HJ.out _ _ (Array.size_push _) (tab_step HP.out (balloc (Below.refl _ _) _))).mono ?_
    rintro e w1 ⟨rfl, hb1⟩
    have HB1 := Hid.in_ (bstep (balloc (balloc (Below.refl w.heap.size w) _) _) hb1)
    have HP1 := Hid.in_ (tab_step HP.out HB1.out)
    clear hb1
    go_wp2_with fail
    refine (HD.out _ HP1.out).mono ?_
    rintro e w2 ⟨rfl, hb2⟩
    have HB2 := Hid.in_ (bstep HB1.out hb2)
    clear hb2
    go_wp2
    go_ret
    exact ⟨ret_strD HT.out.symm, HB2.out⟩
  · have z7 : (⟨#[98, 97, 100, 45, 105, 100]⟩ : ByteArray).size = 6 := rfl
    have no4 : ¬ ((J ++ ⟨#[32]⟩ ++ D ++ ⟨#[32]⟩ : ByteArray).size + (⟨#[98, 97, 100, 45, 105, 100]⟩ : ByteArray).size > 9223372036854775807) := by omega
    go_enter Tryd.func39, Tryd.ntmps39
    go_wp2_with fail
    refine (HJ.out _ _ (Array.size_push _) (tab_step HP.out (balloc (Below.refl _ _) _))).mono ?_
    rintro e w1 ⟨rfl, hb1⟩
    have HB1 := Hid.in_ (bstep (balloc (balloc (Below.refl w.heap.size w) _) _) hb1)
    have HP1 := Hid.in_ (tab_step HP.out HB1.out)
    clear hb1
    go_wp2_with fail
    refine (HD.out _ HP1.out).mono ?_
    rintro e w2 ⟨rfl, hb2⟩
    have HB2 := Hid.in_ (bstep HB1.out hb2)
    clear hb2
    go_wp2
    go_ret
    exact ⟨ret_strD HT.out.symm, HB2.out⟩
  · have z7 : (⟨#[98, 97, 100, 45, 100, 97, 116, 97]⟩ : ByteArray).size = 8 := rfl
    have no4 : ¬ ((J ++ ⟨#[32]⟩ ++ D ++ ⟨#[32]⟩ : ByteArray).size + (⟨#[98, 97, 100, 45, 100, 97, 116, 97]⟩ : ByteArray).size > 9223372036854775807) := by omega
    go_enter Tryd.func39, Tryd.ntmps39
    go_wp2_with fail
    refine (HJ.out _ _ (Array.size_push _) (tab_step HP.out (balloc (Below.refl _ _) _))).mono ?_
    rintro e w1 ⟨rfl, hb1⟩
    have HB1 := Hid.in_ (bstep (balloc (balloc (Below.refl w.heap.size w) _) _) hb1)
    have HP1 := Hid.in_ (tab_step HP.out HB1.out)
    clear hb1
    go_wp2_with fail
    refine (HD.out _ HP1.out).mono ?_
    rintro e w2 ⟨rfl, hb2⟩
    have HB2 := Hid.in_ (bstep HB1.out hb2)
    clear hb2
    go_wp2
    go_ret
    exact ⟨ret_strD HT.out.symm, HB2.out⟩
  · have z7 : (⟨#[110, 111, 45, 100, 97, 116, 97]⟩ : ByteArray).size = 7 := rfl
    have no4 : ¬ ((J ++ ⟨#[32]⟩ ++ D ++ ⟨#[32]⟩ : ByteArray).size + (⟨#[110, 111, 45, 100, 97, 116, 97]⟩ : ByteArray).size > 9223372036854775807) := by omega
    go_enter Tryd.func39, Tryd.ntmps39
    go_wp2_with fail
    refine (HJ.out _ _ (Array.size_push _) (tab_step HP.out (balloc (Below.refl _ _) _))).mono ?_
    rintro e w1 ⟨rfl, hb1⟩
    have HB1 := Hid.in_ (bstep (balloc (balloc (Below.refl w.heap.size w) _) _) hb1)
    have HP1 := Hid.in_ (tab_step HP.out HB1.out)
    clear hb1
    go_wp2_with fail
    refine (HD.out _ HP1.out).mono ?_
    rintro e w2 ⟨rfl, hb2⟩
    have HB2 := Hid.in_ (bstep HB1.out hb2)
    clear hb2
    go_wp2
    go_ret
    exact ⟨ret_strD HT.out.symm, HB2.out⟩
  · have z7 : (⟨#[119, 101, 97, 107]⟩ : ByteArray).size = 4 := rfl
    have no4 : ¬ ((J ++ ⟨#[32]⟩ ++ D ++ ⟨#[32]⟩ : ByteArray).size + (⟨#[119, 101, 97, 107]⟩ : ByteArray).size > 9223372036854775807) := by omega
    go_enter Tryd.func39, Tryd.ntmps39
    go_wp2_with fail
    refine (HJ.out _ _ (Array.size_push _) (tab_step HP.out (balloc (Below.refl _ _) _))).mono ?_
    rintro e w1 ⟨rfl, hb1⟩
    have HB1 := Hid.in_ (bstep (balloc (balloc (Below.refl w.heap.size w) _) _) hb1)
    have HP1 := Hid.in_ (tab_step HP.out HB1.out)
    clear hb1
    go_wp2_with fail
    refine (HD.out _ HP1.out).mono ?_
    rintro e w2 ⟨rfl, hb2⟩
    have HB2 := Hid.in_ (bstep HB1.out hb2)
    clear hb2
    go_wp2
    go_ret
    exact ⟨ret_strD HT.out.symm, HB2.out⟩
end Go.Proofs.YtklaakhdpfgffaaDoor
