/- 'IdField' and 'DataField' of the program and of the reference. -/
import Derived.Test.YtomfagckcfmfjaaField
import Derived.Test.YtomfagckcfmfjaaRec1
import Derived.BigRegion
import Derived.Deep.RegionWith
import Derived.Deep.DeepCutAuto
namespace Go.Proofs.Ytomfagckcfmfjaa
open Go.ChangeShapes Go.WideShapes Go.ChangeAt Go.RowKit
set_option linter.unusedSimpArgs false
set_option linter.unusedVariables false
set_option maxRecDepth 4000

theorem conv_litD {w : World} {cs : List UInt8} {vs : Array Value} {n : Nat} (hn : vs.size = n) (h : vs.toList = Lib.byteCells cs) (hm : n ≤ maxLen) :
    (convert 126 9 (.slice (some ⟨w.heap.size, 0, none⟩) n n)).run Try.prog (w.alloc (.cells vs 5)).drew = .ok (.string ⟨cs.toArray⟩) (w.alloc (.cells vs 5)).drew := by
  have := own_drewN (World.ownsRow_lit (base := w.heap.size) (size := 1) (e := 5) w vs n (Nat.le_refl _) hm (by omega)) 1
  rw [h] at this
  exact conv_own Try.underlying126 Try.underlying5 Try.underlying9 this
theorem alloc_sz' (w : World) (o : Obj) : (w.alloc o).heap.size = w.heap.size + 1 := by unfold World.alloc; exact Array.size_push _
theorem id4_size (c h n s : Int) : (UInt8.ofNat c.toNat :: [UInt8.ofNat h.toNat, UInt8.ofNat n.toNat, UInt8.ofNat s.toNat]).length = 4 := rfl
def id4 (c h n s : Int) : ByteArray := ⟨[UInt8.ofNat c.toNat, UInt8.ofNat h.toNat, UInt8.ofNat n.toNat, UInt8.ofNat s.toNat].toArray⟩
theorem id4_cells {c h n s : Int} (hc : 0 ≤ c ∧ c ≤ 255) (hh : 0 ≤ h ∧ h ≤ 255) (hn : 0 ≤ n ∧ n ≤ 255) (hs : 0 ≤ s ∧ s ≤ 255) :
    (#[Value.int .u8 c, Value.int .u8 h, Value.int .u8 n, Value.int .u8 s] : Array Value).toList = Lib.byteCells [UInt8.ofNat c.toNat, UInt8.ofNat h.toNat, UInt8.ofNat n.toNat, UInt8.ofNat s.toNat] := by
  show [Value.int .u8 c, Value.int .u8 h, Value.int .u8 n, Value.int .u8 s] = [Value.int .u8 ((UInt8.ofNat c.toNat).toNat : Int), Value.int .u8 ((UInt8.ofNat h.toNat).toNat : Int), Value.int .u8 ((UInt8.ofNat n.toNat).toNat : Int), Value.int .u8 ((UInt8.ofNat s.toNat).toNat : Int)]
  rw [← u8_val hc.1 hc.2, ← u8_val hh.1 hh.2, ← u8_val hn.1 hn.2, ← u8_val hs.1 hs.2]
theorem inB_le' {x a b : Int} (h : inB x a b = true) : a ≤ x ∧ x ≤ b := by
  unfold inB at h
  simp at h
  exact h
theorem valid_in {c h n s : Int} {len : Nat} (hv : validSector c h n s len = true) : (0 ≤ c ∧ c ≤ 255) ∧ (0 ≤ h ∧ h ≤ 255) ∧ (0 ≤ n ∧ n ≤ 255) ∧ (0 ≤ s ∧ s ≤ 255) := by
  unfold validSector at hv
  simp only [Bool.and_eq_true] at hv
  have h1 := inB_le' hv.1.1.1.1
  have h2 := inB_le' hv.1.1.1.2
  have h3 := inB_le' hv.1.1.2
  have h4 := inB_le' hv.1.2
  exact ⟨h1, h2, h3, by omega, by omega⟩
set_option maxHeartbeats 1000000 in
theorem impl_idBytes (c h n s : Int) (d : ByteArray) (x y z : Bool) (w : World) (hc : 0 ≤ c ∧ c ≤ 255) (hh : 0 ≤ h ∧ h ≤ 255) (hn : 0 ≤ n ∧ n ≤ 255) (hs : 0 ≤ s ∧ s ≤ 255) :
    Calls Try.prog 86 #[.agg #[.int .i64 c, .int .i64 h, .int .i64 n, .int .i64 s, .string d, .bool x, .bool y, .bool z]] w fun e w' => e = .returned (.string (id4 c h n s)) ∧ Below w.heap.size w w' := by
  obtain ⟨wb, hwb⟩ : ∃ wb, w.alloc (.cells #[.int .i64 c, .int .i64 h, .int .i64 n, .int .i64 s, .string d, .bool x, .bool y, .bool z] 52) = wb := ⟨_, rfl⟩
  have HB := Hid.in_ (show Below w.heap.size w wb by rw [← hwb]; exact balloc (Below.refl _ _) _)
  have hcv := conv_lit (n := 4) (w := wb) rfl (id4_cells hc hh hn hs) (by decide)
  change _ = Result.ok (Value.string (id4 c h n s)) _ at hcv
  generalize id4 c h n s = I at *
  rw [← hwb] at hcv HB
  rw [alloc_sz'] at hcv
  clear hwb
  obtain ⟨hc0, hc1⟩ := hc
  obtain ⟨hh0, hh1⟩ := hh
  obtain ⟨hn0, hn1⟩ := hn
  obtain ⟨hs0, hs1⟩ := hs
  go_enter Try.func86, Try.ntmps86
  go_wp2
  go_ret
  exact ⟨rfl, balloc HB.out _⟩
set_option maxHeartbeats 4000000 in
theorem spec_l08Id {c h n s : Int} {d : ByteArray} {x y z : Bool} {b : Nat} (f : Int) (w : World) (hf : inB f 1 3 = true) (hc : 0 ≤ c ∧ c ≤ 255) (hh : 0 ≤ h ∧ h ≤ 255) (hn : 0 ≤ n ∧ n ≤ 255) (hs : 0 ≤ s ∧ s ≤ 255)
    (hB : Box w b [.int .i64 c, .int .i64 h, .int .i64 n, .int .i64 s, .string d, .bool x, .bool y, .bool z]) :
    Calls Try.prog 82 #[.int .i64 f, .pointer (some ⟨b, 0, none⟩)] w fun e w' => e = .returned (.string (fieldS f 1 (id4 c h n s) y)) ∧ Below w.heap.size w w' := by
  have HX := Hid.in_ hB
  have HF := Hid.in_ hf
  have HI := Hid.in_ (id4_cells hc hh hn hs)
  obtain ⟨c0, c1, c2, c3, c4, c5, c6, c7⟩ := box8 HX.out
  have hcv := conv_litD (n := 4) (w := w) rfl HI.out (by decide)
  change _ = Result.ok (Value.string (id4 c h n s)) _ at hcv
  have HBB := Hid.in_ ((balloc (Below.refl w.heap.size w) (.cells #[.int .u8 c, .int .u8 h, .int .u8 n, .int .u8 s] 5)).drew)
  obtain ⟨hc0, hc1⟩ := hc
  obtain ⟨hh0, hh1⟩ := hh
  obtain ⟨hn0, hn1⟩ := hn
  obtain ⟨hs0, hs1⟩ := hs
  clear hB hf
  go_enter Try.func82, Try.ntmps82
  go_upto_region 1 with fail
  go_cut [5] (fun s5 wx => s5 = .string (id4 c h n s) ∧ Hid (Below w.heap.size w wx))
  case first =>
    go_region
    go_wp2_with fail
    go_meet
    exact ⟨rfl, HBB.out⟩
  case rest =>
    obtain ⟨rfl, HBx⟩ := hcut
    have HX2 := Hid.in_ (HX.out.step HBx.out)
    clear c0 c1 c2 c3 c4 c5 c6 c7 hcv
    obtain ⟨c0, c1, c2, c3, c4, c5, c6, c7⟩ := box8 HX2.out
    have hsz : (id4 c h n s).size = 4 := rfl
    have HR : Hid (fieldS f 1 (id4 c h n s) y = id4 c h n s ++ wordS (sumP (prefixS f 1) (id4 c h n s) y)) := rfl
    go_upto_region 2 with fail
    go_region_with (first
      | (go_at_call 113; refine (spec_l08Prefix f 1 _ HF.out (by decide)).mono ?_; rintro e w1 ⟨rfl, hb1⟩; have hb1' := ((Below.refl wc.heap.size wc).drew).trans hb1; obtain ⟨d0, d1, d2, d3, d4, d5, d6, d7⟩ := box8 (HX2.out.step hb1'))
      | (go_at_call 112; refine (spec_l08Sum _ _ _ _ (prefixS_size _ _) (by omega)).mono ?_; rintro e w2 ⟨rfl, hb2⟩; have hb2' := hb1'.trans (hb2.mono hb1'.size)))
    all_goals
      go_wp2
      go_ret
      exact ⟨ret_str' HR.out.symm, HBx.out.trans (hb2'.mono HBx.out.size)⟩
def idOk (f : Int) (c h n s : Int) (len : Nat) : Bool := inB f 1 3 && validSector c h n s len
def idV (f c h n s : Int) (d : ByteArray) (y : Bool) : ByteArray := if idOk f c h n s d.size = true then fieldS f 1 (id4 c h n s) y else ⟨#[]⟩
theorem id_cases (f c h n s : Int) (d : ByteArray) (y : Bool) :
    (inB f 1 3 = false ∧ Hid (idOk f c h n s d.size = false ∧ idV f c h n s d y = ⟨#[]⟩)) ∨
    (inB f 1 3 = true ∧ validSector c h n s d.size = false ∧ Hid (idOk f c h n s d.size = false ∧ idV f c h n s d y = ⟨#[]⟩)) ∨
    (inB f 1 3 = true ∧ validSector c h n s d.size = true ∧ Hid (idOk f c h n s d.size = true ∧ idV f c h n s d y = fieldS f 1 (id4 c h n s) y)) := by
  unfold Hid idV idOk
  cases inB f 1 3 <;> cases validSector c h n s d.size <;> simp
theorem ret2_sb' {a b : ByteArray} {x y : Bool} (h : a = b) (k : x = y) : Ending.returned (.tuple #[.string a, .bool x]) = .returned (.tuple #[.string b, .bool y]) := by rw [h, k]
set_option maxHeartbeats 1000000 in
theorem spec_IdField (f c h n s : Int) (d : ByteArray) (x y z : Bool) (w : World) (hd : d.size ≤ 1048576) :
    Calls Try.prog 31 #[.int .i64 f, .agg #[.int .i64 c, .int .i64 h, .int .i64 n, .int .i64 s, .string d, .bool x, .bool y, .bool z]] w fun e w' => e = .returned (.tuple #[.string (idV f c h n s d y), .bool (idOk f c h n s d.size)]) ∧ Below w.heap.size w w' := by
  have hB := Hid.in_ (Box.new w [.int .i64 c, .int .i64 h, .int .i64 n, .int .i64 s, .string d, .bool x, .bool y, .bool z] 52)
  have HB0 := Hid.in_ (balloc (Below.refl w.heap.size w) (.cells #[.int .i64 c, .int .i64 h, .int .i64 n, .int .i64 s, .string d, .bool x, .bool y, .bool z] 52))
  obtain ⟨h1, HV⟩ | ⟨h1, h2, HV⟩ | ⟨h1, h2, HV⟩ := id_cases f c h n s d y
  · go_enter Try.func31, Try.ntmps31
    go_wp2_with (go_at_call 80; refine (bool_is (spec_l07Format _ _) (by assumption)).mono ?_; rintro e w' ⟨rfl, rfl⟩)
    go_ret2
    exact ⟨ret2_sb' HV.out.2.symm HV.out.1.symm, HB0.out⟩
  · go_enter Try.func31, Try.ntmps31
    go_wp2_with (first | (go_at_call 80; refine (bool_is (spec_l07Format _ _) (by assumption)).mono ?_; rintro e w' ⟨rfl, rfl⟩) | (go_at_call 81; refine (spec_l08Sector _ hd hB.out.at0).mono ?_; rw [h2]; rintro e w1 ⟨rfl, q, rfl⟩))
    go_ret2
    exact ⟨ret2_sb' HV.out.2.symm HV.out.1.symm, below_drewN HB0.out _⟩
  · have HW := Hid.in_ (valid_in h2)
    have HF := Hid.in_ h1
    go_enter Try.func31, Try.ntmps31
    go_wp2_with (first | (go_at_call 80; refine (bool_is (spec_l07Format _ _) (by assumption)).mono ?_; rintro e w' ⟨rfl, rfl⟩) | (go_at_call 81; refine (spec_l08Sector _ hd hB.out.at0).mono ?_; rw [h2]; rintro e w1 ⟨rfl, q, rfl⟩) | (go_at_call 82; refine (spec_l08Id f _ HF.out HW.out.1 HW.out.2.1 HW.out.2.2.1 HW.out.2.2.2 (Box.step (below_drewN (Below.refl _ _) q) hB.out)).mono ?_; rintro e w2 ⟨rfl, hb2⟩))
    go_ret2
    exact ⟨ret2_sb' HV.out.2.symm HV.out.1.symm, bstep (below_drewN HB0.out _) hb2⟩
set_option maxHeartbeats 2000000 in
theorem impl_IdField (f c h n s : Int) (d : ByteArray) (x y z : Bool) (w : World) (hd : d.size ≤ 1048576) :
    Calls Try.prog 33 #[.int .i64 f, .agg #[.int .i64 c, .int .i64 h, .int .i64 n, .int .i64 s, .string d, .bool x, .bool y, .bool z]] w fun e w' => e = .returned (.tuple #[.string (idV f c h n s d y), .bool (idOk f c h n s d.size)]) ∧ Below w.heap.size w w' := by
  have hB := Hid.in_ (Box.new w [.int .i64 c, .int .i64 h, .int .i64 n, .int .i64 s, .string d, .bool x, .bool y, .bool z] 52)
  have HB0 := Hid.in_ (balloc (Below.refl w.heap.size w) (.cells #[.int .i64 c, .int .i64 h, .int .i64 n, .int .i64 s, .string d, .bool x, .bool y, .bool z] 52))
  obtain ⟨h1, HV⟩ | ⟨h1, h2, HV⟩ | ⟨h1, h2, HV⟩ := id_cases f c h n s d y
  · go_enter Try.func33, Try.ntmps33
    go_wp2_with (go_at_call 83; refine (bool_is (impl_isFormat _ _) (by assumption)).mono ?_; rintro e w' ⟨rfl, rfl⟩)
    go_ret2
    exact ⟨ret2_sb' HV.out.2.symm HV.out.1.symm, HB0.out⟩
  · go_enter Try.func33, Try.ntmps33
    go_wp2_with (first | (go_at_call 83; refine (bool_is (impl_isFormat _ _) (by assumption)).mono ?_; rintro e w' ⟨rfl, rfl⟩) | (go_at_call 84; refine (impl_ValidSectorSpec _ _ _ _ _ _ _ _ _ hd).mono ?_; rw [h2]; rintro e w1 ⟨rfl, hb1⟩))
    go_ret2
    exact ⟨ret2_sb' HV.out.2.symm HV.out.1.symm, bstep HB0.out hb1⟩
  · have HW := Hid.in_ (valid_in h2)
    have HF := Hid.in_ h1
    go_enter Try.func33, Try.ntmps33
    go_wp2_with (first | (go_at_call 83; refine (bool_is (impl_isFormat _ _) (by assumption)).mono ?_; rintro e w' ⟨rfl, rfl⟩) | (go_at_call 84; refine (impl_ValidSectorSpec _ _ _ _ _ _ _ _ _ hd).mono ?_; rw [h2]; rintro e w1 ⟨rfl, hb1⟩))
    have HB1 := Hid.in_ (bstep HB0.out hb1)
    have HX1 := Hid.in_ (Box.step hb1 hB.out)
    obtain ⟨c0, c1, c2, c3, c4, c5, c6, c7⟩ := box8 HX1.out
    have hsz : (id4 c h n s).size = 4 := rfl
    go_upto_region 3 with fail
    go_region_with (first
      | (go_at_call 86; refine (impl_idBytes c h n s d x y z _ HW.out.1 HW.out.2.1 HW.out.2.2.1 HW.out.2.2.2).mono ?_; rintro e w2 ⟨rfl, hb2⟩; have hb2' := ((Below.refl w1.heap.size w1).drew).trans hb2; obtain ⟨d0, d1, d2, d3, d4, d5, d6, d7⟩ := box8 (HX1.out.step hb2'))
      | (go_at_call 85; refine (impl_checkedField f 1 (id4 c h n s) _ _ HF.out (by decide) (by omega)).mono ?_; rintro e w3 ⟨rfl, hb3⟩; have hb3' := hb2'.trans (hb3.mono hb2'.size)))
    all_goals
      go_wp2
      go_ret2
      exact ⟨ret2_sb' HV.out.2.symm HV.out.1.symm, bstep HB1.out hb3'⟩
end Go.Proofs.Ytomfagckcfmfjaa
