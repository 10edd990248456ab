/- 'SpecFeatures' of the program and of the reference: the features of a track as it is described. -/
import Derived.Test.YtlelgpknkgjaeaaSecF
import Derived.Test.YtlelgpknkgjaeaaVTrack
import Derived.Test.YtlelgpknkgjaeaaMkS
namespace Go.Proofs.Ytlelgpknkgjaeaa
open Go.ChangeShapes Go.WideShapes Go.ChangeAt Go.RowKit
set_option linter.unusedVariables false
set_option linter.unusedSimpArgs false
set_option maxRecDepth 4000

def trkCode (f g : Int) (l : List SecR) (cy hd : Int) : Int :=
  if validTrack f g l = false then 1 else if (inB cy 0 255 && inB hd 0 255) = false then 2 else 0
def fndOf (r : SecR) : FndR := ⟨r.c, r.h, r.n, r.s, ByteArray.empty, if r.y = true then 2 else if r.z = true then 3 else 1, r.x, 0⟩
def fndsTo (l : List SecR) (k : Nat) : List FndR := (l.take k).map fndOf
theorem fndsTo_next {l : List SecR} {k : Nat} {m : SecR} (h : l[k]? = some m) : fndsTo l (k + 1) = fndsTo l k ++ [fndOf m] := by
  unfold fndsTo
  rw [take_snoc l k m h, List.map_append]
  rfl
theorem fndsTo_len (l : List SecR) (k : Nat) : (fndsTo l k).length ≤ k := by
  unfold fndsTo
  rw [List.length_map, List.length_take]
  omega
theorem fndsTo_all {l : List SecR} {n : Nat} (h : l.length = n) : (fndsTo l n).length = n := by
  unfold fndsTo
  rw [List.length_map, List.length_take]
  omega
theorem fnd_cells {l : List FndR} {m : SecR} {c h n s t : Int} {x : Bool} (e0 : m.c = c) (e1 : m.h = h) (e2 : m.n = n) (e3 : m.s = s) (e5 : m.x = x) (e6 : (if m.y = true then (2 : Int) else if m.z = true then 3 else 1) = t) :
    l.flatMap FndR.cells ++ [.int .i64 c, .int .i64 h, .int .i64 n, .int .i64 s, .string ByteArray.empty, .int .i64 t, .bool x, .int .i64 0] = (l ++ [fndOf m]).flatMap FndR.cells := by
  subst e0 e1 e2 e3 e5 e6
  exact (flat_snoc l (fndOf m)).symm
theorem cells8b {w : World} {g : Nat} {a0 a1 a2 a3 a4 a5 a6 a7 : Value} {t : TypeId} (hg : g = w.heap.size) : ∀ j u, ([a0, a1, a2, a3, a4, a5, a6, a7] : List Value)[j]? = some u → (w.alloc (.cells #[a0, a1, a2, a3, a4, a5, a6, a7] t)).cell? ((⟨g, 0, none⟩ : Addr).add j) = some u := fun j u hu => by
  subst hg
  rw [addr_add, Nat.zero_add]
  exact Box.new w [a0, a1, a2, a3, a4, a5, a6, a7] t j u hu
def spcfR (f g : Int) (l : List SecR) (cy hd : Int) : List FeatR × Int :=
  if trkCode f g l cy hd = 0 then (featsTo (fndsTo l l.length) cy hd l.length, 0) else ([], trkCode f g l cy hd)
theorem spcf_no {f g cy hd : Int} {l : List SecR} {c : Int} (h : trkCode f g l cy hd = c) (hc : c ≠ 0) : spcfR f g l cy hd = ([], c) := by
  unfold spcfR
  rw [h, if_neg hc]
theorem spcf_ok {f g cy hd : Int} {l : List SecR} {n : Nat} (hl : l.length = n) (h : trkCode f g l cy hd = 0) : spcfR f g l cy hd = (featsTo (fndsTo l n) cy hd n, 0) := by
  unfold spcfR
  rw [h, if_pos rfl, hl]
theorem code1 {f g cy hd : Int} {l : List SecR} (h : validTrack f g l = false) : trkCode f g l cy hd = 1 := if_pos h
theorem code2 {f g cy hd : Int} {l : List SecR} (h : validTrack f g l = true) (h2 : (inB cy 0 255 && inB hd 0 255) = false) : trkCode f g l cy hd = 2 := by
  unfold trkCode
  rw [if_neg (by rw [h]; decide), if_pos h2]
theorem code0 {f g cy hd : Int} {l : List SecR} (h : validTrack f g l = true) (h2 : (inB cy 0 255 && inB hd 0 255) = true) : trkCode f g l cy hd = 0 := by
  unfold trkCode
  rw [if_neg (by rw [h]; decide), if_neg (by rw [h2]; decide)]
theorem track_len {f g : Int} {l : List SecR} (h : validTrack f g l = true) : l.length ≤ 8 := by
  unfold validTrack at h
  simp only [Bool.and_eq_true, decide_eq_true_eq] at h
  exact h.2.2.1
theorem trk_valid {f g cy hd : Int} {l : List SecR} (h : trkCode f g l cy hd = 0) : validTrack f g l = true := by
  cases hv : validTrack f g l
  · rw [code1 hv] at h
    exact absurd h (by decide)
  · rfl
theorem spcfR_len (f g : Int) (l : List SecR) (cy hd : Int) : (spcfR f g l cy hd).1.length ≤ 40 := by
  unfold spcfR
  split
  · rename_i h
    have h1 := track_len (trk_valid h)
    have := featsTo_len (fndsTo l l.length) cy hd l.length
    show (featsTo (fndsTo l l.length) cy hd l.length).length ≤ 40
    omega
  · exact Nat.zero_le _
set_option maxHeartbeats 1000000 in
theorem impl_checkTrack (f g cy hd : Int) {v : Value} {n b0 : Nat} {l : List SecR} (w : World) (h : w.ownsRow b0 85 8 v n (l.flatMap SecR.cells)) (hd0 : ∀ x ∈ l, x.d.size ≤ 1048576) :
    Calls Try.prog 60 #[.agg #[.int .i64 f, .int .i64 g, v], .int .i64 cy, .int .i64 hd] w fun e w' => e = .returned (.int .i64 (trkCode f g l cy hd)) ∧ Below w.heap.size w w' := by
  have hal := balloc (Below.refl w.heap.size w) (.cells #[.int .i64 f, .int .i64 g, v] 44)
  have HVT := Hid.in_ (impl_ValidTrackSpec f g (w.alloc (.cells #[.int .i64 f, .int .i64 g, v] 44)) (ostep hal h) hd0)
  have HB0 := Hid.in_ hal
  obtain ⟨A, c, rfl, _, _, _⟩ := own_shape h
  clear hal h
  cases hv : validTrack f g l
  · rw [hv] at HVT
    have HV := Hid.in_ (code1 (cy := cy) (hd := hd) hv)
    clear hv
    go_enter Try.func60, Try.ntmps60
    go_wp2_with fail
    refine HVT.out.mono ?_
    rintro e w1 ⟨rfl, hb1⟩
    go_wp2
    go_ret
    exact ⟨ret_int HV.out.symm, bstep HB0.out hb1⟩
  · rw [hv] at HVT
    have HVV := Hid.in_ hv
    clear hv
    cases h1 : inB cy 0 255
    · have HV := Hid.in_ (code2 (cy := cy) (hd := hd) HVV.out (by rw [h1]; rfl))
      go_enter Try.func60, Try.ntmps60
      go_wp2_with fail
      refine HVT.out.mono ?_
      rintro e w1 ⟨rfl, hb1⟩
      go_wp2_with (go_at_call 87; refine (bool_is (impl_isByte _ _) (by assumption)).mono ?_; rintro e w' ⟨rfl, rfl⟩)
      go_ret
      exact ⟨ret_int HV.out.symm, bstep HB0.out hb1⟩
    · cases h2 : inB hd 0 255
      · have HV := Hid.in_ (code2 (cy := cy) (hd := hd) HVV.out (by rw [h1, h2]; rfl))
        go_enter Try.func60, Try.ntmps60
        go_wp2_with fail
        refine HVT.out.mono ?_
        rintro e w1 ⟨rfl, hb1⟩
        go_wp2_with (go_at_call 87; refine (bool_is (impl_isByte _ _) (by assumption)).mono ?_; rintro e w' ⟨rfl, rfl⟩)
        go_ret
        exact ⟨ret_int HV.out.symm, bstep HB0.out hb1⟩
      · have HV := Hid.in_ (code0 (cy := cy) (hd := hd) HVV.out (by rw [h1, h2]; rfl))
        go_enter Try.func60, Try.ntmps60
        go_wp2_with fail
        refine HVT.out.mono ?_
        rintro e w1 ⟨rfl, hb1⟩
        go_wp2_with (go_at_call 87; refine (bool_is (impl_isByte _ _) (by assumption)).mono ?_; rintro e w' ⟨rfl, rfl⟩)
        go_ret
        exact ⟨ret_int HV.out.symm, bstep HB0.out hb1⟩
end Go.Proofs.Ytlelgpknkgjaeaa
