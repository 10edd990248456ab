/- 'FnExactVoteBytes': for every input the law returns true, and each argument reads behind the call as it read before. No condition. -/
import Derived.Test.YtlelgpknkgjaeaaLaw
import Derived.Test.YtlelgpknkgjaeaaVoteB
import Derived.Test.YtlelgpknkgjaeaaMarkT
import Derived.Test.YtlelgpknkgjaeaaRows
namespace Go.Proofs.Ytlelgpknkgjaeaa
open Go.ChangeShapes Go.WideShapes Go.ChangeAt Go.RowKit
open Go.ChangeMaps (open_string shut_string)
set_option linter.unusedVariables false
theorem own_apart_r {w1 w2 : World} {b1 b2 : Nat} {e1 e2 : TypeId} {s1 s2 n1 n2 : Nat} {v1 v2 : Value} {xs1 xs2 : List Value} (h1 : w1.ownsRow b1 e1 s1 v1 n1 xs1) (h2 : w2.ownsRow b2 e2 s2 v2 n2 xs2) (hb : w1.heap.size ≤ b2) :
    v2.ownBlock = none ∨ v2.ownBlock ≠ v1.ownBlock := by
  cases h : v2.ownBlock with
  | none => exact .inl rfl
  | some g =>
    refine .inr fun he => ?_
    have := (h2.lt g h).1
    have := (h1.lt g he.symm).2
    omega
set_option maxHeartbeats 2000000 in
theorem FnExactVoteBytes_walk (A0 : Option Addr) (cap0 : Nat) (l0 : List ByteArray) (w : World) (s0 : ArgS w A0 l0.length cap0 1 (Strs l0)) (k0 : ∀ r ∈ l0, r.size ≤ maxLen) :
    Calls Try.prog 3 #[.slice A0 l0.length cap0] w fun e w' => e = .returned (.bool true) ∧ Below w.heap.size w w' := by
  obtain ⟨n, hn⟩ : ∃ n, l0.length = n := ⟨_, rfl⟩
  rw [hn] at s0 ⊢
  have HN := Hid.in_ hn
  have HS := Hid.in_ s0
  have HK := Hid.in_ k0
  have hle := voteW_len l0
  have hne : ¬ ((1 : Int) + ((voteW l0).length : Int) < 0) := by omega
  have hne2 : ¬ ((1 : Int) + (n : Int) < 0) := by omega
  clear s0 k0 hn
  go_enter Try.func3, Try.ntmps3
  go_wp2_with fail
  refine (laws_szStringS _ _ HS.out HN.out HK.out (by omega) (by omega)).mono ?_
  rintro e w1 ⟨rfl | ⟨r, rfl, hr0, hr1, hr2⟩, hb1⟩
  · go_wp2
    go_ret
    exact ⟨rfl, hb1⟩
  have HZ := Hid.in_ (show ∀ s ∈ l0, s.size ≤ 1048576 from fun s hs => by have := hr2 s hs; omega)
  have hn2 : n ≤ 1048576 := by omega
  obtain ⟨X, hX⟩ : ∃ X, voteV l0 = X := ⟨_, rfl⟩
  obtain ⟨B, hB⟩ : ∃ B, okVote l0 = B := ⟨_, rfl⟩
  have HSP := Hid.in_ (fun (w : World) (v : Value) (b : Nat) (ho : w.ownsRow b 9 1 v n (Strs l0)) => show Calls Try.prog 9 #[v] w fun e w' => ∃ v', e = .returned (.tuple #[.string X, v', .bool B]) ∧ w'.ownsRow w.heap.size 2 1 v' (voteW l0).length (I64 (voteW l0)) ∧ Below w.heap.size w w' from
    (spec_VoteBytes w ho HZ.out hn2).mono fun e w' ⟨v', he, ho, hb⟩ => ⟨v', by rw [he]; unfold voteE; rw [hX, hB], ho, hb⟩)
  have HIM := Hid.in_ (fun (w : World) (v : Value) (b : Nat) (ho : w.ownsRow b 9 1 v n (Strs l0)) => show Calls Try.prog 11 #[v] w fun e w' => ∃ v', e = .returned (.tuple #[.string X, v', .bool B]) ∧ w'.ownsRow w.heap.size 2 1 v' (voteW l0).length (I64 (voteW l0)) ∧ Below w.heap.size w w' from
    (impl_VoteBytes w ho HZ.out hn2).mono fun e w' ⟨v', he, ho, hb⟩ => ⟨v', by rw [he]; unfold voteE; rw [hX, hB], ho, hb⟩)
  clear hX hB
  have HS1 := Hid.in_ (HS.out.below hb1)
  go_wp2_with fail
  refine (laws_toStringS _ HS1.out HN.out hn2).mono ?_
  rintro e w2 ⟨v2, rfl, ho2, hb2⟩
  have hB2 := bstep hb1 hb2
  go_wp2_with fail
  refine (HSP.out _ _ _ ho2).mono ?_
  rintro e w3 ⟨v3, rfl, ho3, hb3⟩
  have hB3 := bstep hB2 hb3
  have HS3 := Hid.in_ (HS.out.below hB3)
  go_wp2_with fail
  refine (laws_toStringS _ HS3.out HN.out hn2).mono ?_
  rintro e w4 ⟨v4, rfl, ho4, hb4⟩
  have hB4 := bstep hB3 hb4
  go_wp2_with fail
  refine (HIM.out _ _ _ ho4).mono ?_
  rintro e w5 ⟨v5, rfl, ho5, hb5⟩
  have hB5 := bstep hB4 hb5
  go_wp2_with fail
  refine (laws_eqInt64S _ ho5 (ostep hb5 (ostep hb4 ho3))).mono ?_
  rintro e w6 ⟨rfl, hb6⟩
  have hB6 := bstep hB5 hb6
  have HS6 := Hid.in_ (HS.out.below hB6)
  go_wp2_with fail
  refine (laws_toStringS _ HS6.out HN.out hn2).mono ?_
  rintro e w7 ⟨v7, rfl, ho7, hb7⟩
  have hB7 := bstep hB6 hb7
  go_wp2_with fail
  refine (laws_eqStringS _ (ostep hb7 (ostep hb6 (ostep hb5 ho4))) ho7).mono ?_
  rintro e w8 ⟨rfl, hb8⟩
  have hB8 := bstep hB7 hb8
  have x8 := ostep hb8 (ostep hb7 (ostep hb6 (ostep hb5 ho4)))
  have p8 := ostep hb8 (ostep hb7 (ostep hb6 (ostep hb5 (ostep hb4 ho3))))
  have q8 := ostep hb8 (ostep hb7 (ostep hb6 ho5))
  go_wp2_with fail
  refine (laws_markStringS 1 _ x8 (by omega) (by omega) hn2).mono ?_
  rintro e w9 ⟨rfl, ho9, hg9⟩
  have hB9 := bgrown hB8 x8 hB3.size hg9
  have p9 := p8.kept hg9 (own_apart ho3 ho4 (Nat.le_refl _))
  have q9 := q8.kept hg9 (own_apart_r ho4 ho5 (Nat.le_refl _))
  clear x8 p8 q8
  go_wp2_with fail
  refine (laws_eqInt64S _ q9 p9).mono ?_
  rintro e w10 ⟨rfl, hb10⟩
  have hB10 := bstep hB9 hb10
  have p10 := ostep hb10 p9
  have q10 := ostep hb10 q9
  clear p9 q9
  go_wp2_with fail
  refine (laws_markInt64S 1 _ q10 (by omega) (by omega) (by omega)).mono ?_
  rintro e w11 ⟨rfl, ho11, hg11⟩
  have hB11 := bgrown hB10 q10 hB4.size hg11
  have p11 := p10.kept hg11 (own_apart ho3 ho5 hb4.size)
  go_wp2_with fail
  refine (laws_heldInt64S 1 _ ho11 (by omega) (by omega) (by omega)).mono ?_
  rintro e w12 ⟨rfl, rfl⟩
  have HS12 := Hid.in_ (HS.out.below hB11)
  go_wp2_with fail
  refine (laws_toStringS _ HS12.out HN.out hn2).mono ?_
  rintro e w13 ⟨v13, rfl, ho13, hb13⟩
  have hB13 := bstep hB11 hb13
  go_wp2_with fail
  refine (HIM.out _ _ _ ho13).mono ?_
  rintro e w14 ⟨v14, rfl, ho14, hb14⟩
  have hB14 := bstep hB13 hb14
  go_wp2_with fail
  refine (laws_eqInt64S _ ho14 (ostep hb14 (ostep hb13 p11))).mono ?_
  rintro e w15 ⟨rfl, hb15⟩
  have hB15 := bstep hB14 hb15
  go_wp2_with fail
  refine (laws_heldInt64S 1 _ (ostep hb15 (ostep hb14 (ostep hb13 ho11))) (by omega) (by omega) (by omega)).mono ?_
  rintro e w16 ⟨rfl, rfl⟩
  go_wp2
  go_ret
  exact ⟨rfl, hB15⟩

set_option maxRecDepth 100000 in
theorem FnExactVoteBytes_lifted (os : Os) (started : os.Started) (H : Type) (enc : TypeId × Value → H) :
    ReturnsInHanded {} Try.checked os 3 .any (Rows.fnExactVoteBytesSpec.pre6 enc Try.prog Try.f3 Rows.fnExactVoteBytesRow.domain false) (Rows.fnExactVoteBytesSpec.post enc Try.prog Try.f3 false true false false) := by
  refine returnsInHanded_of_change (C := Try.checked) Try.own started (by kernel_rfl) Try.func3
    (ChangeSpec.witness6 (enc := enc) (C := Try.checked) false ⟨#[], #[.slice none 0 0], []⟩ 8 (by kernel_rfl) (by kernel_rfl) (by kernel_rfl) (by kernel_rfl)) ?_
  intro W base args ds gs before hval0 hW hcnd _
  have hval : ∀ (j : Nat) t v, Try.f3.params[j]? = some t → args[j]? = some v → Value.okWide Try.prog W .any base t v := hval0
  have hW' := hW
  obtain ⟨p, q, hA0, hV, hbe, hfz, hnd⟩ := hW
  have hA : DataW.TrodAll enc Try.prog W 0 (fun _ => true) true Try.f3.params.toList args.toList ds p := hA0
  rw [Try.params3] at hA hval
  obtain ⟨v0, vs0, d0, ds0, p0, q0, hargs, rfl, rfl, h0, r0⟩ := trodAll_cons hA
  obtain ⟨rfl, rfl, rfl⟩ := trodAll_nil r0
  obtain rfl : args = #[v0] := by cases args; simp_all
  obtain ⟨rfl, _⟩ := trodVars_none hV
  obtain ⟨A0, cap0, l0, rfl, s0, k0⟩ := slice_Strs (hval 0 22 v0 rfl rfl) h0
  clear hA0 hval0
  refine (FnExactVoteBytes_walk A0 cap0 l0 W s0 k0).mono fun e W' ⟨he, hb⟩ => ?_
  subst he
  exact ⟨_, rfl, law_post Try.laidOut (by kernel_rfl) rfl Try.underlying4 rfl rfl hW' hb⟩

theorem FnExactVoteBytes_over : Rows.fnExactVoteBytesRow.holds Try.pinned (OpenSpec.ofChange Rows.fnExactVoteBytesSpec) :=
  OpenClaim.holds_of_wide 3 Try.f3 rfl rfl rfl rfl rfl rfl rfl ⟨rfl, rfl, rfl, rfl, rfl⟩ rfl rfl rfl rfl rfl (by kernel_rfl) Try.func3 (by kernel_rfl)
    (of_decide_eq_true (by kernel_rfl)) (by unfold Func.isWrapper; first | (rw [if_pos (by decide +kernel)]; kernel_rfl) | (rw [if_neg (by decide +kernel)]; exact ⟨rfl, rfl⟩))
    (fun os started H enc _ => FnExactVoteBytes_lifted os started H enc)

theorem FnExactVoteBytes_proved : Rows.FnExactVoteBytesSaid := FnExactVoteBytes_over
#print axioms FnExactVoteBytes_proved
end Go.Proofs.Ytlelgpknkgjaeaa
