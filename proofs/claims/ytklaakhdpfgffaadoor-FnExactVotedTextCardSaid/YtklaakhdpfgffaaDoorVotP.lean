/- The text of a voted sector: the plain law. -/
import Derived.Test.YtklaakhdpfgffaaDoorFndT
import Derived.Test.YtklaakhdpfgffaaDoorVoted
namespace Go.Proofs.YtklaakhdpfgffaaDoor
open Go.ChangeShapes Go.WideShapes Go.ChangeAt Go.RowKit
set_option linter.unusedSimpArgs false
set_option linter.unusedVariables false
set_option maxRecDepth 4000

theorem riseOk_of {l : List Int} {lo hi : Int} (h : rises l lo hi = true) {k : Nat} (hk : k < l.length) : riseOk l lo hi k = true := by
  unfold rises at h
  rw [List.all_eq_true] at h
  exact h k (List.mem_range.2 hk)
theorem rises_in {l : List Int} {lo hi : Int} (h : rises l lo hi = true) : ∀ x ∈ l, lo ≤ x ∧ x ≤ hi := by
  intro x hx
  obtain ⟨k, hk, rfl⟩ := List.getElem_of_mem hx
  have := riseOk_of h hk
  unfold riseOk at this
  rw [List.getElem?_eq_getElem hk] at this
  simp only [Bool.and_eq_true] at this
  exact inB_t this.1
theorem rises_ge {l : List Int} {hi : Int} (h : rises l 0 hi = true) : ∀ (k : Nat) (hk : k < l.length), (k : Int) ≤ l[k] := by
  intro k
  induction k with
  | zero => exact fun hk => (rises_in h _ (List.getElem_mem hk)).1
  | succ k ih =>
    intro hk
    have h1 := ih (by omega)
    have := riseOk_of h hk
    unfold riseOk at this
    rw [List.getElem?_eq_getElem hk] at this
    simp only [Bool.and_eq_true, Bool.or_eq_true, Nat.add_sub_cancel] at this
    rw [List.getElem?_eq_getElem (by omega : k < l.length)] at this
    obtain ⟨_, h2 | h2⟩ := this
    · simp at h2
    · have := of_decide_eq_true h2
      simp at this
      omega
theorem rises_len {l : List Int} {hi : Int} (h : rises l 0 hi = true) (h0 : -1 ≤ hi) : (l.length : Int) ≤ hi + 1 := by
  rcases Nat.eq_zero_or_pos l.length with hl | hl
  · omega
  · have h1 := rises_ge h (l.length - 1) (by omega)
    have h2 := (rises_in h _ (List.getElem_mem (show l.length - 1 < l.length by omega))).2
    omega
def weakS : ByteArray := ⟨#[32, 119, 101, 97, 107]⟩
def votTo (Hd : ByteArray) (l : List Int) : Nat → ByteArray
  | 0 => Hd
  | k + 1 => (if k = 0 then Hd ++ ⟨#[32, 119, 101, 97, 107]⟩ else votTo Hd l k) ++ (⟨#[32]⟩ ++ decI (l.getD k 0))
theorem toList_app (a b : ByteArray) : (a ++ b).data.toList = a.data.toList ++ b.data.toList := by rw [ByteArray.data_append, Array.toList_append]
theorem votTo_list (Hd : ByteArray) (l : List Int) : ∀ k, k < l.length → (votTo Hd l (k + 1)).data.toList = Hd.data.toList ++ ([32, 119, 101, 97, 107] ++ (l.take (k + 1)).flatMap fun x => 32 :: (decI x).data.toList) := by
  intro k
  induction k with
  | zero =>
    intro hk
    cases l with
    | nil => simp at hk
    | cons x r =>
      unfold votTo
      rw [if_pos rfl, toList_app, toList_app, toList_app]
      simp
  | succ k ih =>
    intro hk
    have e : l.take (k + 1 + 1) = l.take (k + 1) ++ [l.getD (k + 1) 0] := by
      rw [List.take_succ_eq_append_getElem hk]
      congr 2
      rw [List.getD_eq_getElem?_getD, List.getElem?_eq_getElem hk]
      rfl
    rw [e, List.flatMap_append]
    show ((if k + 1 = 0 then Hd ++ ⟨#[32, 119, 101, 97, 107]⟩ else votTo Hd l (k + 1)) ++ (⟨#[32]⟩ ++ decI (l.getD (k + 1) 0))).data.toList = _
    rw [if_neg (by omega), toList_app, toList_app, ih (by omega)]
    simp
theorem flat_join (l : List Int) : l ≠ [] → (l.flatMap fun x => (32 : UInt8) :: (decI x).data.toList) = 32 :: Lib.join ((l.map decI).map (·.data.toList)) [32] := by
  induction l with
  | nil => exact fun h => absurd rfl h
  | cons x r ih =>
    intro _
    cases r with
    | nil => simp [Lib.join]
    | cons y r =>
      rw [List.flatMap_cons, ih (by simp)]
      simp [Lib.join]
theorem votTo_all (Hd : ByteArray) {l : List Int} (h : 0 < l.length) : votTo Hd l l.length = Hd ++ (⟨#[32, 119, 101, 97, 107, 32]⟩ ++ joinS l ⟨#[32]⟩) := by
  apply ByteArray.ext
  apply Array.toList_inj.1
  obtain ⟨k, hk⟩ : ∃ k, l.length = k + 1 := ⟨l.length - 1, by omega⟩
  have := votTo_list Hd l k (by omega)
  rw [← hk, List.take_length, flat_join l (by intro e; rw [e] at h; simp at h)] at this
  rw [this, toList_app, toList_app]
  unfold joinS
  simp
theorem votTo_size (Hd : ByteArray) {l : List Int} (hl : ∀ x ∈ l, 0 ≤ x ∧ x ≤ 31) : ∀ k, k ≤ l.length → (votTo Hd l k).size ≤ Hd.size + 5 + 33 * k := by
  intro k
  induction k with
  | zero => intro _; unfold votTo; omega
  | succ k ih =>
    intro hk
    have h1 := ih (by omega)
    have h2 : (decI (l.getD k 0)).size ≤ 32 := by
      rw [List.getD_eq_getElem?_getD, List.getElem?_eq_getElem (by omega : k < l.length)]
      have := (hl _ (List.getElem_mem (by omega : k < l.length))).2
      have h3 := decS_size (l[k]'(by omega)).toNat
      show (decI (l[k]'(by omega))).size ≤ 32
      unfold decI
      omega
    have h4 : (⟨#[32]⟩ : ByteArray).size = 1 := rfl
    have h5 : (⟨#[32, 119, 101, 97, 107]⟩ : ByteArray).size = 5 := rfl
    unfold votTo
    rw [ByteArray.size_append, ByteArray.size_append]
    by_cases h0 : k = 0
    · rw [if_pos h0, ByteArray.size_append]
      omega
    · rw [if_neg h0]
      omega
def votHead (c h n s : Nat) (t : Int) (x : Bool) (vo : Nat) : ByteArray := (if x = true then secText c h n s t ++ ⟨#[32, 100, 101, 108, 101, 116, 101, 100]⟩ else secText c h n s t) ++ (⟨#[32, 118, 111, 116, 101, 115, 32]⟩ ++ decS vo)
def votTxt (c h n s : Nat) (t : Int) (x : Bool) (l : List Int) (vo : Nat) : ByteArray := if l.length = 0 then votHead c h n s t x vo else votHead c h n s t x vo ++ (⟨#[32, 119, 101, 97, 107, 32]⟩ ++ joinS l ⟨#[32]⟩)
def votedText (c h n s : Int) (d : ByteArray) (t : Int) (x : Bool) (l : List Int) (vo : Int) : ByteArray := if validVoted c h n s d t x l vo = true then votTxt c.toNat h.toNat n.toNat s.toNat t x l vo.toNat else ⟨#[]⟩
theorem votTxt_to (c h n s : Nat) (t : Int) (x : Bool) (l : List Int) (vo : Nat) : votTxt c h n s t x l vo = votTo (votHead c h n s t x vo) l l.length := by
  unfold votTxt
  by_cases h0 : l.length = 0
  · rw [if_pos h0, h0]
    rfl
  · rw [if_neg h0, votTo_all _ (by omega)]
theorem vott_cases (c h n s : Int) (d : ByteArray) (t : Int) (x : Bool) (l : List Int) (vo : Int) : (validVoted c h n s d t x l vo = false ∧ Hid (votedText c h n s d t x l vo = ⟨#[]⟩)) ∨
    (validVoted c h n s d t x l vo = true ∧ ∃ c' h' n' s' t' vo' : Nat, c = c' ∧ h = h' ∧ n = n' ∧ s = s' ∧ t = t' ∧ vo = vo' ∧ c' ≤ 255 ∧ h' ≤ 255 ∧ n' ≤ 255 ∧ s' ≤ 255 ∧ 1 ≤ t' ∧ t' ≤ 5 ∧ t' ≠ 2 ∧ vo' ≤ 5 ∧ l.length ≤ 32 ∧ (∀ y ∈ l, 0 ≤ y ∧ y ≤ 31) ∧ Hid (votedText c h n s d t x l vo = votTxt c' h' n' s' t' x l vo')) := by
  unfold Hid
  cases hv : validVoted c h n s d t x l vo
  · exact .inl ⟨rfl, by unfold votedText; rw [hv]; rfl⟩
  refine .inr ⟨rfl, ?_⟩
  have hv0 := hv
  unfold validVoted votBase at hv
  simp only [Bool.and_eq_true] at hv
  obtain ⟨⟨a1, a2, a3, a4, a5⟩, a6⟩ := hv
  have b1 := inB_t a1
  have b2 := inB_t a2
  have b3 := inB_t a3
  have b4 := inB_t a4
  have b5 := inB_t a5
  have key : (t = 1 ∨ t = 3 ∨ t = 4 ∨ t = 5) ∧ l.length ≤ 32 ∧ ∀ y ∈ l, 0 ≤ y ∧ y ≤ 31 := by
    unfold votIn at a6
    by_cases t4 : t = 4
    · rw [if_pos t4] at a6
      simp only [Bool.and_eq_true] at a6
      have h0 := of_decide_eq_true a6.2.1
      have : l = [] := List.length_eq_zero_iff.1 h0
      subst this
      exact ⟨by omega, by simp, by simp⟩
    · rw [if_neg t4] at a6
      simp only [Bool.and_eq_true] at a6
      obtain ⟨w1, r1, s1⟩ := a6
      have hw := of_decide_eq_true w1
      have h32 : sizeBytes s ≤ 32 := by unfold sizeBytes; split <;> (try split) <;> omega
      have hl := rises_len r1 (by omega)
      refine ⟨?_, by omega, fun y hy => ?_⟩
      · unfold votState at s1
        by_cases t1 : t = 1
        · omega
        · rw [if_neg t1] at s1
          by_cases t5 : t = 5
          · omega
          · rw [if_neg t5] at s1
            have := eq_of_beq s1
            omega
      · have := rises_in r1 y hy
        omega
  obtain ⟨k1, k2, k3⟩ := key
  refine ⟨c.toNat, h.toNat, n.toNat, s.toNat, t.toNat, vo.toNat, by omega, by omega, by omega, by omega, by omega, by omega, by omega, by omega, by omega, by omega, by omega, by omega, by omega, by omega, k2, k3, ?_⟩
  unfold votedText
  rw [if_pos hv0, show ((t.toNat : Nat) : Int) = t by omega]
theorem joinS_size {l : List Int} (h1 : l.length ≤ 32) (h2 : ∀ y ∈ l, 0 ≤ y ∧ y ≤ 31) : (joinS l ⟨#[32]⟩).size ≤ 2000 := by
  have h := join_len ((l.map decI).map (·.data.toList)) [32] 32 (fun z hz => by
    rw [List.map_map, List.mem_map] at hz
    obtain ⟨x, hx, rfl⟩ := hz
    have := decS_size x.toNat
    have h3 := (h2 x hx).2
    show (decI x).data.toList.length ≤ _
    rw [Array.length_toList]
    show (decI x).size ≤ 32
    unfold decI
    omega)
  rw [List.length_map, List.length_map] at h
  have e : (joinS l ⟨#[32]⟩).size = (Lib.join ((l.map decI).map (·.data.toList)) [32]).length := by
    unfold joinS
    show (Lib.join _ _).toArray.size = _
    simp
  have : l.length * (32 + ([32] : List UInt8).length) ≤ 32 * 33 := Nat.mul_le_mul h1 (by simp)
  omega
end Go.Proofs.YtklaakhdpfgffaaDoor
