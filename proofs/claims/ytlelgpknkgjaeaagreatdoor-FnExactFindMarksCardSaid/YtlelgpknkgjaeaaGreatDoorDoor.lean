/- For laws whose rows list package-level variables: the law's row behind its walk, and what a listed table gives the walk. No condition. -/
import Derived.Test.YtlelgpknkgjaeaaGreatDoorLaw
import Derived.LaidSub
import Derived.Lib.LaidTab
import Derived.Deep.DeepHandedRow
import Derived.SevenTiedAt
import GoSem.ClaimSeven
namespace Go.Proofs.YtlelgpknkgjaeaaGreatDoor
open Go.ChangeShapes Go.WideShapes Go.ChangeAt Go.RowKit
set_option linter.unusedVariables false

section
variable {H : Type} {enc : TypeId × Value → H} {P : Program} {W W' : World}

theorem var_same {n : String} {cs : Array Value} (hb : Below W.heap.size W W') (h : W.var? P n = some cs) : W'.var? P n = some cs := by
  unfold World.var? at h ⊢
  cases hg : P.globalNamed n with
  | none => rw [hg] at h; cases h
  | some g =>
    rw [hg] at h
    simp only [Option.bind_some] at h ⊢
    have hlt : g < W.heap.size := by
      rcases Nat.lt_or_ge g W.heap.size with h' | h'
      · exact h'
      · rw [Array.getElem?_eq_none h'] at h; cases h
    rw [hb.block g hlt]
    exact h

def varOk (P : Program) (n : String) : Bool := match P.globalNamed n with
  | some g => match (P.globals[g]?).map (·.type) with
    | some t => P.readableRec t && decide (t < P.types.size)
    | none => false
  | none => false

theorem trodVars_stays (hl : laidOutB P = true) (hb : Below W.heap.size W W') : ∀ {ns : List String} {gs : List (DataW H)} {ps : List MemPlace},
    (ns.all (varOk P)) = true → (∀ x ∈ ps, x.block < W.heap.size) → DataW.TrodVars enc P W (fun _ => true) ns gs ps → DataW.TrodVars enc P W' (fun b => decide (b < W.heap.size)) ns gs ps
  | [], [], ps, _, _, h => h
  | [], _ :: _, ps, _, _, h => by cases h
  | _ :: _, [], ps, _, _, h => by cases h
  | n :: ns, d :: gs, ps, hn, hlt, h => by
    obtain ⟨g, t, cs, fuel, p, q, hg, ht, hv, hd, hr, rfl⟩ := h
    simp only [List.all_cons, Bool.and_eq_true] at hn
    have hok := hn.1
    unfold varOk at hok
    rw [hg] at hok
    simp only [ht, Bool.and_eq_true, decide_eq_true_eq] at hok
    refine ⟨g, t, cs, fuel, p, q, hg, ht, var_same hb hv, ?_, trodVars_stays hl hb hn.2 (fun x hx => hlt x (by simp [hx])) hr, rfl⟩
    exact DataW.trod_stays (kids_book hl hok.1) (book_sized hok.1) (fun h => by cases h) ⟨hok.2, book_self t⟩ hd (fun x hx => hb.same (hlt x (by simp [hx]))) (fun x hx => by simpa using hlt x (by simp [hx]))

/-- The law's row, behind its walk: with listed variables. -/
theorem law_post_vars {f : Func} {s : ChangeSpec} {tb : TypeId} {args : Array Value} {ds gs : List (DataW H)} {before : List MemPlace} (hl : laidOutB P = true)
    (hts : (f.params.toList.all fun t => P.readableRec t && decide (t < P.types.size)) = true) (hvs : (s.vars.all (varOk P)) = true) (hr : f.resultTypes = #[tb]) (htb : P.underlying tb = some .bool)
    (hs : s.fn H (ds ++ gs) = { results := [.lit (.bool true)], args := ds, vars := gs })
    (hW : DataW.Whole enc P f.params.toList s.vars false W args.toList ds gs before) (hb : Below W.heap.size W W') : s.post enc P f false true false false W args (.bool true) W' := by
  have hlt := hW.lt
  have hW' := hW
  obtain ⟨p, q, hA, hV, rfl, hfz, hnd⟩ := hW'
  refine ⟨ds, gs, _, [], p, q, hW, ?_, ?_, ?_, hb.frame _, fun h => by cases h⟩
  · rw [hs, hr]
    exact trodAll_mk1 (shut_bool htb _)
  · rw [hs]
    exact trodAll_stays hl hb hts (fun x hx => hlt x (List.mem_append.2 (.inl hx))) hA
  · rw [hs]
    exact trodVars_stays hl hb hvs (fun x hx => hlt x (List.mem_append.2 (.inr hx))) hV
end

/-- A listed variable reads as it is listed. -/
theorem laid_at {P : Program} {W : World} : ∀ {l : List (String × DataW Unit)} {ps : List MemPlace}, DataW.LaidVars P W l ps → ∀ {n : String} {d : DataW Unit}, (n, d) ∈ l →
    ∃ g t cs fuel p, P.globalNamed n = some g ∧ (P.globals[g]?).map (·.type) = some t ∧ W.var? P n = some cs ∧ DataW.trod (fun _ => ()) P W 0 (fun _ => true) false fuel t cs.toList = some (d, p) ∧ ∀ x ∈ MemPlace.row ⟨g, 0, none⟩ cs.size, x ∈ ps
  | [], _, _, n, d, h => by cases h
  | (n', d') :: l, ps, hl, n, d, h => by
    obtain ⟨g, t, cs, fuel, p, q, hg, ht, hv, hd, hr, rfl⟩ := hl
    rcases List.mem_cons.1 h with h | h
    · injection h with h1 h2
      subst h1
      subst h2
      exact ⟨g, t, cs, fuel, p, hg, ht, hv, hd, fun x hx => by simp [hx]⟩
    · obtain ⟨g2, t2, cs2, fuel2, p2, a1, a2, a3, a4, a5⟩ := laid_at hr h
      exact ⟨g2, t2, cs2, fuel2, p2, a1, a2, a3, a4, fun x hx => by simp [a5 x hx]⟩

/-- An array of strings that reads as the table holds the table's strings, cell for cell. -/
theorem cells_of_strs {P : Program} {w : World} {base : Nat} {sp : Nat → Bool} {held : Bool} {fuel : Nat} {t e : TypeId} {n : Nat} {cs : List Value} {zs : List (List UInt8)} {p : List MemPlace}
    (ht : P.underlying t = some (.array n e)) (he : P.underlying e = some .string) (hce : P.cellsOf e = 1) (hct : P.cellsOf t = n)
    (h : DataW.trod (fun _ => ()) P w base sp held fuel t cs = some (.agg (zs.map fun z => (.lit (.string z) : DataW Unit)), p)) : cs = zs.map fun z => Value.string ⟨z.toArray⟩ := by
  cases fuel with
  | zero => simp [DataW.trod] at h
  | succ fuel =>
    simp only [DataW.trod, ht, hce, hct, Nat.mul_one] at h
    split at h
    · rename_i hl
      obtain ⟨xs, hm, hx⟩ := Option.map_eq_some_iff.1 h
      have hxs : xs.map (·.1) = zs.map fun z => (DataW.lit (.string z) : DataW Unit) := by
        have := congrArg Prod.fst hx
        simpa using this
      have hxl : xs.length = n := by simpa using Lib.mapM_length hm
      have hzl : zs.length = n := by
        have := congrArg List.length hxs
        simp at this
        omega
      apply List.ext_getElem?
      intro i
      by_cases hi : i < n
      · obtain ⟨b, hb, hf⟩ := Lib.mapM_at hm i i (by simp [hi])
        obtain ⟨z, hc, rfl, _⟩ := DataW.trod_string he hf
        have h1 : cs[i]? = some (.string z) := by
          have := congrArg (·[0]?) hc
          simpa [List.getElem?_take, List.getElem?_drop] using this
        have h2 : (xs.map (·.1))[i]? = some (DataW.lit (.string z.data.toList) : DataW Unit) := by simp [hb]
        rw [hxs] at h2
        simp only [List.getElem?_map, Option.map_eq_some_iff, DataW.lit.injEq, Lit.string.injEq] at h2
        obtain ⟨z', hz', hz2⟩ := h2
        rw [h1, List.getElem?_map, hz', hz2]
        rfl
      · rw [List.getElem?_eq_none (by omega), List.getElem?_eq_none (by simp; omega)]
    · cases h

/-- A table of strings that a row lists: the variable's whole block. -/
theorem strs_laid {P : Program} {W : World} {l : List (String × DataW Unit)} (y : String × DataW Unit) {zs : List (List UInt8)} {g : Nat} {t e : TypeId} {n : Nat}
    (hg : P.globalNamed y.1 = some g) (hty : (P.globals[g]?).map (·.type) = some t) (ht : P.underlying t = some (.array n e)) (he : P.underlying e = some .string) (hce : P.cellsOf e = 1) (hct : P.cellsOf t = n)
    (hy : y.2 = DataW.agg (zs.map fun z => (.lit (.string z) : DataW Unit))) (hm : y ∈ l.filter fun x => x.2.handleName?.isNone) (hL : laidMetH P l W) (hz : 0 < zs.length) :
    ∃ t', W.heap[g]? = some (.cells (zs.map fun z => Value.string ⟨z.toArray⟩).toArray t' (0, 0)) := by
  obtain ⟨name, d⟩ := y
  simp only at hy hg
  subst hy
  obtain ⟨ps, hv, _, hrow⟩ := (laidMetH_iff.1 hL).1
  obtain ⟨g2, t2, cs, fuel, p, a1, a2, a3, a4, a5⟩ := laid_at hv hm
  obtain rfl := Option.some.inj (hg.symm.trans a1)
  obtain rfl := Option.some.inj (hty.symm.trans a2)
  have hcs := cells_of_strs ht he hce hct a4
  have hsz : 0 < cs.size := by
    have := congrArg List.length hcs
    simp at this
    omega
  obtain ⟨⟨c, t', hc⟩, _⟩ := hrow g 0 (a5 _ (by simp [MemPlace.row]; exact hsz))
  refine ⟨t', ?_⟩
  unfold World.var? at a3
  rw [hg] at a3
  simp only [Option.bind_some, hc] at a3
  injection a3 with a3
  have h4 : (zs.map fun z => Value.string ⟨z.toArray⟩).toArray = cs := by rw [← hcs]
  rw [hc, a3, h4]

theorem vars_1 {H : Type} {enc : TypeId × Value → H} {P : Program} {W : World} {sp : Nat → Bool} {n0 : String} {gs : List (DataW H)} {ps : List MemPlace} (h : DataW.TrodVars enc P W sp [n0] gs ps) : ∃ g0, gs = [g0] := by
  match gs, h with
  | [g0], _ => exact ⟨g0, rfl⟩
  | [], h => simp [DataW.TrodVars] at h
  | g0 :: _ :: _, h => simp [DataW.TrodVars] at h
theorem vars_2 {H : Type} {enc : TypeId × Value → H} {P : Program} {W : World} {sp : Nat → Bool} {n0 n1 : String} {gs : List (DataW H)} {ps : List MemPlace} (h : DataW.TrodVars enc P W sp [n0, n1] gs ps) : ∃ g0 g1, gs = [g0, g1] := by
  match gs, h with
  | [g0, g1], _ => exact ⟨g0, g1, rfl⟩
  | [], h => simp [DataW.TrodVars] at h
  | [g0], h => simp [DataW.TrodVars] at h
  | g0 :: g1 :: _ :: _, h => simp [DataW.TrodVars] at h
theorem vars_3 {H : Type} {enc : TypeId × Value → H} {P : Program} {W : World} {sp : Nat → Bool} {n0 n1 n2 : String} {gs : List (DataW H)} {ps : List MemPlace} (h : DataW.TrodVars enc P W sp [n0, n1, n2] gs ps) : ∃ g0 g1 g2, gs = [g0, g1, g2] := by
  match gs, h with
  | [g0, g1, g2], _ => exact ⟨g0, g1, g2, rfl⟩
  | [], h => simp [DataW.TrodVars] at h
  | [g0], h => simp [DataW.TrodVars] at h
  | [g0, g1], h => simp [DataW.TrodVars] at h
  | g0 :: g1 :: g2 :: _ :: _, h => simp [DataW.TrodVars] at h
theorem vars_4 {H : Type} {enc : TypeId × Value → H} {P : Program} {W : World} {sp : Nat → Bool} {n0 n1 n2 n3 : String} {gs : List (DataW H)} {ps : List MemPlace} (h : DataW.TrodVars enc P W sp [n0, n1, n2, n3] gs ps) : ∃ g0 g1 g2 g3, gs = [g0, g1, g2, g3] := by
  match gs, h with
  | [g0, g1, g2, g3], _ => exact ⟨g0, g1, g2, g3, rfl⟩
  | [], h => simp [DataW.TrodVars] at h
  | [g0], h => simp [DataW.TrodVars] at h
  | [g0, g1], h => simp [DataW.TrodVars] at h
  | [g0, g1, g2], h => simp [DataW.TrodVars] at h
  | g0 :: g1 :: g2 :: g3 :: _ :: _, h => simp [DataW.TrodVars] at h
/-- plain data, as cells. -/
def dataCells : DataW Unit → List Value
  | .lit (.int k n) => [.int k n]
  | .lit (.string s) => [.string ⟨s.toArray⟩]
  | .lit (.bool b) => [.bool b]
  | .agg l => dataCellsAll l
  | _ => []
where dataCellsAll : List (DataW Unit) → List Value
  | [] => []
  | d :: l => dataCells d ++ dataCellsAll l
/-- A world for the witness: the settled one, each listed variable holding what is listed. -/
noncomputable def laidWorld (P : Program) (os : Os) (laid : List (String × DataW Unit)) : World :=
  laid.foldl (fun w x => match P.globalNamed x.1 with
    | some g => { w with heap := w.heap.modify g fun
        | .cells _ t frozen => .cells (dataCells x.2).toArray t frozen
        | o => o }
    | none => w) (World.holding P os ⟨#[], #[], []⟩)
theorem laidWorld_os (P : Program) (os : Os) : ∀ (laid : List (String × DataW Unit)), (laidWorld P os laid).os = os := by
  intro laid
  unfold laidWorld
  have h : ∀ (l : List (String × DataW Unit)) (w : World), (l.foldl (fun w x => match P.globalNamed x.1 with
    | some g => { w with heap := w.heap.modify g fun
        | .cells _ t frozen => .cells (dataCells x.2).toArray t frozen
        | o => o }
    | none => w) w).os = w.os := by
    intro l
    induction l with
    | nil => intro w; rfl
    | cons x l ih =>
      intro w
      rw [List.foldl_cons, ih]
      cases P.globalNamed x.1 <;> rfl
  exact h laid _
theorem noStandIn {P : Program} {fn : Func} (h : (fn.params.toList.all fun t => !P.wantsStandIn t) = true) (j : Nat) (t : TypeId) (ht : fn.params[j]? = some t) : P.wantsStandIn t = false := by
  have := List.all_eq_true.1 h t (Array.mem_toList_iff.2 (Array.mem_of_getElem? ht))
  simpa using this
end Go.Proofs.YtlelgpknkgjaeaaGreatDoor
