/-
  One answer in every memory: from a contract; arguments as a list.
-/
import Derived.Test.YgcoaaGreatDetB
set_option linter.unusedVariables false
set_option linter.unusedSimpArgs false
set_option maxRecDepth 20000
namespace Go.Proofs.YgcoaaGreat.Det
open Go Go.Proofs.YgcoaaGreat.NatW Go.Proofs.Oaag.Twn

/-- One answer, whatever the memory, from one run. -/
theorem detC {g : FuncId} (hg : g ∈ okL) {r : Sf.D} (hflat : flatD r = true) {args : Nat → Array Value} (hft : ∀ i, i < (args 1).size → (V Oaag.prog).FT g i = false)
    (hal : ∀ tb, 0 < tb → Tw.arr (Tw.one (only 1 tb)) (args 1) (args tb)) (hsz : ∀ fn, Oaag.prog.funcs[g]? = some fn → (args 1).size ≤ fn.params.size)
    (hA' : Calls Oaag.prog g (args 1) w0 (fun e w1 => ∃ v, e = .returned v ∧ ∃ Γ', Sf.val Γ' r v)) : Det g args r := by
  obtain ⟨fn, c, ok⟩ := okL_ok g hg
  have hgiv := given fun g h => absurd h (List.not_mem_nil)
  have h1 : On 1 w0 := ⟨by omega, w0_row⟩
  have hA : Calls (V Oaag.prog).P g (args 1) w0 (fun e w1 => ∃ v, e = .returned v ∧ ∃ Γ', Sf.val Γ' r v) := hA'
  obtain ⟨v1, w1, ⟨Γ', hv⟩, ⟨hsize, hkeep⟩, hB⟩ := Tw.twin_call hgiv mixed Tw.drAll_ok ok ⟨args 1, w0, only 1 1, hal 1 (by omega), W_only h1⟩ rfl (hsz fn ok.is_) hA
  refine ⟨v1, flatD_any hflat hv, fun w tb K hon hK => ?_⟩
  refine Calls.mono (hB (args tb) w (only 1 tb) (hal tb hon.pos) (W_only hon)) ?_
  rintro e w1' ⟨v1', β', rfl, hext, hW, hval, _⟩
  rw [flatD_eq hflat hv hval]
  refine hK w1' ⟨hext.sys.2.2.1, hext.sys.2.1, hext.sys.2.2.2, hext.szB, fun k hk => ?_⟩
  by_cases e : k = tb
  · subst e
    obtain ⟨x, y, hx, hy, hxy⟩ := hW.blk 1 k (hext.le 1 k ⟨rfl, rfl⟩)
    have hx1 : w1.heap[1]? = w0.heap[1]? := by
      refine hkeep 2 (Nat.le_refl _) (fun i hi => ?_) 1 (by omega)
      by_cases hlt : i < (args 1).size
      · rw [hft i hlt] at hi; cases hi
      · rw [Array.getD_eq_getD_getElem?, Array.getElem?_eq_none (by omega)]
        exact trivial
    rw [hx1, w0_row] at hx
    cases hx
    cases y <;> first | (exfalso; simp [Tw.obj] at hxy; done) | skip
    obtain ⟨q1, q2, q3⟩ : Tw.arr (Tw.cel β') _ _ ∧ _ = _ ∧ _ = _ := hxy
    rw [hy, hon.row, tc_eq q1, ← q2, ← q3]
  · exact hext.frB k hk fun b hb => e hb.2

/-- An argument: the table, or a flat value. -/
abbrev Arg := Option Value
abbrev Arg.tab : Arg := none
abbrev Arg.v (x : Value) : Arg := some x
def Arg.at (tb : Nat) : Arg → Value
  | none => .pointer (some ⟨tb, 0, none⟩)
  | some x => x
def argsAt (l : List Arg) (tb : Nat) : Array Value := (l.map (Arg.at tb)).toArray
def selfC : Value → Bool
  | .bool _ | .int _ _ | .string _ => true
  | _ => false
def selfV : Value → Bool
  | .agg xs => xs.toList.all selfC
  | x => selfC x
theorem selfC_cel {β : Tw.Rel} {x : Value} (h : selfC x = true) : Tw.cel β x x := by
  cases x <;> first | (exfalso; simp [selfC] at h; done) | exact rfl | exact ⟨rfl, rfl⟩
theorem selfV_one {β : Tw.Rel} {x : Value} (h : selfV x = true) : Tw.one β x x := by
  cases x
  case agg xs =>
    refine ⟨rfl, fun i a b ha hb => ?_⟩
    rw [ha] at hb
    cases hb
    have h' : xs.toList.all selfC = true := h
    rw [List.all_eq_true] at h'
    refine selfC_cel (h' a ?_)
    rw [Array.mem_toList_iff]
    exact Array.mem_of_getElem? ha
  case bool b => exact (rfl : b = b)
  case int k n => exact (⟨rfl, rfl⟩ : k = k ∧ n = n)
  case string t => exact (rfl : t = t)
  all_goals (exfalso; simp [selfV, selfC] at h; done)
def Arg.ok : Arg → Bool
  | none => true
  | some x => selfV x
theorem args_alike {l : List Arg} (h : l.all Arg.ok = true) (tb : Nat) (ht : 0 < tb) : Tw.arr (Tw.one (only 1 tb)) (argsAt l 1) (argsAt l tb) := by
  refine ⟨by simp [argsAt], fun i x y hx hy => ?_⟩
  simp only [argsAt, List.getElem?_toArray, List.getElem?_map] at hx hy
  cases ha : l[i]? with
  | none => rw [ha] at hx; cases hx
  | some a =>
    rw [ha] at hx hy
    simp only [Option.map_some, Option.some.injEq] at hx hy
    subst hx hy
    rw [List.all_eq_true] at h
    have hok := h a (List.mem_of_getElem? ha)
    cases a with
    | none => exact ⟨⟨rfl, rfl⟩, rfl, rfl, by decide, ht⟩
    | some x => exact selfV_one hok
theorem argsAt_size (l : List Arg) (tb : Nat) : (argsAt l tb).size = l.length := by simp [argsAt]

/-- The places where a function may store through a parameter: none. -/
def noFT (F : Nat → Nat → Bool) (g n : Nat) : Bool := (List.range n).all fun i => !(F g i)
theorem noFT_at {g n : Nat} (h : noFT (V Oaag.prog).FT g n = true) (i : Nat) (hi : i < n) : (V Oaag.prog).FT g i = false := by
  unfold noFT at h
  rw [List.all_eq_true] at h
  have := h i (List.mem_range.2 hi)
  simpa using this

/-- By a contract. -/
theorem detR {g : FuncId} (l : List Arg) (r : Sf.D) (n : Nat) (hg : okL.contains g = true) (hn : l.length = n) (hft : noFT (V Oaag.prog).FT g n = true) (hp : (Oaag.prog.funcs[g]?.map fun fn => decide (n ≤ fn.params.size)) = some true) (hflat : flatD r = true) (hok : l.all Arg.ok = true)
    {Ψ : Value → Prop} (hr : Ret g (argsAt l 1) Ψ) (hΨ : ∀ v, Ψ v → ∃ Γ, Sf.val Γ r v) : Det g (argsAt l) r := by
  refine detC (List.contains_iff_mem.1 hg) hflat (fun i hi => noFT_at hft i (by rw [argsAt_size, hn] at hi; exact hi)) (fun tb ht => args_alike hok tb ht) (fun fn hfn => ?_) ?_
  · rw [hfn] at hp
    simp only [Option.map_some, Option.some.injEq, decide_eq_true_eq] at hp
    rw [argsAt_size, hn]
    exact hp
  · exact hr w0 _ fun v w' hv _ => ⟨v, rfl, hΨ v hv⟩
/-- By the law of one run. -/
theorem detS {g : FuncId} (l : List Arg) (ps r : Sf.D) (n : Nat) (hg : okL.contains g = true) (hn : l.length = n) (hft : noFT (V Oaag.prog).FT g n = true) (hp : (Oaag.prog.funcs[g]?.map fun fn => decide (n ≤ fn.params.size)) = some true) (hflat : flatD r = true) (hok : l.all Arg.ok = true)
    (hcon : Sf.Con Oaag.prog g ps r) (hty : Sf.Args Γ0 ps (argsAt l 1)) : Det g (argsAt l) r := by
  refine detC (List.contains_iff_mem.1 hg) hflat (fun i hi => noFT_at hft i (by rw [argsAt_size, hn] at hi; exact hi)) (fun tb ht => args_alike hok tb ht) (fun fn hfn => ?_) ?_
  · rw [hfn] at hp
    simp only [Option.map_some, Option.some.injEq, decide_eq_true_eq] at hp
    rw [argsAt_size, hn]
    exact hp
  · refine Calls.mono (hcon Γ0 w0 (argsAt l 1) wt0 hty) ?_
    rintro e w1 ⟨v, Γ', e1, e2, e3⟩
    exact ⟨v, e1, Γ', e3⟩
end Go.Proofs.YgcoaaGreat.Det
