/-
  One answer in every memory, its fact kept.
-/
import Derived.Test.YgcoaaGreatDetC
set_option linter.unusedVariables false
set_option linter.unusedSimpArgs false
set_option maxRecDepth 20000
namespace Go.Proofs.YgcoaaGreat.Det
open Go Go.RowKit Go.Proofs.YgcoaaGreat.NatW Go.Proofs.Oaag.Twn

/-- Bools, integers, texts, structs of these, rows of results of these. -/
def flatT : Value → Bool
  | .tuple xs => xs.toList.all selfV
  | x => selfV x
theorem cel_self_eq {β : Tw.Rel} {v v' : Value} (h : selfC v = true) (hc : Tw.cel β v v') : v' = v := by
  cases v
  case bool b =>
    cases v' <;> first | (exfalso; simp [Tw.cel] at hc; done) | skip
    have e : b = _ := hc
    rw [e]
  case int k n =>
    cases v' <;> first | (exfalso; simp [Tw.cel] at hc; done) | skip
    obtain ⟨e1, e2⟩ : k = _ ∧ n = _ := hc
    rw [e1, e2]
  case string t =>
    cases v' <;> first | (exfalso; simp [Tw.cel] at hc; done) | skip
    have e : t = _ := hc
    rw [e]
  all_goals (exfalso; simp [selfC] at h; done)
theorem arr_eq {R : Value → Value → Prop} {xs ys : Array Value} (h : Tw.arr R xs ys) (hR : ∀ x y, x ∈ xs → R x y → y = x) : ys = xs := by
  obtain ⟨h1, h2⟩ := h
  apply Array.ext (by omega)
  intro i hi hj
  have hx : xs[i]? = some xs[i] := Array.getElem?_eq_getElem hj
  have hy : ys[i]? = some ys[i] := Array.getElem?_eq_getElem hi
  exact hR _ _ (Array.getElem_mem hj) (h2 i _ _ hx hy)
theorem one_self_eq {β : Tw.Rel} {v v' : Value} (h : selfV v = true) (hc : Tw.one β v v') : v' = v := by
  cases v
  case agg xs =>
    cases v' <;> first | (exfalso; simp [Tw.one, Tw.cel] at hc; done) | skip
    rename_i ys
    have hc' : Tw.arr (Tw.cel β) xs ys := hc
    have h' : xs.toList.all selfC = true := h
    rw [List.all_eq_true] at h'
    rw [arr_eq hc' fun x y hx hxy => cel_self_eq (h' x (Array.mem_toList_iff.2 hx)) hxy]
  case bool b =>
    cases v' <;> first | (exfalso; simp [Tw.one, Tw.cel] at hc; done) | exact cel_self_eq (β := β) rfl hc
  case int k n =>
    cases v' <;> first | (exfalso; simp [Tw.one, Tw.cel] at hc; done) | exact cel_self_eq (β := β) rfl hc
  case string t =>
    cases v' <;> first | (exfalso; simp [Tw.one, Tw.cel] at hc; done) | exact cel_self_eq (β := β) rfl hc
  all_goals (exfalso; simp [selfV, selfC] at h; done)
theorem val_self_eq {β : Tw.Rel} {v v' : Value} (h : flatT v = true) (hc : Tw.val β v v') : v' = v := by
  cases v
  case tuple xs =>
    cases v' <;> first | (exfalso; simp [Tw.val, Tw.one, Tw.cel] at hc; done) | skip
    rename_i ys
    have hc' : Tw.arr (Tw.one β) xs ys := hc
    have h' : xs.toList.all selfV = true := h
    rw [List.all_eq_true] at h'
    rw [arr_eq hc' fun x y hx hxy => one_self_eq (h' x (Array.mem_toList_iff.2 hx)) hxy]
  case agg xs =>
    cases v' <;> first | (exfalso; simp [Tw.val, Tw.one, Tw.cel] at hc; done) | exact one_self_eq (β := β) h hc
  case bool b =>
    cases v' <;> first | (exfalso; simp [Tw.val, Tw.one, Tw.cel] at hc; done) | exact one_self_eq (β := β) rfl hc
  case int k n =>
    cases v' <;> first | (exfalso; simp [Tw.val, Tw.one, Tw.cel] at hc; done) | exact one_self_eq (β := β) rfl hc
  case string t =>
    cases v' <;> first | (exfalso; simp [Tw.val, Tw.one, Tw.cel] at hc; done) | exact one_self_eq (β := β) rfl hc
  all_goals (exfalso; simp [flatT, selfV, selfC] at h; done)

/-- This value, in every memory that holds the table. -/
def DR (g : FuncId) (args : Nat → Array Value) (v : Value) : Prop := ∀ w tb (K : Ending → World → Prop), On tb w → (∀ w', Below w.heap.size w w' → K (.returned v) w') → Calls Oaag.prog g (args tb) w K

theorem detP {g : FuncId} (l : List Arg) (n : Nat) (hg : okL.contains g = true) (hn : l.length = n) (hft : noFT (V Oaag.prog).FT g n = true) (hp : (Oaag.prog.funcs[g]?.map fun fn => decide (n ≤ fn.params.size)) = some true) (hok : l.all Arg.ok = true)
    {Ψ : Value → Prop} (hA' : Calls Oaag.prog g (argsAt l 1) w0 (fun e w1 => ∃ v, e = .returned v ∧ Ψ v)) (hΨ : ∀ v, Ψ v → flatT v = true) : ∃ v, Ψ v ∧ DR g (argsAt l) v := by
  obtain ⟨fn, c, ok⟩ := okL_ok g (List.contains_iff_mem.1 hg)
  have hgiv := given fun g h => absurd h (List.not_mem_nil)
  have h1 : On 1 w0 := ⟨by omega, w0_row⟩
  have hA : Calls (V Oaag.prog).P g (argsAt l 1) w0 (fun e w1 => ∃ v, e = .returned v ∧ Ψ v) := hA'
  have hal := fun tb ht => args_alike hok tb ht
  have hs1 := argsAt_size l 1
  have hsz : (argsAt l 1).size ≤ fn.params.size := by
    have hfn : Oaag.prog.funcs[g]? = some fn := ok.is_
    rw [hfn] at hp
    simp only [Option.map_some, Option.some.injEq, decide_eq_true_eq] at hp
    rw [hs1, hn]
    exact hp
  obtain ⟨v1, w1, hv, ⟨hsize, hkeep⟩, hB⟩ := Tw.twin_call hgiv mixed Tw.drAll_ok ok ⟨argsAt l 1, w0, only 1 1, hal 1 (by omega), W_only h1⟩ rfl hsz hA
  refine ⟨v1, hv, fun w tb K hon hK => ?_⟩
  refine Calls.mono (hB (argsAt l tb) w (only 1 tb) (hal tb hon.pos) (W_only hon)) ?_
  rintro e w1' ⟨v1', β', rfl, hext, hW, hval, _⟩
  rw [val_self_eq (hΨ v1 hv) hval]
  refine hK w1' ⟨hext.sys.2.2.1, hext.sys.2.1, hext.sys.2.2.2, hext.szB, fun k hk => ?_⟩
  by_cases e : k = tb
  · subst e
    obtain ⟨x, y, hx, hy, hxy⟩ := hW.blk 1 k (hext.le 1 k ⟨rfl, rfl⟩)
    have hx1 : w1.heap[1]? = w0.heap[1]? := by
      refine hkeep 2 (Nat.le_refl _) (fun i hi => ?_) 1 (by omega)
      by_cases hlt : i < (argsAt l 1).size
      · rw [noFT_at hft i (by rw [hs1, hn] at hlt; exact hlt)] at hi; cases hi
      · rw [Array.getD_eq_getD_getElem?, Array.getElem?_eq_none (by omega)]
        exact trivial
    rw [hx1, w0_row] at hx
    cases hx
    cases y <;> first | (exfalso; simp [Tw.obj] at hxy; done) | skip
    obtain ⟨q1, q2, q3⟩ : Tw.arr (Tw.cel β') _ _ ∧ _ = _ ∧ _ = _ := hxy
    rw [hy, hon.row, tc_eq q1, ← q2, ← q3]
  · exact hext.frB k hk fun b hb => e hb.2

theorem detQ {g : FuncId} (l : List Arg) (n : Nat) (hg : okL.contains g = true) (hn : l.length = n) (hft : noFT (V Oaag.prog).FT g n = true) (hp : (Oaag.prog.funcs[g]?.map fun fn => decide (n ≤ fn.params.size)) = some true) (hok : l.all Arg.ok = true)
    {Ψ : Value → Prop} (hr : Ret g (argsAt l 1) Ψ) (hΨ : ∀ v, Ψ v → flatT v = true) : ∃ v, Ψ v ∧ DR g (argsAt l) v :=
  detP l n hg hn hft hp hok (hr w0 _ fun v w' hv _ => ⟨v, rfl, hv⟩) hΨ
end Go.Proofs.YgcoaaGreat.Det
