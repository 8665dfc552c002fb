/-
  Two runs of one text: the law for a function.
-/
import Derived.Test.YgcoaaGreatTwT
set_option linter.unusedVariables false
set_option linter.unusedSimpArgs false
namespace Go.Tw

section
variable {V : Env} {dr : FuncId → Array Oper → Bool}

theorem leaving_floor {v : Value} {w0 : World} {b : Frame} {a1 : Act} {todo : List Item} {w1 : World} {fn : Func} {K : Nat} (hf : V.P.funcs[b.fn]? = some fn) (hk : b.kind = .normal) (hd : a1.defers = [])
    (h : Ends V.P v w0 K (lone { b.at a1 todo with mode := .returning } [floor V.P] w1)) : w1 = w0 ∧ (results fn a1.tmps).run V.P w1 = .ok v w1 := by
  cases K with
  | zero =>
    obtain ⟨fr', h1, h2⟩ := h
    simp only [runN, Stepped.next.injEq] at h1
    obtain ⟨e1, _, e3⟩ := lone_inj h1
    subst e1 e3
    obtain ⟨_, _, _, fn', hf', hr⟩ := h2
    have e : fn' = fn := Option.some.inj (hf'.symm.trans hf)
    subst e
    exact ⟨rfl, hr⟩
  | succ K =>
    exfalso
    cases hr : (results fn a1.tmps).run V.P w1 with
    | halt x w2 =>
      have hs : ∃ o, Go.step V.P (lone { b.at a1 todo with mode := .returning } [floor V.P] w1) = .ended o w2 := by
        cases x <;> exact ⟨_, step_lone_ended (by simp [stepG, unwind, Frame.at, hd, hf, hr]; rfl)⟩
      obtain ⟨o, hs⟩ := hs
      exact h.ended hs
    | ok v1 w2 =>
      have e := results_still hr
      subst e
      have h1 := h.on (step_leave_returned ⟨rfl, hd, hk, fn, hf, hr⟩)
      obtain ⟨K', rfl⟩ := h1.pos rfl
      exact h1.ended (w1 := w2) (step_lone_ended rfl)

/-- THE LAW for a function: what it comes to in one memory, it comes to in every memory that is alike, whatever the order. -/
theorem twin_call (hv : Given V dr) (hmix : V.P.follows .mixedOrders = true) (hdr : ∀ f ops, dr f ops = true → (∃ n0, DrOk V ops n0) ∨ ∃ n0, DrLate V f ops n0) {g : FuncId} {fn : Func} {c : Code} (ok : OkFn V dr g fn c) {args : Array Value} {w : World} (hmate : ∃ args' w' β, arr (one β) args args' ∧ W β w w') (htz : w.tape = fun _ _ => 0) (hsz : args.size ≤ fn.params.size)
    {R : Value → World → Prop} (h : Calls V.P g args w (fun e w1 => ∃ v, e = .returned v ∧ R v w1)) :
    ∃ v1 w1, R v1 w1 ∧ (w.heap.size ≤ w1.heap.size ∧ ∀ base, base ≤ w.heap.size → (∀ i, V.FT g i = true → above base (args.getD i undef)) → ∀ b : Nat, b < base → w1.heap[b]? = w.heap[b]?) ∧
      ∀ args' w' β, arr (one β) args args' → W β w w' → Calls V.P g args' w' (fun e w1' => ∃ v1' β', e = .returned v1' ∧ Ext β β' w w' w1 w1' ∧ W β' w1 w1' ∧ val β' v1 v1' ∧ ((∀ fn, V.P.funcs[g]? = some fn → fn.results.size ≤ 1) → one β' v1 v1')) := by
  let b : Frame := { (default : Frame) with fn := g, kind := .normal }
  have henter : ∀ args, Frame.enter V.P g args .normal = b.at { tmps := args ++ Array.replicate (fn.ntmps - args.size) undef, defers := [] } [.code c] := by
    intro args
    simp [Frame.enter, Frame.at, ok.is_, ok.body, b]
  obtain ⟨e, w1, fr, ⟨v, rfl, hR⟩, hcomes, hfn, hleave⟩ := h [floor V.P]
  obtain ⟨N, hN⟩ : Steps V.P _ _ := hcomes
  have hE : Ends V.P v w1 N (lone (Frame.enter V.P g args .normal) [floor V.P] w) := ⟨fr, hN, hleave⟩
  rw [henter] at hE
  have hm : Mate V b.fn { tmps := args ++ Array.replicate (fn.ntmps - args.size) undef, defers := [] } w := by
    obtain ⟨args', w', β, ha, hw⟩ := hmate
    exact ⟨⟨htz, Dist.enter hsz ok.bx (arr_bound ha hw)⟩, _, w', β, AR.enter ha fn.ntmps, hw⟩
  obtain ⟨e, a1, w2, K, hK, hkeep, hcont, hwp⟩ := twin (v := v) (w0 := w1) hv hmix hdr N c _ w b [] [floor V.P] ok.code rfl (by simp) hm hE
  have hend : (e = .normal ∨ e = .ret) ∧ ∃ todo K2, Ends V.P v w1 K2 (lone { b.at a1 todo with mode := .returning } [floor V.P] w2) := by
    cases e with
    | normal =>
      have hc : Ends V.P v w1 K (lone (b.at a1 []) [floor V.P] w2) := hcont
      obtain ⟨K2, rfl, h2⟩ := hc.next rfl step_end
      exact ⟨.inl rfl, [], K2, h2⟩
    | ret =>
      obtain ⟨todo, h2⟩ := hcont
      exact ⟨.inr rfl, todo, K, h2⟩
    | exit id =>
      obtain ⟨k', h1, _⟩ := hcont
      exact absurd h1 (by simp [exitTo])
    | goto l => exact hcont.elim
    | panic ch => exact hcont.elim
    | outgrown => exact hcont.elim
  obtain ⟨he, todo, K2, h2⟩ := hend
  have hd : a1.defers = [] := by
    obtain ⟨args', w', β, ha, hw⟩ := hmate
    obtain ⟨e', a1', w1', ⟨_, β', _, _, har⟩, _⟩ := hwp _ w' β (AR.enter ha fn.ntmps) hw b [] []
    exact har.still.1
  obtain ⟨e3, hres⟩ := leaving_floor (b := b) ok.is_ rfl hd h2
  subst e3
  refine ⟨v, w2, hR, ⟨hkeep.1.1, fun base hb hfr bb hlt => ?_⟩, ?_⟩
  · refine (hkeep.1.2 true base hb ?_).2 bb hlt
    intro t ht
    have := hfr t ht
    show above base ((args ++ Array.replicate (fn.ntmps - args.size) undef).getD t undef)
    simp only [Array.getD_eq_getD_getElem?, Array.getElem?_append] at this ⊢
    split
    · exact this
    · rw [Array.getElem?_replicate]
      split <;> exact trivial
  intro args' w' β ha hw
  refine calls_of_wp ok.is_ ok.body (wp_mono (hwp _ w' β (AR.enter ha fn.ntmps) hw) ?_)
  rintro e' a1' w1' ⟨rfl, β', hext, hW, har⟩
  obtain ⟨β2, v1', w2', r1, r2, r3, r4, r5⟩ := SR.run (SR.results (st := false) har ok.res) hW hres
  have e2 := results_still r1
  subst e2
  have goal : a1'.defers = [] ∧ ∃ v', (results fn a1'.tmps).run V.P w2' = .ok v' w2' ∧ (∃ v1' β', Ending.returned v' = .returned v1' ∧ Ext β β' w w' w2 w2' ∧ W β' w2 w2' ∧ val β' v v1' ∧ ((∀ fn, V.P.funcs[g]? = some fn → fn.results.size ≤ 1) → one β' v v1')) :=
    ⟨har.still.2, v1', r1, v1', β2, rfl, hext.trans r2, r3, r4, fun hh => r5 (hh fn ok.is_)⟩
  rcases he with rfl | rfl <;> exact goal
end
end Go.Tw
