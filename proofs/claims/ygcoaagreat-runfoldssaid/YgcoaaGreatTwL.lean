/-
  Two runs of one text: calls, and operations in one order.
-/
import Derived.Test.YgcoaaGreatTwK
set_option linter.unusedVariables false
set_option linter.unusedSimpArgs false
namespace Go.Tw

/-- What a call comes to, in both runs. -/
def Called (V : Env) (v : Value) (w0 : World) (g : FuncId) (args : Array Value) (w : World) (fr : Frame) (cs : List Frame) (M : Nat) : Prop :=
  ∃ v1 w1 K, K < M ∧ ((w.heap.size ≤ w1.heap.size ∧ ∀ base, base ≤ w.heap.size → (∀ i, V.FT g i = true → above base (args.getD i undef)) → ∀ b, b < base → w1.heap[b]? = w.heap[b]?) ∧ w1.tape = w.tape) ∧
    (∀ base, base ≤ w.heap.size → (∀ i, V.GT g i = true → above base (args.getD i undef)) → ∀ fn r, V.P.funcs[g]? = some fn → fn.results.toList = [.tmp r] → V.GT g r = true → above base v1) ∧ Ends V.P v w0 K (lone (fr.finish v1) cs w1) ∧
    ∀ args' w' β, arr (one β) args args' → W β w w' → Calls V.P g args' w' (fun e w1' => ∃ v1' β', e = .returned v1' ∧ Ext β β' w w' w1 w1' ∧ W β' w1 w1' ∧ val β' v1 v1' ∧ ((∀ fn, V.P.funcs[g]? = some fn → fn.results.size ≤ 1) → one β' v1 v1'))

/-- A function that is told of otherwise. -/
def Told (V : Env) (g : FuncId) : Prop := ∀ (v : Value) (w0 : World) (args : Array Value) (w : World) (fr : Frame) (cs : List Frame) (M : Nat), (∃ args' w' β, arr (one β) args args' ∧ W β w w') → (w.tape = fun _ _ => 0) → Good V.P (fr :: cs) → cs ≠ [] →
  Ends V.P v w0 M (lone (Frame.enter V.P g args .normal) (fr :: cs) w) → Called V v w0 g args w fr cs M

/-- What the law takes for granted. -/
structure Given (V : Env) (dr : FuncId → Array Oper → Bool) : Prop where
  glob : V.P.globals.size ≤ 1
  eq : ∀ t, V.E t = true → EqOk V.P t
  fns : ∀ g, V.F g = true → (∃ fn c, OkFn V dr g fn c) ∨ Told V g

/-- Something is so behind a call. -/
theorem calls_ex {P : Program} {f : FuncId} {args : Array Value} {w : World} {R : Ending → World → Prop} (h : Calls P f args w R) : ∃ e w', R e w' := by
  obtain ⟨e, w', fr, hR, _⟩ := h []
  exact ⟨e, w', hR⟩

theorem cel_blk {β : Rel} {x y : Value} (h : cel β x y) {b : Nat} (hb : blk x = some b) : ∃ c, blk y = some c ∧ β b c := by
  cases x <;> first | (exfalso; simp [blk] at hb; done) | skip
  · rename_i p
    cases p <;> first | (exfalso; simp [blk] at hb; done) | skip
    cases y <;> first | (exfalso; simp [cel] at h; done) | skip
    rename_i a q
    cases q <;> first | (exfalso; simp [cel, oadr] at h; done) | skip
    have e : some a.block = some b := hb
    cases e
    exact ⟨_, rfl, h.1⟩
  · rename_i p _ _
    cases p <;> first | (exfalso; simp [blk] at hb; done) | skip
    cases y <;> first | (exfalso; simp [cel] at h; done) | skip
    rename_i a q _ _
    cases q <;> first | (exfalso; simp [cel, oadr] at h; done) | skip
    have e : some a.block = some b := hb
    cases e
    exact ⟨_, rfl, h.1.1⟩

theorem one_blk {β : Rel} {x y : Value} (h : one β x y) {b : Nat} (hb : blk x = some b) : ∃ c, blk y = some c ∧ β b c := by
  cases x <;> first | (exfalso; simp [blk] at hb; done) | skip
  all_goals exact cel_blk (by cases y <;> exact h) hb

theorem val_blk {β : Rel} {x y : Value} (h : val β x y) {b : Nat} (hb : blk x = some b) : ∃ c, blk y = some c ∧ β b c := by
  cases x <;> first | (exfalso; simp [blk] at hb; done) | skip
  all_goals exact one_blk (by cases y <;> exact h) hb

theorem arr_bound {β : Rel} {xs ys : Array Value} {w w' : World} (h : arr (one β) xs ys) (hw : W β w w') : ∀ (i : Nat) (b : Nat), blk (xs.getD i undef) = some b → b < w.heap.size := by
  intro i b hb
  rw [Array.getD_eq_getD_getElem?] at hb
  cases hx : xs[i]? with
  | none => rw [hx] at hb; exact absurd hb (by simp [undef, blk])
  | some x =>
    rw [hx] at hb
    obtain ⟨y, _, hy⟩ := h.get hx
    obtain ⟨c, _, hc⟩ := one_blk hy hb
    exact (hw.size hc).1

theorem Dist.enter {C : Nat → Nat} {args : Array Value} {n k : Nat} {w : World} (hsz : args.size ≤ k) (hbx : ∀ s t, s < k → t < k → C s ≠ 0 → C t ≠ 0 → C s = C t) (hb : ∀ (i : Nat) (b : Nat), blk (args.getD i undef) = some b → b < w.heap.size) :
    Dist C { tmps := args ++ Array.replicate n undef, defers := [] } w := by
  have get : ∀ s b, blk ((args ++ Array.replicate n undef).getD s undef) = some b → s < args.size ∧ blk (args.getD s undef) = some b := by
    intro s b h
    simp only [Array.getD_eq_getD_getElem?, Array.getElem?_append] at h ⊢
    split at h
    · exact ⟨‹_›, h⟩
    · rw [Array.getElem?_replicate] at h
      split at h <;> exact absurd h (by simp [undef, blk])
  refine ⟨fun s hc b h => hb s b (get s b h).2, fun s t hs ht hne b c h h' => ?_⟩
  exact absurd (hbx s t (Nat.lt_of_lt_of_le (get s b h).1 hsz) (Nat.lt_of_lt_of_le (get t c h').1 hsz) hs ht) hne

section
variable {V : Env} {dr : FuncId → Array Oper → Bool} {v : Value} {w0 : World} {N : Nat}

theorem leaving_on {b : Frame} {a1 : Act} {todo : List Item} {fr : Frame} {cs : List Frame} {w1 : World} {fn : Func} {K : Nat} (hf : V.P.funcs[b.fn]? = some fn) (hk : b.kind = .normal) (hd : a1.defers = [])
    (h : Ends V.P v w0 K (lone { b.at a1 todo with mode := .returning } (fr :: cs) w1)) (hcs : cs ≠ []) : ∃ v1 K', K = K' + 1 ∧ (results fn a1.tmps).run V.P w1 = .ok v1 w1 ∧ Ends V.P v w0 K' (lone (fr.finish v1) cs w1) := by
  have hK : ∃ K', K = K' + 1 := by
    cases K with
    | succ K' => exact ⟨K', rfl⟩
    | zero =>
      obtain ⟨fr', h1, h2⟩ := h
      simp only [runN, Stepped.next.injEq] at h1
      obtain ⟨_, e, _⟩ := lone_inj h1
      exact absurd (List.cons.inj e).2 hcs
  obtain ⟨K', rfl⟩ := hK
  cases hr : (results fn a1.tmps).run V.P w1 with
  | ok v1 w2 =>
    have e := results_still hr
    subst e
    refine ⟨v1, K', rfl, rfl, h.on (step_leave_returned ⟨rfl, hd, hk, fn, hf, hr⟩)⟩
  | halt x w2 =>
    have hs : ∃ o, Go.step V.P (lone { b.at a1 todo with mode := .returning } (fr :: cs) w1) = .ended o w2 := by
      cases x <;> exact ⟨_, step_lone_ended (by simp [stepG, unwind, Frame.at, hd, hf, hr]; rfl)⟩
    obtain ⟨o, hs⟩ := hs
    exact (h.ended hs).elim

theorem call_at (hv : Given V dr) (ih : ∀ M, M < N → At V dr v w0 M) {g : FuncId} (hg : V.F g = true) {args : Array Value} {w : World} (hmate : ∃ args' w' β, arr (one β) args args' ∧ W β w w') (htz : w.tape = fun _ _ => 0) (hsz : ∀ fn, V.P.funcs[g]? = some fn → args.size ≤ fn.params.size) {fr : Frame} {cs : List Frame}
    (hgood : Good V.P (fr :: cs)) (hcs : cs ≠ []) {M : Nat} (hM : M < N) (h : Ends V.P v w0 M (lone (Frame.enter V.P g args .normal) (fr :: cs) w)) : Called V v w0 g args w fr cs M := by
  rcases hv.fns g hg with ⟨fn, c, ok⟩ | ht
  case inr => exact ht v w0 args w fr cs M hmate htz hgood hcs h
  let b : Frame := { (default : Frame) with fn := g, kind := .normal }
  have henter : ∀ args, Frame.enter V.P g args .normal = b.at { tmps := args ++ Array.replicate (fn.ntmps - args.size) undef, defers := [] } [.code c] := by
    intro args
    simp [Frame.enter, Frame.at, ok.is_, ok.body, b]
  rw [henter] at h
  have hm : Mate V b.fn { tmps := args ++ Array.replicate (fn.ntmps - args.size) undef, defers := [] } w := by
    obtain ⟨args', w', β, ha, hw⟩ := hmate
    exact ⟨⟨htz, Dist.enter (hsz fn ok.is_) ok.bx (arr_bound ha hw)⟩, _, w', β, AR.enter ha fn.ntmps, hw⟩
  obtain ⟨e, a1, w1, K, hK, hkeep, hcont, hwp⟩ := ih M hM c _ w b [] (fr :: cs) ok.code hgood (by simp) hm h
  have hend : (e = .normal ∨ e = .ret) ∧ ∃ todo K2, K2 ≤ K ∧ Ends V.P v w0 K2 (lone { b.at a1 todo with mode := .returning } (fr :: cs) w1) := by
    cases e with
    | normal =>
      have hc : Ends V.P v w0 K (lone (b.at a1 []) (fr :: cs) w1) := hcont
      obtain ⟨K2, rfl, h2⟩ := hc.next rfl step_end
      exact ⟨.inl rfl, [], K2, by omega, h2⟩
    | ret =>
      obtain ⟨todo, h2⟩ := hcont
      exact ⟨.inr rfl, todo, K, Nat.le_refl _, h2⟩
    | exit id =>
      obtain ⟨k', h1, _⟩ := hcont
      exact absurd h1 (by simp [exitTo])
    | goto l => exact hcont.elim
    | panic ch => exact hcont.elim
    | outgrown => exact hcont.elim
  obtain ⟨he, todo, K2, hK2, h2⟩ := hend
  have hd : a1.defers = [] := by
    obtain ⟨args', w', β, ha, hw⟩ := hmate
    obtain ⟨e', a1', w1', ⟨_, β', _, _, har⟩, _⟩ := hwp _ w' β (AR.enter ha fn.ntmps) hw b [] []
    exact har.still.1
  obtain ⟨v1, K3, rfl, hres, h3⟩ := leaving_on (b := b) ok.is_ rfl hd h2 hcs
  have hst : ∀ s base, (∀ i, V.tab s g i = true → above base (args.getD i undef)) → Fresh (V.tab s b.fn) base { tmps := args ++ Array.replicate (fn.ntmps - args.size) undef, defers := [] } := by
    intro s base hfr t ht
    have := hfr t ht
    show above base ((args ++ Array.replicate (fn.ntmps - args.size) undef).getD t undef)
    simp only [Array.getD_eq_getD_getElem?, Array.getElem?_append] at this ⊢
    split
    · exact this
    · rw [Array.getElem?_replicate]
      split <;> exact trivial
  refine ⟨v1, w1, K3, by omega, ⟨⟨hkeep.1.1, fun base hb hfr b hlt => (hkeep.1.2 true base hb (hst true base hfr)).2 b hlt⟩, hkeep.2.1⟩, fun base hb hfr fn' r hf' hr' hg' => ?_, h3, ?_⟩
  · have e : fn' = fn := Option.some.inj (hf'.symm.trans ok.is_)
    subst e
    rw [results_one hr' hres]
    exact (hkeep.1.2 false base hb (hst false base hfr)).1 r hg'
  intro args' w' β ha hw
  refine calls_of_wp ok.is_ ok.body (wp_mono (hwp _ w' β (AR.enter ha fn.ntmps) hw) ?_)
  rintro e' a1' w1' ⟨rfl, β', hext, hW, har⟩
  obtain ⟨β2, v1', w2', r1, r2, r3, r4, r5⟩ := SR.run (SR.results (st := false) har ok.res) hW hres
  have e2 := results_still r1
  subst e2
  have goal : a1'.defers = [] ∧ ∃ v', (results fn a1'.tmps).run V.P w2' = .ok v' w2' ∧ (∃ v1' β', Ending.returned v' = .returned v1' ∧ Ext β β' w w' w1 w2' ∧ W β' w1 w2' ∧ val β' v1 v1' ∧ ((∀ fn, V.P.funcs[g]? = some fn → fn.results.size ≤ 1) → one β' v1 v1')) :=
    ⟨har.still.2, v1', r1, v1', β2, rfl, hext.trans r2, r3, r4, fun hh => r5 (hh fn ok.is_)⟩
  rcases he with rfl | rfl <;> exact goal
end
end Go.Tw
