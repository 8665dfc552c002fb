/-
  Two runs of one text: operations in one order.
-/
import Derived.Test.YgcoaaGreatTwL
set_option linter.unusedVariables false
set_option linter.unusedSimpArgs false
namespace Go.Tw

theorem run_val {s : Sem Value} {P : Program} {w w1 : World} {f : FuncId} {xs : Array Value} : (do pure (Next.value (← s)) : Sem Next).run P w ≠ .ok (.enter f xs) w1 := by
  rw [Sem.run_bind]
  cases s.run P w <;> simp [Result.andThen, Sem.run_pure]

theorem run_unit {s : Sem Unit} {P : Program} {w w1 : World} {f : FuncId} {xs : Array Value} : (do s; pure Next.skip : Sem Next).run P w ≠ .ok (.enter f xs) w1 := by
  rw [Sem.run_bind]
  cases s.run P w <;> simp [Result.andThen, Sem.run_pure]

section
variable {V : Env} {dr : FuncId → Array Oper → Bool} {v : Value} {w0 : World} {N : Nat} {TT : Nat → Bool}

/-- Only a call enters a function: the one that it names. -/
theorem exec_enter {β : Rel} {a a' : Act} (hr : AR TT β a a') {o : Oper} {w w1 : World} {f : FuncId} {xs : Array Value} (hok2 : okOp2 V.P TT V.E o = true) (h : (execOp a.eval o).run V.P w = .ok (.enter f xs) w1) :
    ∃ as ts, o.op = .call { callee := .value (.func f), args := as, argTypes := ts } ∧ xs = as.map a.eval ∧ w1 = w := by
  have hok : okOp V.P TT V.E o = true := by
    cases ht : tupMove TT o with
    | false => simpa [okOp2, ht] using hok2
    | true =>
      exfalso
      obtain ⟨dst, op, type, pos, after, guard⟩ := o
      rcases tupMove_inv ht with ⟨t, _, hop⟩ | ⟨x, _, hop⟩
      · rcases hop with rfl | rfl <;> cases h
      · dsimp only at hop
        subst hop
        exact absurd h run_val
  obtain ⟨dst, op, type, pos, after, guard⟩ := o
  cases op with
  | call c =>
    obtain ⟨callee, args, ts⟩ := c
    cases callee with
    | value g =>
      cases g <;> first | (exfalso; simp [okOp] at hok; done) | skip
      rename_i g
      simp only [okOp, Bool.and_eq_true] at hok
      obtain ⟨h1, h2⟩ := hok
      cases hf : V.P.funcs[g]? with
      | none => rw [hf] at h2; exact absurd h2 (by simp)
      | some fn =>
        rw [hf] at h2
        simp only [Bool.and_eq_true, bne_iff_ne, ne_eq] at h2
        have hn : (fn.name == "runtime.NumGoroutine") = false := by simpa using h2.2
        have hb : fn.body.isNone = false := by
          cases hbb : fn.body with
          | none => rw [hbb] at h2; exact absurd h2.1 (by simp)
          | some b => rfl
        have hc : ∀ xs : Array Value, (callFunc g xs).run V.P w = .ok (.enter g xs) w := by
          intro xs
          show (match V.P.funcs[g]? with | none => _ | some fn => _ : Sem Next).run V.P w = _
          rw [hf]
          dsimp only
          rw [hn, hb]
          rfl
        have e : (execOp a.eval { dst := dst, op := .call { callee := .value (.func g), args := args, argTypes := ts }, type := type, pos := pos, after := after, guard := guard }).run V.P w = .ok (.enter g (#[] ++ args.map a.eval ++ #[])) w := hc _
        rw [e] at h
        cases h
        exact ⟨_, _, rfl, by simp, rfl⟩
    | invoke r m => exact absurd hok (by simp [okOp])
    | builtin b =>
      cases b <;> first | (exfalso; simp [okOp] at hok; done) | exact absurd h run_val
  | move x => cases h
  | assign x => cases h
  | nilCheck x =>
    exfalso
    revert h
    show (match a.eval x with | .pointer none | .nilIface | .nilFunc => runtimePanic .nilDeref | .func (.method name) first captured => _ | x => pure (.value x) : Sem Next).run V.P w = _ → False
    rcases one_kinds (hr.arg hok) with ⟨b, e, e'⟩ | ⟨k, n, e, e'⟩ | ⟨s, e, e'⟩ | ⟨c, c', e, e', hc⟩ | ⟨c, c', n, d, e, e', hc⟩ | ⟨f, e, e'⟩ | ⟨e, e'⟩ | ⟨c, c', e, e', hc⟩ <;> rw [e]
    all_goals first
      | (intro h; cases h; done)
      | (cases c <;> (intro h; cases h; done))
      | (cases f <;> (intro h; cases h; done))
  | pick c x y =>
    exfalso
    revert h
    show (do pure (Next.value (if ← asBool (a.eval c) then a.eval x else a.eval y)) : Sem Next).run V.P w = _ → False
    rw [Sem.run_bind]
    cases (asBool (a.eval c)).run V.P w <;> simp [Result.andThen, Sem.run_pure]
  | _ => first | exact absurd h run_val | exact absurd h run_unit | (exfalso; simp [okOp] at hok; done)

/-- A guard is seen alike. -/
theorem wanted_alike {β : Rel} {a a' : Act} (hr : AR TT β a a') (ops : Array Oper) (o : Oper) : Region.wanted o (yielded ops a'.tmps) = Region.wanted o (yielded ops a.tmps) := by
  have key : ∀ j, yielded ops a'.tmps j = yielded ops a.tmps j := by
    intro j
    unfold yielded
    cases hd : (ops[j]?).bind (·.dst) with
    | none => rfl
    | some t =>
      simp only [Option.bind_some]
      have ht := hr.tup t
      by_cases hlt : t < a.tmps.size
      · have hlt' : t < a'.tmps.size := by rw [← hr.size]; exact hlt
        rw [Array.getD_eq_getD_getElem?, Array.getD_eq_getD_getElem?, Array.getElem?_eq_getElem hlt, Array.getElem?_eq_getElem hlt'] at ht
        rw [Array.getElem?_eq_getElem hlt, Array.getElem?_eq_getElem hlt']
        simp only [Option.getD_some] at ht
        revert ht
        generalize a.tmps[t] = x
        generalize a'.tmps[t] = y
        intro ht
        cases x <;> cases y <;> first
          | rfl
          | (exfalso; simp [val, Tw.one, cel] at ht; done)
          | (have e : _ = _ := ht; rw [e])
      · have hlt' : ¬ t < a'.tmps.size := by rw [← hr.size]; exact hlt
        rw [Array.getElem?_eq_none (Nat.le_of_not_lt hlt'), Array.getElem?_eq_none (Nat.le_of_not_lt hlt)]
  unfold Region.wanted
  split
  · rfl
  · rw [key]

variable {P : Program} {b : Frame} {a : Act} {k : List Item} {cs : List Frame} {w w1 : World} {ops : Array Oper} {i : Nat} {rest : List Nat} {o : Oper}

theorem step_value (ho : ops[i]? = some o) (hw : Region.wanted o (yielded ops a.tmps) = true) {x : Value} (hr : (execOp a.eval o).run P w = .ok (.value x) w1) :
    Go.step P (lone (b.at a (.inRegion ops (i :: rest) :: k)) cs w) = .next (lone (b.at (a.put o.dst x) (.inRegion ops rest :: k)) cs w1) := by
  have hg := stepG_op (P := P) (b := b) (k := k) (cs := cs) (w := w) (rest := rest) ho hw
  have hfin : (b.at a (.inRegion ops (i :: rest) :: k)).finish x = b.at (a.put o.dst x) (.inRegion ops rest :: k) := by rw [Frame.finish_at, ho]; rfl
  exact step_lone_go (by rw [hg, ← hfin]; simp [stepG.apply, hr])

theorem step_skip' (ho : ops[i]? = some o) (hw : Region.wanted o (yielded ops a.tmps) = true) (hr : (execOp a.eval o).run P w = .ok .skip w1) :
    Go.step P (lone (b.at a (.inRegion ops (i :: rest) :: k)) cs w) = .next (lone (b.at (a.put o.dst undef) (.inRegion ops rest :: k)) cs w1) := by
  have hg := stepG_op (P := P) (b := b) (k := k) (cs := cs) (w := w) (rest := rest) ho hw
  have hfin : (b.at a (.inRegion ops (i :: rest) :: k)).finish undef = b.at (a.put o.dst undef) (.inRegion ops rest :: k) := by rw [Frame.finish_at, ho]; rfl
  exact step_lone_go (by rw [hg, ← hfin]; simp [stepG.apply, hr])

theorem step_enter (ho : ops[i]? = some o) (hw : Region.wanted o (yielded ops a.tmps) = true) {f : FuncId} {xs : Array Value} (hr : (execOp a.eval o).run P w = .ok (.enter f xs) w1) :
    Go.step P (lone (b.at a (.inRegion ops (i :: rest) :: k)) cs w) = .next (lone (Frame.enter P f xs .normal) (b.at a (.inRegion ops (i :: rest) :: k) :: cs) w1) := by
  have hg := stepG_op (P := P) (b := b) (k := k) (cs := cs) (w := w) (rest := rest) ho hw
  exact step_lone_go (by rw [hg]; simp [stepG.apply, hr, Frame.at])

/-- A stop that is no way on. -/
theorem no_halt (ho : ops[i]? = some o) (hw : Region.wanted o (yielded ops a.tmps) = true) {e : Halt} (hr : (execOp a.eval o).run P w = .halt e w1) (he : okHalt e = true) (hd : a.defers = []) (hg : Good P cs) {M : Nat} :
    ¬ Ends P v w0 M (lone (b.at a (.inRegion ops (i :: rest) :: k)) cs w) := by
  intro h
  have hs := stepG_op (P := P) (b := b) (k := k) (cs := cs) (w := w) (rest := rest) ho hw
  obtain ⟨K, rfl⟩ := h.pos rfl
  cases e with
  | panic x =>
    have : Go.step P (lone (b.at a (.inRegion ops (i :: rest) :: k)) cs w) = .next (lone ((b.at a (.inRegion ops (i :: rest) :: k)).raise [{ v := x, recovered := false }]) cs w1) :=
      step_lone_go (by rw [hs]; simp [stepG.apply, hr])
    refine Ends.panicking (chain := [{ v := x, recovered := false }]) hg ?_ ?_ (h.on this)
    · rfl
    · exact hd
  | unsupported u =>
    cases u <;> first
      | (exfalso; simp [okHalt] at he; done)
      | exact h.ended (step_lone_ended (by rw [hs]; simp [stepG.apply, hr]; exact ⟨rfl, rfl⟩))
  | stuck s => exact h.ended (step_lone_ended (by rw [hs]; simp [stepG.apply, hr]; exact ⟨rfl, rfl⟩))
  | _ => exact absurd he (by simp [okHalt])
end
end Go.Tw
