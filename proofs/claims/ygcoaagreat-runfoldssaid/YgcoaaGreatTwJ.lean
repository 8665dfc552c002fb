/-
  Two runs of one text: the first run, taken apart step by step.
-/
import Derived.Test.YgcoaaGreatTwYb
import Derived.Calls
set_option linter.unusedVariables false
set_option linter.unusedSimpArgs false
namespace Go.Tw

/-- A caller that ends the run if a panic comes to it. -/
def floor (P : Program) : Frame := { (default : Frame) with fn := P.funcs.size, todo := [.call default false Extern.FmtDoors.word #[]], defers := [], mode := .run, kind := .normal }

theorem floor_catches (P : Program) (chain : List PanicEntry) : ((floor P).raise chain).catches P = true := by
  have h : P.funcs[((floor P).raise chain).fn]? = none := by simp [floor, Frame.raise]
  unfold Frame.catches
  rw [h]
  show String.startsWith _ _ = true
  decide +kernel

/-- Within N steps the machine comes to the end of the function that lies on the floor. -/
def Ends (P : Program) (v : Value) (w' : World) (N : Nat) (m : Machine) : Prop := ∃ fr, runN P N m = .next (lone fr [floor P] w') ∧ fr.leaving P w' (.returned v)

section
variable {P : Program} {v : Value} {w' : World} {N : Nat} {m m1 : Machine}

theorem Ends.on (h : Ends P v w' (N + 1) m) (hs : Go.step P m = .next m1) : Ends P v w' N m1 := by
  obtain ⟨fr, h1, h2⟩ := h
  refine ⟨fr, ?_, h2⟩
  simpa [runN, hs] using h1

theorem Ends.back (h : Ends P v w' N m1) (hs : Go.step P m = .next m1) : Ends P v w' (N + 1) m := by
  obtain ⟨fr, h1, h2⟩ := h
  exact ⟨fr, by simpa [runN, hs] using h1, h2⟩

theorem Ends.ended (h : Ends P v w' (N + 1) m) {o : Outcome} {w1 : World} (hs : Go.step P m = .ended o w1) : False := by
  obtain ⟨fr, h1, h2⟩ := h
  simp [runN, hs] at h1

theorem lone_inj {fr fr' : Frame} {cs cs' : List Frame} {w w1 : World} (h : lone fr cs w = lone fr' cs' w1) : fr = fr' ∧ cs = cs' ∧ w = w1 := by
  simp only [lone, Machine.mk.injEq, Array.mk.injEq, List.cons.injEq, Goroutine.mk.injEq] at h
  exact ⟨h.2.1.1.1, h.2.1.1.2.1, h.1⟩

/-- A frame that runs is not at its end. -/
theorem Ends.pos {fr : Frame} {cs : List Frame} {w : World} (h : Ends P v w' N (lone fr cs w)) (hm : fr.mode = .run) : ∃ M, N = M + 1 := by
  cases N with
  | succ M => exact ⟨M, rfl⟩
  | zero =>
    obtain ⟨fr', h1, h2⟩ := h
    simp only [runN, Stepped.next.injEq] at h1
    obtain ⟨rfl, _, _⟩ := lone_inj h1
    exact absurd (hm.symm.trans h2.1) (by simp)

theorem Ends.next {fr : Frame} {cs : List Frame} {w : World} (h : Ends P v w' N (lone fr cs w)) (hm : fr.mode = .run) (hs : Go.step P (lone fr cs w) = .next m1) : ∃ M, N = M + 1 ∧ Ends P v w' M m1 := by
  obtain ⟨M, rfl⟩ := h.pos hm
  exact ⟨M, rfl, h.on hs⟩

/-- Callers without deferred calls, the floor at the end. -/
def Good (P : Program) : List Frame → Prop
  | [] => False
  | [c] => c = floor P
  | c :: cs => (c.defers = [] ∧ c.mode = .run) ∧ Good P cs

/-- Behind a panic nothing returns. -/
theorem Ends.panicking {fr : Frame} {cs : List Frame} {w : World} {chain : List PanicEntry} (hg : Good P cs) (hm : fr.mode = .panicking chain) (hd : fr.defers = []) : ¬ Ends P v w' N (lone fr cs w) := by
  induction cs generalizing fr N w with
  | nil => exact hg.elim
  | cons c cs ih =>
    intro h
    have hN : ∃ M, N = M + 1 := by
      cases N with
      | succ M => exact ⟨M, rfl⟩
      | zero =>
        obtain ⟨fr', h1, h2⟩ := h
        simp only [runN, Stepped.next.injEq] at h1
        obtain ⟨rfl, _, _⟩ := lone_inj h1
        exact absurd (hm.symm.trans h2.1) (by simp)
    obtain ⟨M, rfl⟩ := hN
    by_cases hc : fr.catches P = true
    · have hs : ∃ o, Go.step P (lone fr (c :: cs) w) = .ended o w :=
        ⟨_, step_lone_ended (by simp [stepG, unwind, hm, hd, hc]; rfl)⟩
      obtain ⟨o, hs⟩ := hs
      exact h.ended hs
    · have hs : Go.step P (lone fr (c :: cs) w) = .next (lone (c.raise chain) cs w) :=
        step_lone_go (by simp [stepG, unwind, hm, hd, hc])
      have h1 := h.on hs
      cases cs with
      | nil =>
        have hcf : c = floor P := hg
        subst hcf
        obtain ⟨K, rfl⟩ : ∃ K, M = K + 1 := by
          cases M with
          | succ K => exact ⟨K, rfl⟩
          | zero =>
            obtain ⟨fr', g1, g2⟩ := h1
            simp only [runN, Stepped.next.injEq] at g1
            obtain ⟨_, e, _⟩ := lone_inj g1
            exact absurd e (by simp)
        have hc2 := floor_catches P chain
        have hm2 : ((floor P).raise chain).mode = .panicking chain := rfl
        have hd2 : ((floor P).raise chain).defers = [] := rfl
        have hs2 : ∃ o, Go.step P (lone ((floor P).raise chain) [] w) = .ended o w :=
          ⟨_, step_lone_ended (by simp [stepG, unwind, hm2, hd2, hc2]; rfl)⟩
        obtain ⟨o, hs2⟩ := hs2
        exact h1.ended hs2
      | cons c2 cs =>
        obtain ⟨⟨g1, g2⟩, g3⟩ : (c.defers = [] ∧ c.mode = .run) ∧ Good P (c2 :: cs) := hg
        exact ih (fr := c.raise chain) g3 (by simp [Frame.raise, g2]) (by simp [Frame.raise, g1, g2]) h1

/-- What a text of one function looks at: its slots for several results (TT), the types whose '==' is asked (E). -/
structure Env where
  P : Program
  TT : FuncId → Nat → Bool
  E : TypeId → Bool
  F : FuncId → Bool
  FT : FuncId → Nat → Bool
  GT : FuncId → Nat → Bool
  /-- Colours: places of two colours lie apart. -/
  BX : FuncId → Nat → Nat

def Env.tab (V : Env) : Bool → FuncId → Nat → Bool
  | true => V.FT
  | false => V.GT

/-- Stores go to one's own memory, by both tables. -/
def okKeeps (V : Env) (f : FuncId) (o : Oper) : Bool := okKeep V.P V.GT (V.FT f) V.FT o && okKeep V.P V.GT (V.GT f) V.FT o && okCol (V.BX f) o

theorem okKeeps_tab {V : Env} {f : FuncId} {o : Oper} (h : okKeeps V f o = true) (s : Bool) : okKeep V.P V.GT (V.tab s f) V.FT o = true := by
  simp only [okKeeps, Bool.and_eq_true] at h
  cases s
  · exact h.1.2
  · exact h.1.1

theorem okKeeps_col {V : Env} {f : FuncId} {o : Oper} (h : okKeeps V f o = true) : okCol (V.BX f) o = true := by
  simp only [okKeeps, Bool.and_eq_true] at h
  exact h.2

/-- A call's result fits its slot. -/
def okDst (V : Env) (f : FuncId) (o : Oper) : Bool :=
  match o.op with
  | .call { callee := .value (.func g), args, .. } => V.F g && (match V.P.funcs[g]? with | some fn => decide (args.size ≤ fn.params.size) | none => false) && (match o.dst with | some d => V.TT f d || (match V.P.funcs[g]? with | some fn => fn.results.size ≤ 1 | none => false) | none => true)
  | .move (.tmp t) | .assign (.tmp t) => !V.TT f t || (match o.dst with | some d => V.TT f d | none => true)
  | .next .. => (match o.dst with | some d => V.TT f d | none => true)
  | _ => true

theorem okDst_tup {V : Env} {f : FuncId} {o : Oper} (h : okDst V f o = true) (d : Tmp) (hd : o.dst = some d) (ht : V.TT f d = false) : tupMove (V.TT f) o = false := by
  cases hm : tupMove (V.TT f) o with
  | false => rfl
  | true =>
    exfalso
    unfold okDst at h
    rcases tupMove_inv hm with ⟨t, ht', hop⟩ | ⟨x, _, e⟩
    · rcases hop with e | e <;> (rw [e] at h; simp [ht', hd, ht] at h)
    · rw [e] at h; simp [hd, ht] at h

/-- A text whose steps two runs take alike; 'dr': which of its drawn regions. -/
def okCode (V : Env) (f : FuncId) (dr : FuncId → Array Oper → Bool) : Code → Bool
  | .skip | .ret | .exit _ | .label _ => true
  | .seq x y => okCode V f dr x && okCode V f dr y
  | .cond c x y => okArg (V.TT f) c && okCode V f dr x && okCode V f dr y
  | .block _ c | .loop c => okCode V f dr c
  | .region _ ops d => (ops.all fun o => okOp2 V.P (V.TT f) V.E o && okDst V f o && okKeeps V f o) && (!d || dr f ops)
  | _ => false

def okRes (TT : Nat → Bool) : ResultVar → Bool
  | .tmp t => !TT t
  | .cell a _ => !TT a

/-- A function whose text two runs take alike. -/
structure OkFn (V : Env) (dr : FuncId → Array Oper → Bool) (g : FuncId) (fn : Func) (c : Code) : Prop where
  is_ : V.P.funcs[g]? = some fn
  body : fn.body = some c
  code : okCode V g dr c = true
  res : ∀ r ∈ fn.results.toList, okRes (V.TT g) r = true
  bx : ∀ s t, s < fn.params.size → t < fn.params.size → V.BX g s ≠ 0 → V.BX g t ≠ 0 → V.BX g s = V.BX g t

/-- Where the first run goes on. -/
def Cont (P : Program) (v : Value) (w0 : World) (N : Nat) (b : Frame) (k : List Item) (cs : List Frame) : Exit → Act → World → Prop
  | .normal, a, w => Ends P v w0 N (lone (b.at a k) cs w)
  | .exit id, a, w => ∃ k', exitTo id k = some k' ∧ Ends P v w0 N (lone (b.at a k') cs w)
  | .ret, a, w => ∃ todo, Ends P v w0 N (lone { b.at a todo with mode := .returning } cs w)
  | _, _, _ => False

/-- The two runs, both at their ends, are alike. -/
def Alike2 (TT : Nat → Bool) (β : Rel) (w w' : World) (a1 : Act) (w1 : World) (a1' : Act) (w1' : World) : Prop :=
  ∃ β', Ext β β' w w' w1 w1' ∧ W β' w1 w1' ∧ AR TT β' a1 a1'

/-- Memory that is not one's own stands. -/
def Keeps (V : Env) (f : FuncId) (a : Act) (w : World) (a1 : Act) (w1 : World) : Prop :=
  (w.heap.size ≤ w1.heap.size ∧ ∀ s base, base ≤ w.heap.size → Fresh (V.tab s f) base a → Fresh (V.tab s f) base a1 ∧ ∀ b, b < base → w1.heap[b]? = w.heap[b]?) ∧
    w1.tape = w.tape ∧ (Dist (V.BX f) a w → Dist (V.BX f) a1 w1)

theorem Keeps.refl {V : Env} {f : FuncId} {a : Act} {w : World} : Keeps V f a w a w := ⟨⟨Nat.le_refl _, fun _ _ _ h => ⟨h, fun _ _ => rfl⟩⟩, rfl, id⟩

theorem Keeps.trans {V : Env} {f : FuncId} {a a1 a2 : Act} {w w1 w2 : World} (h1 : Keeps V f a w a1 w1) (h2 : Keeps V f a1 w1 a2 w2) : Keeps V f a w a2 w2 := by
  refine ⟨⟨Nat.le_trans h1.1.1 h2.1.1, fun s base hb hf => ?_⟩, h2.2.1.trans h1.2.1, fun h => h2.2.2 (h1.2.2 h)⟩
  obtain ⟨p1, p2⟩ := h1.1.2 s base hb hf
  obtain ⟨q1, q2⟩ := h2.1.2 s base (Nat.le_trans hb h1.1.1) p1
  exact ⟨q1, fun b hlt => (q2 b hlt).trans (p2 b hlt)⟩

/-- There is a run beside it. -/
def Mate (V : Env) (f : FuncId) (a : Act) (w : World) : Prop := ((w.tape = fun _ _ => 0) ∧ Dist (V.BX f) a w) ∧ ∃ a' w' β, AR (V.TT f) β a a' ∧ W β w w'

/-- The law, for runs of N steps. -/
def At (V : Env) (dr : FuncId → Array Oper → Bool) (v : Value) (w0 : World) (N : Nat) : Prop :=
  ∀ (c : Code) (a : Act) (w : World) (b : Frame) (k : List Item) (cs : List Frame), okCode V b.fn dr c = true → Good V.P cs → cs ≠ [] → Mate V b.fn a w →
    Ends V.P v w0 N (lone (b.at a (.code c :: k)) cs w) →
    ∃ e a1 w1 M, M < N ∧ Keeps V b.fn a w a1 w1 ∧ Cont V.P v w0 M b k cs e a1 w1 ∧
      ∀ a' w' β, AR (V.TT b.fn) β a a' → W β w w' → c.wp V.P (fun e' a1' w1' => e' = e ∧ Alike2 (V.TT b.fn) β w w' a1 w1 a1' w1') a' w'
end
end Go.Tw
