/-
  Two runs of one text: places that are known to lie apart, and operations that do not look at a block.
-/
import Derived.Test.YgcoaaGreatTwX
set_option linter.unusedVariables false
set_option linter.unusedSimpArgs false
namespace Go.Tw

/-- The block of a place. -/
def blk : Value → Option Nat
  | .pointer (some a) => some a.block
  | .slice (some a) _ _ => some a.block
  | _ => none

/-- If it is a place, it lies in this block. -/
def near (x v : Value) : Prop := ∀ b, blk v = some b → blk x = some b

theorem near.refl (x : Value) : near x x := fun _ h => h

section
variable {P : Program} {base : Nat} {α γ : Type}

theorem near_sure (v : Value) : Gives P base (fun a => blk v = some a.block) (Instr.sureAddr v) := by
  cases v <;> first | exact trivial | skip
  rename_i a
  cases a <;> first | exact trivial | exact rfl

theorem blk_add {a : Addr} {n : Nat} : (a.add n).block = a.block := by
  unfold Addr.add
  split <;> rfl

theorem near_fieldAt {s : TypeId} {v : Value} {i : Nat} : Gives P base (near v) (Instr.fieldAt s v i) := by
  refine Gives.bind (gives_under s) fun d _ => ?_
  cases d <;> first | exact trivial | skip
  rename_i fs
  dsimp only
  cases fs[i]? with
  | none => exact trivial
  | some f =>
    refine Gives.bind (near_sure v) fun a ha => ?_
    refine Gives.bind (Q1 := fun b : Addr => b.block = a.block) ?_ fun b hb => ?_
    · refine Gives.bind (gives_size _) fun n _ => ?_
      refine Gives.ite ?_ blk_add
      refine Gives.bind (gives_byteOf _) fun n _ => ?_
      refine Gives.bind (gives_byteOf _) fun m _ => ?_
      show Addr.block (if _ then _ else _) = _
      split <;> rfl
    · intro c hc
      have : some b.block = some c := hc
      rw [ha, ← this, hb]

theorem near_indexAt {t : TypeId} {x i : Value} : Gives P base (near x) (Instr.indexAt t x i) := by
  refine Gives.bind (gives_int i) fun p _ => ?_
  obtain ⟨k, n⟩ := p
  refine Gives.bind (gives_under t) fun d _ => ?_
  have rest : ∀ (u : Unsupported) (a : Option Addr) (len : Nat) (e : TypeId), (∀ b, a = some b → blk x = some b.block) → Gives P base (near x) (do
      let tiny := len ≤ 1 && (match ← underlying t with | .array .. => true | _ => false)
      match a with
      | some a =>
        if 0 ≤ n ∧ n < len then pure (.pointer (some (a.add (n.toNat * (← sizeOf e)))))
        else if tiny then unsupported u
        else boundsPanic k n len .index
      | none => boundsPanic k n 0 .index) := by
    intro u a len e ha
    refine Gives.bind (gives_under t) fun d _ => ?_
    cases a with
    | none => exact gives_bounds _ _ _ _
    | some a =>
      refine Gives.ite (Gives.bind (gives_size e) fun m _ => ?_) (Gives.ite trivial (gives_bounds _ _ _ _))
      intro c hc
      have : some (a.add _).block = some c := hc
      rw [ha a rfl, ← this, blk_add]
  cases d <;> first | exact trivial | skip
  · cases x <;> first | exact trivial | skip
    rename_i a _ _
    exact rest _ a _ _ fun b hb => by subst hb; rfl
  · exact Gives.bind (near_sure x) fun a ha => rest _ (some a) _ _ fun b hb => by cases hb; exact ha

/-- An operation whose place is new, or lies where another place of its colour lies. -/
def okCol (C : Nat → Nat) (o : Oper) : Bool :=
  match o.dst with
  | none => true
  | some d => C d == 0 || (match o.op with
    | .alloc _ | .box .. => true
    | .move (.tmp x) | .assign (.tmp x) | .nilCheck (.tmp x) | .fieldAddr _ (.tmp x) _ | .indexAddr _ (.tmp x) _ => C x == C d
    | _ => false)

/-- Places of two colours lie apart. -/
def Dist (C : Nat → Nat) (a : Act) (w : World) : Prop :=
  (∀ s, C s ≠ 0 → ∀ b, blk (a.tmps.getD s undef) = some b → b < w.heap.size) ∧
  ∀ s t, C s ≠ 0 → C t ≠ 0 → C s ≠ C t → ∀ b c, blk (a.tmps.getD s undef) = some b → blk (a.tmps.getD t undef) = some c → b ≠ c

theorem Dist.size {C : Nat → Nat} {a : Act} {w w1 : World} (h : Dist C a w) (hs : w.heap.size ≤ w1.heap.size) : Dist C a w1 :=
  ⟨fun s hc b hb => Nat.lt_of_lt_of_le (h.1 s hc b hb) hs, h.2⟩

theorem put_getD {a : Act} {d : Option Tmp} {x : Value} (s : Nat) : (a.put d x).tmps.getD s undef = a.tmps.getD s undef ∨ (d = some s ∧ (a.put d x).tmps.getD s undef = x) := by
  cases d with
  | none => exact .inl rfl
  | some d =>
    show (a.tmps.setIfInBounds d x).getD s undef = _ ∨ _
    rw [Array.getD_eq_getD_getElem?, Array.getElem?_setIfInBounds]
    by_cases e : d = s
    · subst e
      by_cases hl : d < a.tmps.size
      · refine .inr ⟨rfl, ?_⟩
        show (a.tmps.setIfInBounds d x).getD d undef = x
        rw [Array.getD_eq_getD_getElem?, Array.getElem?_setIfInBounds]
        simp [hl]
      · refine .inl ?_
        simp [hl]
    · refine .inl ?_
      simp [e]

theorem Dist.put_old {C : Nat → Nat} {a : Act} {w w1 : World} (h : Dist C a w) (hs : w.heap.size ≤ w1.heap.size) {d : Option Tmp} {x : Value} (hd : ∀ t, d = some t → C t ≠ 0 → blk x ≠ none → ∃ s, C s = C t ∧ near (a.tmps.getD s undef) x) : Dist C (a.put d x) w1 := by
  have back : ∀ s, C s ≠ 0 → ∀ b, blk ((a.put d x).tmps.getD s undef) = some b → ∃ s', C s' = C s ∧ blk (a.tmps.getD s' undef) = some b := by
    intro s hc b hb
    rcases put_getD (a := a) (d := d) (x := x) s with e | ⟨e, e2⟩
    · rw [e] at hb; exact ⟨s, rfl, hb⟩
    · rw [e2] at hb
      obtain ⟨s', h1, h2⟩ := hd s e hc (by rw [hb]; simp)
      exact ⟨s', h1, h2 b hb⟩
  refine ⟨fun s hc b hb => ?_, fun s t hs' ht hne b c hb hc => ?_⟩
  · obtain ⟨s', h1, h2⟩ := back s hc b hb
    exact Nat.lt_of_lt_of_le (h.1 s' (by rw [h1]; exact hc) b h2) hs
  · obtain ⟨s1, h1, h2⟩ := back s hs' b hb
    obtain ⟨t1, h3, h4⟩ := back t ht c hc
    exact h.2 s1 t1 (by rw [h1]; exact hs') (by rw [h3]; exact ht) (by rw [h1, h3]; exact hne) b c h2 h4

theorem Dist.put_new {C : Nat → Nat} {a : Act} {w w1 : World} (h : Dist C a w) (hs : w.heap.size ≤ w1.heap.size) {d : Option Tmp} {x : Value} (hx : ∀ b, blk x = some b → w.heap.size ≤ b ∧ b < w1.heap.size) : Dist C (a.put d x) w1 := by
  refine ⟨fun s hc b hb => ?_, fun s t hs' ht hne b c hb hc => ?_⟩
  · rcases put_getD (a := a) (d := d) (x := x) s with e | ⟨e, e2⟩
    · rw [e] at hb
      exact Nat.lt_of_lt_of_le (h.1 s hc b hb) hs
    · rw [e2] at hb
      exact (hx b hb).2
  · rcases put_getD (a := a) (d := d) (x := x) s with e | ⟨e, e2⟩ <;> rcases put_getD (a := a) (d := d) (x := x) t with f | ⟨f, f2⟩
    · rw [e] at hb; rw [f] at hc
      exact h.2 s t hs' ht hne b c hb hc
    · rw [e] at hb; rw [f2] at hc
      have := h.1 s hs' b hb
      have := (hx c hc).1
      omega
    · rw [e2] at hb; rw [f] at hc
      have := h.1 t ht c hc
      have := (hx b hb).1
      omega
    · exfalso
      rw [e] at f
      cases f
      exact hne rfl

/-- Its places are those that were there, or new. -/
theorem op_dist {TT : Nat → Bool} {C : Nat → Nat} {a a' : Act} {β : Rel} {w w' w1 : World} {o : Oper} {x : Value} (ha : AR TT β a a') (hnf : ∀ t, o.op = .nilCheck (.tmp t) → ∀ f b c, a.eval (.tmp t) = .func f b c → b = #[]) (hc : okCol C o = true) (h : Dist C a w) (hs : w.heap.size ≤ w1.heap.size)
    (hb : ∀ b, blk x = some b → b < w1.heap.size) (hr : (execOp a.eval o).run P w = .ok (.value x) w1) : Dist C (a.put o.dst x) w1 := by
  obtain ⟨dst, op, type, pos, after, guard⟩ := o
  cases dst with
  | none => exact h.size hs
  | some d =>
    by_cases hd : C d = 0
    · exact h.put_old hs fun t ht hct => absurd (by cases ht; exact hd) hct
    simp only [okCol, beq_iff_eq, hd, Bool.or_eq_true, false_or] at hc
    have old : ∀ t, C t = C d → near (a.tmps.getD t undef) x → Dist C (a.put (some d) x) w1 := fun t hct hn => h.put_old hs fun t' ht' _ _ => ⟨t, by cases ht'; exact hct, hn⟩
    have new : above w.heap.size x → Dist C (a.put (some d) x) w1 := by
      intro hab
      refine h.put_new hs fun b hbb => ⟨?_, hb b hbb⟩
      cases x <;> first | (exfalso; simp [blk] at hbb; done) | skip
      · rename_i q; cases q <;> first | (exfalso; simp [blk] at hbb; done) | skip
        have : some _ = some b := hbb
        cases this
        exact hab
      · rename_i q _ _; cases q <;> first | (exfalso; simp [blk] at hbb; done) | skip
        have : some _ = some b := hbb
        cases this
        exact hab
    cases op <;> first | (exfalso; simp at hc; done) | skip
    · rename_i y; cases y <;> first | (exfalso; simp at hc; done) | skip
      rename_i t
      cases hr
      exact old t (by simpa using hc) (near.refl _)
    · rename_i y; cases y <;> first | (exfalso; simp at hc; done) | skip
      rename_i t
      cases hr
      exact old t (by simpa using hc) (near.refl _)
    · exact new (Gives.run (gives_alloc _) (Nat.le_refl _) (run_val_inv hr))
    · exact new (Gives.run (gives_box _ _) (Nat.le_refl _) (run_val_inv hr))
    · -- nilCheck
      rename_i y; cases y <;> first | (exfalso; simp at hc; done) | skip
      rename_i t
      refine old t (by simpa using hc) ?_
      have hn := hnf t rfl
      have hr' : (match a.eval (.tmp t) with | .pointer none | .nilIface | .nilFunc => runtimePanic .nilDeref | .func (.method name) first captured => _ | x => pure (.value x) : Sem Next).run P w = _ := hr
      show near (a.eval (.tmp t)) x
      revert hr' hn
      generalize a.eval (.tmp t) = v
      intro hn hr'
      cases v <;> first
        | (cases hr'; exact near.refl _)
        | (rename_i c; cases c <;> first | (exfalso; cases hr'; done) | (cases hr'; exact near.refl _))
        | (exfalso; cases hr'; done)
        | (rename_i c d e
           have e1 := hn c d e rfl
           subst e1
           cases c <;> (cases hr'; exact near.refl _))
    · rename_i y i; cases y <;> first | (exfalso; simp at hc; done) | skip
      rename_i t
      exact old t (by simpa using hc) (Gives.run near_fieldAt (Nat.zero_le _) (run_val_inv hr))
    · rename_i y i; cases y <;> first | (exfalso; simp at hc; done) | skip
      rename_i t
      exact old t (by simpa using hc) (Gives.run near_indexAt (Nat.zero_le _) (run_val_inv hr))
end
end Go.Tw
