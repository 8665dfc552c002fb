/-
  Two runs of one text: further operations.
-/
import Derived.Test.YgcoaaGreatTwD
set_option linter.unusedVariables false
set_option linter.unusedSimpArgs false
namespace Go.Tw
section
variable {st : Bool} {P : Program} {β : Rel}

theorem SR.agg' {v v' : Value} (h : one β v v') {γ : Type} {R : Rel → γ → γ → Prop} {f g : Array Value → Sem γ} (hf : ∀ a a', arr (cel β) a a' → SR st P R β (f a) (g a')) :
    SR st P R β (asAgg v >>= f) (asAgg v' >>= g) := by
  cases v <;> first | exact SR.dead rfl rfl | skip
  cases v' <;> first | (exfalso; simp [Tw.one, cel] at h; done) | skip
  exact hf _ _ h

theorem SR.field {t : TypeId} {v v' : Value} {i : Nat} (h : one β v v') : SR st P one β (Instr.field t v i) (Instr.field t v' i) := by
  refine SR.under fun d hd => ?_
  cases d <;> first | exact SR.dead rfl rfl | skip
  rename_i fs
  dsimp only
  cases hf : fs[i]? with
  | none => exact SR.dead rfl rfl
  | some f => exact SR.agg' h fun a a' ha => SR.part ha

theorem SR.index {t : TypeId} {x x' i i' : Value} (hx : one β x x') (hi : one β i i') : SR st P one β (Instr.index t x i) (Instr.index t x' i') := by
  refine SR.int hi fun k n _ => ?_
  refine SR.under fun d hd => ?_
  cases d <;> first | exact SR.dead rfl rfl | skip
  · cases x <;> first | exact SR.dead rfl rfl | skip
    cases x' <;> first | (exfalso; simp [Tw.one, cel] at hx; done) | skip
    have e : _ = _ := hx
    subst e
    dsimp only
    split
    · exact ⟨rfl, rfl⟩
    · exact SR.bounds _ _ _ _
  · cases x <;> first | exact SR.dead rfl rfl | skip
    cases x' <;> first | (exfalso; simp [Tw.one, cel] at hx; done) | skip
    refine SR.ite (fun _ => ?_) (fun _ => ?_)
    · exact SR.size fun m => SR.part hx
    · exact SR.bounds _ _ _ _

/-- What is alike is of one kind. -/
theorem one_kinds {x x' : Value} (h : one β x x') : (∃ b, x = .bool b ∧ x' = .bool b) ∨ (∃ k n, x = .int k n ∧ x' = .int k n) ∨ (∃ s, x = .string s ∧ x' = .string s) ∨
    (∃ a a', x = .pointer a ∧ x' = .pointer a' ∧ oadr β a a') ∨ (∃ a a' n c, x = .slice a n c ∧ x' = .slice a' n c ∧ oadr β a a') ∨
    (∃ f, x = .func f #[] #[] ∧ x' = .func f #[] #[]) ∨ (x = .tuple #[] ∧ x' = .tuple #[]) ∨ (∃ a a', x = .agg a ∧ x' = .agg a' ∧ arr (cel β) a a') := by
  cases x <;> cases x' <;> first | (exfalso; simp [Tw.one, cel] at h; done) | skip
  · have e : _ = _ := h
    subst e
    exact .inl ⟨_, rfl, rfl⟩
  · obtain ⟨e, e'⟩ : _ = _ ∧ _ = _ := h
    subst e e'
    exact .inr (.inl ⟨_, _, rfl, rfl⟩)
  · have e : _ = _ := h
    subst e
    exact .inr (.inr (.inl ⟨_, rfl, rfl⟩))
  · exact .inr (.inr (.inr (.inl ⟨_, _, rfl, rfl, h⟩)))
  · obtain ⟨h1, e, e'⟩ : oadr β _ _ ∧ _ = _ ∧ _ = _ := h
    subst e e'
    exact .inr (.inr (.inr (.inr (.inl ⟨_, _, _, _, rfl, rfl, h1⟩))))
  · obtain ⟨e1, e2, e3, e4, e5⟩ : _ = _ ∧ _ = _ ∧ _ = _ ∧ _ = _ ∧ _ = _ := h
    subst e1 e2 e3 e4 e5
    exact .inr (.inr (.inr (.inr (.inr (.inl ⟨_, rfl, rfl⟩)))))
  · exact .inr (.inr (.inr (.inr (.inr (.inr (.inr ⟨_, _, rfl, rfl, h⟩))))))
  · obtain ⟨e, e'⟩ : _ = _ ∧ _ = _ := h
    subst e e'
    exact .inr (.inr (.inr (.inr (.inr (.inr (.inl ⟨rfl, rfl⟩))))))

theorem SR.unary {op : UnOp} {x x' : Value} (hx : one β x x') : SR st P one β (Op.unary op x) (Op.unary op x') := by
  rcases one_kinds hx with ⟨b, rfl, rfl⟩ | ⟨k, n, rfl, rfl⟩ | ⟨s, rfl, rfl⟩ | ⟨a, a', rfl, rfl, ha⟩ | ⟨a, a', n, c, rfl, rfl, ha⟩ | ⟨f, rfl, rfl⟩ | ⟨rfl, rfl⟩ | ⟨a, a', rfl, rfl, ha⟩
  all_goals first
    | (cases op <;> first | exact SR.dead rfl rfl | exact rfl | exact ⟨rfl, rfl⟩)
    | (cases a <;> cases op <;> exact SR.dead rfl rfl)

/-- A struct's or an array's '==', alike. -/
def EqOk (P : Program) (t : TypeId) : Prop := ∀ (st : Bool) (β : Rel) xs xs' ys ys', arr (cel β) xs xs' → arr (cel β) ys ys' →
  SR st P (fun _ a b => a = b) β (Op.equal t (.agg xs) (.agg ys)) (Op.equal t (.agg xs') (.agg ys'))

theorem oadr.isNone {a a' : Option Addr} (h : oadr β a a') : a'.isNone = a.isNone := by
  cases a <;> cases a' <;> first | rfl | exact h.elim

theorem SR.shapeOf {r r' : Nat} (h : β r r') {γ : Type} {R : Rel → γ → γ → Prop} {f g : Option (TypeId × Nat) → Sem γ} (hf : ∀ s, SR st P R β (f s) (g s)) : SR st P R β (Go.shape r >>= f) (Go.shape r' >>= g) := ⟨h, hf⟩

theorem SR.numberAt {r r' : Nat} (h : β r r') {γ : Type} {R : Rel → γ → γ → Prop} {f g : Option (Addr × Bool) → Sem γ} (h0 : SR st P R β (f none) (g none))
    (hf : ∀ a a' l, adr β a a' → SR st P R β (f (some (a, l))) (g (some (a', l)))) : SR st P R β (Go.numberAt r >>= f) (Go.numberAt r' >>= g) := by
  refine ⟨h, fun s => ?_⟩
  cases s with
  | some s => exact h0
  | none =>
    refine ⟨h, fun o o' ho => ?_⟩
    cases o <;> cases o' <;> first | (exfalso; simp [obj] at ho; done) | exact h0 | skip
    obtain ⟨h1, e⟩ : adr β _ _ ∧ _ = _ := ho
    subst e
    exact hf _ _ _ h1

theorem SR.viewAt {r r' : Nat} (h : β r r') {γ : Type} {R : Rel → γ → γ → Prop} {f g : Option (Addr × TypeId) → Sem γ} (h0 : SR st P R β (f none) (g none)) : SR st P R β (Go.viewAt r >>= f) (Go.viewAt r' >>= g) := by
  refine ⟨h, fun s => ?_⟩
  cases s with
  | some s => exact h0
  | none =>
    refine ⟨h, fun o o' ho => ?_⟩
    cases o <;> cases o' <;> first | (exfalso; simp [obj] at ho; done) | exact h0

theorem SR.behind {a a' : Addr} (h : adr β a a') {γ : Type} {R : Rel → γ → γ → Prop} {f g : Addr × Bool → Sem γ}
    (hf : ∀ b b' l, adr β b b' → SR st P R β (f (b, l)) (g (b', l))) : SR st P R β (behindNumber a >>= f) (behindNumber a' >>= g) := by
  have e : ∀ (a : Addr) (f : Addr × Bool → Sem γ), (behindNumber a >>= f) = (Go.numberAt a.block >>= fun o => f (o.getD (a, false))) := fun a f => bind_bind _ _ _
  rw [e, e]
  exact SR.numberAt h.1 (hf _ _ _ h) fun b b' l hb => hf _ _ _ hb

theorem SR.byteOf {a a' : Addr} (h : adr β a a') : SR st P (fun _ a b => a = b) β (Go.byteOf a) (Go.byteOf a') := by
  obtain ⟨h1, h2, h3, h4⟩ := h
  obtain ⟨b, o, s⟩ := a
  obtain ⟨b', o', s'⟩ := a'
  dsimp only at h1 h2 h3 h4
  subst h2 h3
  cases s with
  | some s => exact rfl
  | none =>
    obtain ⟨u, e⟩ : ∃ u, ∀ (a : Addr) (f : PUnit → Sem Nat), (noView a >>= f) = (Go.viewAt a.block >>= fun v => (if v.isSome then unsupported u else pure ⟨⟩) >>= f) := ⟨_, fun a f => bind_bind _ _ _⟩
    show SR st P _ β (noView _ >>= _) (noView _ >>= _)
    rw [e, e]
    refine SR.viewAt h1 ?_
    refine SR.shapeOf h1 fun s => ?_
    cases s with
    | none => exact SR.dead rfl rfl
    | some s =>
      obtain ⟨e, c⟩ := s
      dsimp only
      split
      · exact rfl
      · split
        · exact rfl
        · exact SR.dead rfl rfl

/-- The kinds whose values are no bare places. -/
def plainKind : TypeDesc → Bool
  | .invalid | .bool | .int _ | .float _ | .complex _ | .string | .slice _ | .array _ _ | .map _ _ | .chan _ _ | .struct _ | .func _ _ _ | .interface _ | .tuple _ | .named _ _ => true
  | _ => false
/-- A type whose values are bare places. -/
def ptrLike (P : Program) (t : TypeId) : Bool := match P.underlying t with
  | some d => !plainKind d
  | none => false

/-- The one type whose '==' looks at places. -/
def noCC (P : Program) (t : TypeId) : Bool := match P.info? t with
  | some d => (match d.desc with | .named "sync.copyChecker" _ => false | _ => true)
  | none => true

theorem SR.equalPtr {t : TypeId} {a a' b b' : Addr} (hG : P.globals.size ≤ 1)
    (hnil : ptrLike P t = true → ∀ c d, ¬ (Value.pointer (some a) = .pointer (some c) ∧ Value.pointer (some b) = .pointer (some d)))
    (hcc : noCC P t = true) (ha : adr β a a') (hb : adr β b b') : SR st P (fun _ a b => a = b) β (Op.equal t (.pointer (some a)) (.pointer (some b))) (Op.equal t (.pointer (some a')) (.pointer (some b'))) := by
  refine SR.under fun d hd => ?_
  cases d <;> first
    | exact SR.dead rfl rfl
    | (refine absurd ⟨rfl, rfl⟩ (hnil ?_ _ _); simp [ptrLike, hd, plainKind]; done)
    | skip
  refine SR.behind ha fun c c' l hc => ?_
  refine SR.behind hb fun d d' l2 hd => ?_
  have f1 : (c.block == d.block && decide (c.block < P.globals.size)) = false := by
    have := hc.2.2.2.1
    simp only [Bool.and_eq_false_iff, decide_eq_false_iff_not]
    exact .inr (by omega)
  have f2 : (c'.block == d'.block && decide (c'.block < P.globals.size)) = false := by
    have := hc.2.2.2.2
    simp only [Bool.and_eq_false_iff, decide_eq_false_iff_not]
    exact .inr (by omega)
  show SR st P _ β (if (c.block == d.block && decide (c.block < P.globals.size)) = true then _ else _) (if (c'.block == d'.block && decide (c'.block < P.globals.size)) = true then _ else _)
  rw [f1, f2]
  refine SR.info fun i hi => ?_
  unfold noCC at hcc
  rw [hi] at hcc
  dsimp only at hcc ⊢
  split
  · rename_i e
    rw [e] at hcc
    exact absurd hcc (by simp)
  · exact SR.dead rfl rfl

theorem SR.equalAgg {t : TypeId} {a a' b b' : Array Value} (hagg : ((∃ fs, P.underlying t = some (.struct fs)) ∨ (∃ n e, P.underlying t = some (.array n e))) → EqOk P t) (ha : arr (cel β) a a') (hb : arr (cel β) b b') :
    SR st P (fun _ a b => a = b) β (Op.equal t (.agg a) (.agg b)) (Op.equal t (.agg a') (.agg b')) := by
  by_cases hs : (∃ fs, P.underlying t = some (.struct fs)) ∨ (∃ n e, P.underlying t = some (.array n e))
  · exact hagg hs st β _ _ _ _ ha hb
  · refine SR.under fun d hd => ?_
    cases d <;> first
      | exact SR.dead rfl rfl
      | exact (hs (Or.inl (Exists.intro _ hd))).elim
      | exact (hs (Or.inr (Exists.intro _ (Exists.intro _ hd)))).elim

theorem SR.equal {t : TypeId} {x x' y y' : Value} (hG : P.globals.size ≤ 1) (hx : one β x x') (hy : one β y y')
    (hnil : ptrLike P t = true → ∀ a b, ¬ (x = .pointer (some a) ∧ y = .pointer (some b)))
    (hagg : ((∃ fs, P.underlying t = some (.struct fs)) ∨ (∃ n e, P.underlying t = some (.array n e))) → EqOk P t) (hcc : noCC P t = true) : SR st P (fun _ a b => a = b) β (Op.equal t x y) (Op.equal t x' y') := by
  rcases one_kinds hx with ⟨b, rfl, rfl⟩ | ⟨k, n, rfl, rfl⟩ | ⟨s, rfl, rfl⟩ | ⟨a, a', rfl, rfl, ha⟩ | ⟨a, a', n, c, rfl, rfl, ha⟩ | ⟨f, rfl, rfl⟩ | ⟨rfl, rfl⟩ | ⟨a, a', rfl, rfl, ha⟩ <;>
  rcases one_kinds hy with ⟨b2, rfl, rfl⟩ | ⟨k2, n2, rfl, rfl⟩ | ⟨s2, rfl, rfl⟩ | ⟨c2, c2', rfl, rfl, hc⟩ | ⟨c2, c2', n2, d2, rfl, rfl, hc⟩ | ⟨f2, rfl, rfl⟩ | ⟨rfl, rfl⟩ | ⟨c2, c2', rfl, rfl, hc⟩
  all_goals first
    | exact SR.equalAgg hagg ha hc
    | (refine SR.under fun d hd => ?_; cases d <;> first | exact SR.dead rfl rfl | exact rfl | (by_cases e : k = k2 <;> simp only [e, if_true, if_false] <;> first | exact rfl | exact SR.dead rfl rfl))
    | skip
  all_goals first
    | (cases a <;> cases a' <;> first
        | exact ha.elim
        | (refine SR.under fun d hd => ?_; cases d <;> first | exact SR.dead rfl rfl | exact rfl))
    | (cases c2 <;> cases c2' <;> first
        | exact hc.elim
        | (refine SR.under fun d hd => ?_; cases d <;> first | exact SR.dead rfl rfl | exact rfl))
    | (cases a <;> cases a' <;> first
        | exact ha.elim
        | (cases c2 <;> cases c2' <;> first
            | exact hc.elim
            | exact SR.equalPtr hG hnil hcc ha hc
            | (refine SR.under fun d hd => ?_; cases d <;> first | exact SR.dead rfl rfl | exact rfl)))
    | (cases n with
        | negSucc m =>
          (cases c2 <;> cases c2' <;> first
            | exact hc.elim
            | (refine SR.under fun d hd => ?_; cases d <;> first | exact SR.dead rfl rfl | exact rfl))
        | ofNat m =>
          (cases m <;> cases c2 <;> cases c2' <;> first
            | exact hc.elim
            | (refine SR.under fun d hd => ?_; cases d <;> first | exact SR.dead rfl rfl | exact rfl)))
    | (cases n2 with
        | negSucc m =>
          (cases a <;> cases a' <;> first
            | exact ha.elim
            | (refine SR.under fun d hd => ?_; cases d <;> first | exact SR.dead rfl rfl | exact rfl))
        | ofNat m =>
          (cases m <;> cases a <;> cases a' <;> first
            | exact ha.elim
            | (refine SR.under fun d hd => ?_; cases d <;> first | exact SR.dead rfl rfl | exact rfl)))
end
end Go.Tw
