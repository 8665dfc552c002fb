/-
  Two runs of one text: '+' and its like.
-/
import Derived.Test.YgcoaaGreatTwE
set_option linter.unusedVariables false
set_option linter.unusedSimpArgs false
namespace Go.Tw
section
variable {st : Bool} {P : Program} {β : Rel}

theorem SR.asNumber {a a' : Addr} {l : Bool} (h : adr β a a') : SR st P one β (asNumber a l) (asNumber a' l) :=
  ⟨⟨h, rfl⟩, fun β' r r' hl hr hp => ⟨hr, rfl, rfl, hp⟩⟩

theorem SR.movedNumber {t : TypeId} {x x' y y' : Value} {a a' : Option Addr} (hx : x = .pointer a) (hx' : x' = .pointer a') (h : oadr β a a') (hy : one β y y') : SR st P one β (movedNumber t x y) (movedNumber t x' y') := by
  subst hx hx'
  refine SR.under fun d hd => ?_
  cases d <;> first | exact SR.dead rfl rfl | skip
  all_goals
    cases a <;> cases a' <;> first | exact h.elim | skip
    · have e : ∀ (v : Value) (f : Int → Sem Value), (asInt v >>= f) = (asIntOf v >>= fun p => f p.2) := fun v f => bind_bind _ _ _
      show SR st P one β (asInt y >>= _) (asInt y' >>= _)
      rw [e, e]
      refine SR.int hy fun k n _ => ?_
      dsimp only
      by_cases hn : n = 0
      · subst hn
        exact SR.dead rfl rfl
      · simp only [hn, if_false]
        by_cases hm : n < 0
        · simp only [hm, if_true]
          exact SR.dead rfl rfl
        · simp only [hm, if_false]
          exact SR.dead rfl rfl
    · refine SR.behind h fun b b' l hb => ?_
      refine SR.bind' (S := one) ?_ fun β' v v' hle hv => ?_
      · have e : ∀ (v : Value) (f : Int → Sem Value), (asInt v >>= f) = (asIntOf v >>= fun p => f p.2) := fun v f => bind_bind _ _ _
        show SR st P one β (asInt y >>= _) (asInt y' >>= _)
        rw [e, e]
        refine SR.int hy fun k n _ => ?_
        dsimp only
        by_cases hn : n = 0
        · subst hn
          exact SR.viewAt hb.1 hb
        · simp only [hn, if_false]
          by_cases hm : n < 0
          · simp only [hm, if_true]
            exact SR.dead rfl rfl
          · simp only [hm, if_false]
            refine SR.shapeOf hb.1 fun s => ?_
            cases s with
            | none => exact SR.dead rfl rfl
            | some s =>
              obtain ⟨e, c⟩ := s
              show SR st P one β (match cellAtBytes P P.depth e (c / P.cellsOf e) b.off n with | some off => _ | none => _) (match cellAtBytes P P.depth e (c / P.cellsOf e) b'.off n with | some off => _ | none => _)
              rw [← hb.2.1]
              cases cellAtBytes P P.depth e (c / P.cellsOf e) b.off n with
              | none => exact SR.dead rfl rfl
              | some o => exact ⟨hb.1, rfl, hb.2.2.1, hb.2.2.2⟩
      rcases one_kinds hv with ⟨b, rfl, rfl⟩ | ⟨k, n, rfl, rfl⟩ | ⟨s, rfl, rfl⟩ | ⟨a, a', rfl, rfl, ha⟩ | ⟨a, a', n, c, rfl, rfl, ha⟩ | ⟨f, rfl, rfl⟩ | ⟨rfl, rfl⟩ | ⟨a, a', rfl, rfl, ha⟩
      all_goals first
        | exact hv
        | (cases a <;> cases a' <;> first | exact ha.elim | exact hv | exact SR.asNumber ha)

theorem SR.movedPointer {t : TypeId} {x x' y y' : Value} {a a' : Option Addr} (hx : x = .pointer a) (hx' : x' = .pointer a') (h : oadr β a a') (hy : one β y y') : SR st P one β (movedPointer t x y) (movedPointer t x' y') := by
  subst hx hx'
  cases a <;> cases a' <;> first | exact h.elim | skip
  · have e : ∀ (v : Value) (f : Int → Sem Value), (asInt v >>= f) = (asIntOf v >>= fun p => f p.2) := fun v f => bind_bind _ _ _
    show SR st P one β (asInt y >>= _) (asInt y' >>= _)
    rw [e, e]
    refine SR.int hy fun k n _ => ?_
    dsimp only
    by_cases hn : n = 0
    · subst hn
      exact SR.dead rfl rfl
    · simp only [hn, if_false]
      by_cases hm : n < 0
      · simp only [hm, if_true]
        exact SR.dead rfl rfl
      · simp only [hm, if_false]
        exact SR.dead rfl rfl
  · rename_i a a'
    refine SR.numberAt h.1 ?_ fun b b' l hb => ?_
    · have e : ∀ (v : Value) (f : Int → Sem Value), (asInt v >>= f) = (asIntOf v >>= fun p => f p.2) := fun v f => bind_bind _ _ _
      show SR st P one β (asInt y >>= _) (asInt y' >>= _)
      rw [e, e]
      refine SR.int hy fun k n _ => ?_
      dsimp only
      by_cases hn : n = 0
      · subst hn
        exact SR.viewAt h.1 h
      · simp only [hn, if_false]
        by_cases hm : n < 0
        · simp only [hm, if_true]
          exact SR.dead rfl rfl
        · simp only [hm, if_false]
          refine SR.shapeOf h.1 fun s => ?_
          cases s with
          | none => exact SR.dead rfl rfl
          | some s =>
            obtain ⟨e, c⟩ := s
            show SR st P one β (match cellAtBytes P P.depth e (c / P.cellsOf e) a.off n with | some off => _ | none => _) (match cellAtBytes P P.depth e (c / P.cellsOf e) a'.off n with | some off => _ | none => _)
            rw [← h.2.1]
            cases cellAtBytes P P.depth e (c / P.cellsOf e) a.off n with
            | none => exact SR.dead rfl rfl
            | some o => exact ⟨h.1, rfl, h.2.2.1, h.2.2.2⟩
    · exact SR.dead rfl rfl

theorem SR.deadP {γ : Type} {R : Rel → γ → γ → Prop} {k k' : Program → Sem γ} {e : Halt} (h : k P = .halt e) (he : okHalt e = true) : SR st P R β (.program k) (.program k') := by
  show SR st P R β (k P) (k' P)
  exact SR.dead h he

theorem SR.two {γ : Type} {R : Rel → γ → γ → Prop} {a a' b b' : Addr} (hG : P.globals.size ≤ 1) (h : adr β a a') {f g : Nat × Nat → Sem γ} : SR st P R β (Op.twoPlaces a b >>= f) (Op.twoPlaces a' b' >>= g) := by
  have e : (a.block != b.block || decide (a.block ≥ P.globals.size)) = true := by
    have := h.2.2.2.1
    simp only [Bool.or_eq_true, decide_eq_true_eq]
    exact .inr (by omega)
  refine SR.deadP (e := .unsupported .addressObserved) ?_ rfl
  show Sem.bind (if (a.block != b.block || decide (a.block ≥ P.globals.size)) = true then _ else _) f = _
  rw [if_pos e]
  rfl

theorem SR.addrSub {a a' b b' : Addr} {k : IntKind} (hG : P.globals.size ≤ 1) (h : adr β a a') : SR st P one β (Op.addrSub k a b) (Op.addrSub k a' b') := SR.two hG h
theorem SR.addrCmp {a a' b b' : Addr} {op : BinOp} (hG : P.globals.size ≤ 1) (h : adr β a a') : SR st P one β (Op.addrCmp op a b) (Op.addrCmp op a' b') := SR.two hG h
theorem SR.addrMod {a a' : Addr} {k : IntKind} {n : Int} (h : adr β a a') : SR st P one β (Op.addrMod k a n) (Op.addrMod k a' n) := by
  refine SR.shapeOf h.1 fun s => ?_
  cases s with
  | none => exact SR.dead rfl rfl
  | some s =>
    obtain ⟨e, c⟩ := s
    refine SR.info fun d hd => ?_
    dsimp only
    split
    · exact SR.dead rfl rfl
    · refine SR.bind' (SR.byteOf h) ?_
      rintro β' n _ _ rfl
      exact ⟨rfl, rfl⟩

theorem SR.binInt {op : BinOp} {t : TypeId} (k k2 : IntKind) (n n2 : Int) : SR st P one β (binOp op t (.int k n) (.int k2 n2)) (binOp op t (.int k n) (.int k2 n2)) := by
  by_cases e : k = k2
  · subst e
    cases op <;> simp only [binOp, ne_eq, not_true, if_false, Op.intArith, Op.intDiv, Op.intBits, Op.intCmp, Op.shift] <;> first
      | exact rfl
      | exact ⟨rfl, rfl⟩
      | exact SR.ite (fun _ => SR.pan _ _ rfl rfl) (fun _ => ⟨rfl, rfl⟩)
  · cases op <;> simp only [binOp, ne_eq, e, not_false_eq_true, if_true, Op.shift] <;> first
      | exact SR.dead rfl rfl
      | exact SR.ite (fun _ => SR.pan _ _ rfl rfl) (fun _ => ⟨rfl, rfl⟩)

theorem SR.binStr {op : BinOp} {t : TypeId} (s s2 : ByteArray) : SR st P one β (binOp op t (.string s) (.string s2)) (binOp op t (.string s) (.string s2)) := by
  cases op <;> simp only [binOp, Op.stringOp] <;> first
    | exact rfl
    | exact SR.dead rfl rfl
    | exact SR.ite (fun _ => SR.dead rfl rfl) (fun _ => rfl)

/-- What '==' and '!=' must not be asked. -/
structure EqFit (P : Program) (op : BinOp) (t : TypeId) (x y : Value) : Prop where
  nil : (op = .eql ∨ op = .neq) → ptrLike P t = true → ∀ a b, ¬ (x = .pointer (some a) ∧ y = .pointer (some b))
  agg : (op = .eql ∨ op = .neq) → ((∃ fs, P.underlying t = some (.struct fs)) ∨ (∃ n e, P.underlying t = some (.array n e))) → EqOk P t
  cc : (op = .eql ∨ op = .neq) → noCC P t = true

theorem SR.eql {t : TypeId} {x x' y y' : Value} (hG : P.globals.size ≤ 1) (hx : one β x x') (hy : one β y y') (h : EqFit P .eql t x y) : SR st P one β (do pure (.bool (← Op.equal t x y))) (do pure (.bool (← Op.equal t x' y'))) := by
  refine SR.bind' (SR.equal hG hx hy (h.nil (.inl rfl)) (h.agg (.inl rfl)) (h.cc (.inl rfl))) ?_
  rintro β' a _ _ rfl
  exact rfl
theorem SR.neq {t : TypeId} {x x' y y' : Value} (hG : P.globals.size ≤ 1) (hx : one β x x') (hy : one β y y') (h : EqFit P .neq t x y) : SR st P one β (do pure (.bool (!(← Op.equal t x y)))) (do pure (.bool (!(← Op.equal t x' y')))) := by
  refine SR.bind' (SR.equal hG hx hy (h.nil (.inr rfl)) (h.agg (.inr rfl)) (h.cc (.inr rfl))) ?_
  rintro β' a _ _ rfl
  exact rfl

set_option maxHeartbeats 2000000 in
theorem SR.binOp {op : BinOp} {t : TypeId} {x x' y y' : Value} (hG : P.globals.size ≤ 1) (hx : one β x x') (hy : one β y y') (h : EqFit P op t x y) : SR st P one β (Go.binOp op t x y) (Go.binOp op t x' y') := by
  by_cases e1 : op = .eql
  · subst e1
    rcases one_kinds hx with ⟨b, rfl, rfl⟩ | ⟨k, n, rfl, rfl⟩ | ⟨s, rfl, rfl⟩ | ⟨a, a', rfl, rfl, ha⟩ | ⟨a, a', n, c, rfl, rfl, ha⟩ | ⟨f, rfl, rfl⟩ | ⟨rfl, rfl⟩ | ⟨a, a', rfl, rfl, ha⟩ <;>
    rcases one_kinds hy with ⟨b2, rfl, rfl⟩ | ⟨k2, n2, rfl, rfl⟩ | ⟨s2, rfl, rfl⟩ | ⟨c2, c2', rfl, rfl, hc⟩ | ⟨c2, c2', n2, d2, rfl, rfl, hc⟩ | ⟨f2, rfl, rfl⟩ | ⟨rfl, rfl⟩ | ⟨c2, c2', rfl, rfl, hc⟩
    all_goals first
      | exact SR.binInt _ _ _ _
      | exact SR.binStr _ _
      | exact SR.eql hG hx hy h
  by_cases e2 : op = .neq
  · subst e2
    rcases one_kinds hx with ⟨b, rfl, rfl⟩ | ⟨k, n, rfl, rfl⟩ | ⟨s, rfl, rfl⟩ | ⟨a, a', rfl, rfl, ha⟩ | ⟨a, a', n, c, rfl, rfl, ha⟩ | ⟨f, rfl, rfl⟩ | ⟨rfl, rfl⟩ | ⟨a, a', rfl, rfl, ha⟩ <;>
    rcases one_kinds hy with ⟨b2, rfl, rfl⟩ | ⟨k2, n2, rfl, rfl⟩ | ⟨s2, rfl, rfl⟩ | ⟨c2, c2', rfl, rfl, hc⟩ | ⟨c2, c2', n2, d2, rfl, rfl, hc⟩ | ⟨f2, rfl, rfl⟩ | ⟨rfl, rfl⟩ | ⟨c2, c2', rfl, rfl, hc⟩
    all_goals first
      | exact SR.binInt _ _ _ _
      | exact SR.binStr _ _
      | exact SR.neq hG hx hy h
  clear h
  rcases one_kinds hx with ⟨b, rfl, rfl⟩ | ⟨k, n, rfl, rfl⟩ | ⟨s, rfl, rfl⟩ | ⟨a, a', rfl, rfl, ha⟩ | ⟨a, a', n, c, rfl, rfl, ha⟩ | ⟨f, rfl, rfl⟩ | ⟨rfl, rfl⟩ | ⟨a, a', rfl, rfl, ha⟩ <;>
  rcases one_kinds hy with ⟨b2, rfl, rfl⟩ | ⟨k2, n2, rfl, rfl⟩ | ⟨s2, rfl, rfl⟩ | ⟨c2, c2', rfl, rfl, hc⟩ | ⟨c2, c2', n2, d2, rfl, rfl, hc⟩ | ⟨f2, rfl, rfl⟩ | ⟨rfl, rfl⟩ | ⟨c2, c2', rfl, rfl, hc⟩
  all_goals first
    | exact SR.binInt _ _ _ _
    | exact SR.binStr _ _
    | (cases op <;> first | exact absurd rfl e1 | exact absurd rfl e2 | exact SR.dead rfl rfl)
    | skip
  all_goals first
    | (cases a <;> cases a' <;> first
        | exact ha.elim
        | (cases op <;> first | exact absurd rfl e1 | exact absurd rfl e2 | exact SR.dead rfl rfl))
    | skip
  · -- int, pointer
    cases op <;> first | exact absurd rfl e1 | exact absurd rfl e2 | exact SR.dead rfl rfl | skip
    · exact SR.movedNumber rfl rfl hc hx
    all_goals
      cases c2 <;> cases c2' <;> first
        | exact hc.elim
        | exact SR.dead rfl rfl
        | exact SR.behind hc fun b b' l hb => SR.addrMod hb
  · -- pointer, int
    cases op <;> first | exact absurd rfl e1 | exact absurd rfl e2 | exact SR.dead rfl rfl | skip
    · refine SR.under fun d hd => ?_
      cases d <;> first | exact SR.movedNumber rfl rfl ha hy | exact SR.movedPointer rfl rfl ha hy
    · exact SR.movedNumber rfl rfl ha ⟨rfl, rfl⟩
    all_goals
      cases a <;> cases a' <;> first
        | exact ha.elim
        | exact SR.dead rfl rfl
        | exact SR.behind ha fun b b' l hb => SR.addrMod hb
  · -- pointer, pointer
    cases a <;> cases a' <;> first | exact ha.elim | skip
    all_goals
      cases c2 <;> cases c2' <;> first | exact hc.elim | skip
    all_goals
      cases op <;> first
        | exact absurd rfl e1
        | exact absurd rfl e2
        | exact SR.dead rfl rfl
        | exact SR.behind ha fun b b' l hb => SR.behind hc fun d d' l2 hd => SR.addrSub hG hb
        | exact SR.behind ha fun b b' l hb => SR.behind hc fun d d' l2 hd => SR.addrCmp hG hb
end
end Go.Tw
