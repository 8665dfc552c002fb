/-
  One run of one text: the other operations.
-/
import Derived.Test.YgcoaaGreatSfC
import Derived.Laws.FloatBits
set_option linter.unusedVariables false
set_option linter.unusedSimpArgs false
namespace Go.Sf

section
variable {P : Program} {Γ : Gam}

theorem fw_eq (k : FloatKind) : fw k = k.format.width := by cases k <;> rfl

theorem US.floatArith {op : BinOp} {k : FloatKind} {x y : Nat} (hop : op = .add ∨ op = .sub ∨ op = .mul ∨ op = .quo) : US P (fun Γ v => one Γ (.flt k) v) Γ (Op.floatArith op k x y) := by
  have fin : ∀ r : Option Nat, (∀ z, r = some z → z < 2 ^ fw k) → US P (fun Γ v => one Γ (.flt k) v) Γ (match r with | some r => pure (.float k r) | none => do pure (.float k (← choose (.nanBits k x y))) : Sem Value) := by
    intro r hr
    cases r with
    | some z => exact ⟨z, rfl, hr z rfl⟩
    | none =>
      refine ⟨_, rfl, ?_⟩
      cases k <;> simp [Question.forced, Question.cut, fw]
  rcases hop with rfl | rfl | rfl | rfl
  · exact fin _ fun z hz => by rw [fw_eq]; exact Ieee.Format.add_lt _ hz
  · exact fin _ fun z hz => by rw [fw_eq]; exact Ieee.Format.sub_lt _ hz
  · exact fin _ fun z hz => by rw [fw_eq]; exact Ieee.Format.mul_lt _ hz
  · exact fin _ fun z hz => by rw [fw_eq]; exact Ieee.Format.div_lt _ hz

def isCmp : BinOp → Bool
  | .eql | .neq | .lss | .leq | .gtr | .geq => true
  | _ => false
def isEq : BinOp → Bool
  | .eql | .neq => true
  | _ => false

theorem anyBool {b : Bool} : one Γ (.bool none) (.bool b) := ⟨b, rfl, fun c hc => by cases hc⟩

theorem cmpF {op : BinOp} (h : isCmp op = true) (k : FloatKind) (x y : Nat) : US P (fun Γ v => one Γ (.bool none) v) Γ (Op.floatCmp op k x y) := by
  have : ∃ b, Op.floatCmp op k x y = pure (.bool b) := by cases op <;> first | exact ⟨_, rfl⟩ | (exfalso; simp [isCmp] at h; done)
  obtain ⟨b, e⟩ := this
  rw [e]
  exact anyBool (Γ := Γ)
theorem cmpS {op : BinOp} (h : isCmp op = true) (x y : ByteArray) : US P (fun Γ v => one Γ (.bool none) v) Γ (Op.stringOp op x y) := by
  have : ∃ b, Op.stringOp op x y = pure (.bool b) := by cases op <;> first | exact ⟨_, rfl⟩ | (exfalso; simp [isCmp] at h; done)
  obtain ⟨b, e⟩ := this
  rw [e]
  exact anyBool (Γ := Γ)

/-- What an operator yields. -/
def aBin (P : Program) (E : TypeId → Option D) (op : BinOp) (t : TypeId) : D → D → Option D
  | (.mk (.inl (.inl (k, a, b)))), (.mk (.inl (.inl (k', c, d)))) =>
    match op with
    | .shl | .shr => aShift op k a b c d
    | _ => if k = k' then aInt op k a b c d else none
  | (.mk (.inl (.inr (.inr (.inr (.inr (.inl k))))))), (.mk (.inl (.inr (.inr (.inr (.inr (.inl k'))))))) => if k = k' then (match op with | .add | .sub | .mul | .quo => some (.flt k) | _ => if isCmp op then some (.bool none) else none) else none
  | (.mk (.inl (.inr (.inr (.inr (.inl n)))))), (.mk (.inl (.inr (.inr (.inr (.inl m)))))) => match op with
    | .add => if n + m ≤ 9223372036854775807 then some (.str (n + m)) else none
    | _ => if isCmp op then some (.bool none) else none
  | (.mk (.inl (.inr (.inr (.inl _))))), (.mk (.inl (.inr (.inr (.inl _))))) => if isEq op then (match P.underlying t with | some .bool => some (.bool none) | _ => none) else none
  | (.mk (.inr (.inl (.inr (.inl (_, _)), _)))), (.mk (.inl (.inr (.inr (.inr (.inr (.inr (.inr (.inl ()))))))))) | (.mk (.inl (.inr (.inr (.inr (.inr (.inr (.inr (.inl ()))))))))), (.mk (.inr (.inl (.inr (.inl (_, _)), _)))) | (.mk (.inl (.inr (.inr (.inr (.inr (.inr (.inr (.inl ()))))))))), (.mk (.inl (.inr (.inr (.inr (.inr (.inr (.inr (.inl ()))))))))) => if isEq op then (match P.underlying t with | some (.slice _) => some (.bool none) | _ => none) else none
  | (.mk (.inr (.inl (.inl (), _)))), (.mk (.inl (.inr (.inr (.inr (.inr (.inr (.inl ())))))))) | (.mk (.inl (.inr (.inr (.inr (.inr (.inr (.inl ())))))))), (.mk (.inr (.inl (.inl (), _)))) | (.mk (.inl (.inr (.inr (.inr (.inr (.inr (.inl ())))))))), (.mk (.inl (.inr (.inr (.inr (.inr (.inr (.inl ())))))))) => if isEq op then (match P.underlying t with | some (.pointer _) => some (.bool none) | _ => none) else none
  | (.mk (.inr (.inl (.inr (.inr (.inl ())), l)))), (.mk (.inr (.inl (.inr (.inr (.inl ())), m)))) => if isEq op then (match E t with | some q => if leL le1 l q && leL le1 m q then some (.bool none) else none | none => none) else none
  | _, _ => none

theorem US.eqlOf {t : TypeId} {x y : Value} (h : US P (fun _ _ => True) Γ (Op.equal t x y)) : US P (fun Γ v => one Γ (.bool none) v) Γ (do pure (Value.bool (← Op.equal t x y))) ∧ US P (fun Γ v => one Γ (.bool none) v) Γ (do pure (Value.bool (!(← Op.equal t x y)))) :=
  ⟨US.bind' h fun Γ' _ _ _ => anyBool (Γ := Γ'), US.bind' h fun Γ' _ _ _ => anyBool (Γ := Γ')⟩

theorem US.equalB {t : TypeId} {a b : Bool} (h : P.underlying t = some .bool) : US P (fun _ _ => True) Γ (Op.equal t (.bool a) (.bool b)) := US.under h trivial
theorem US.equalS {t e : TypeId} {a b : Option Addr} {n m c d : Nat} (h : P.underlying t = some (.slice e)) (hn : a = none ∨ b = none) : US P (fun _ _ => True) Γ (Op.equal t (.slice a n c) (.slice b m d)) := by
  refine US.under h ?_
  rcases hn with rfl | rfl
  · exact trivial
  · cases a <;> exact trivial
theorem US.equalP {t e : TypeId} {a b : Option Addr} (h : P.underlying t = some (.pointer e)) (hn : a = none ∨ b = none) : US P (fun _ _ => True) Γ (Op.equal t (.pointer a) (.pointer b)) := by
  refine US.under h ?_
  rcases hn with rfl | rfl
  · exact trivial
  · cases a <;> exact trivial

/-- Types whose structs may be compared, if their cells are so. -/
def EqAll (P : Program) (E : TypeId → Option D) : Prop := ∀ t q, E t = some q → P.eqGuardType P.depth t = false ∧
  ∀ (Γ : Gam) (xs ys : Array Value), cells Γ q xs → cells Γ q ys → US P (fun _ _ => True) Γ (Op.equal t (.agg xs) (.agg ys))

theorem US.binOp {E : TypeId → Option D} (hE : EqAll P E) {op : BinOp} {t : TypeId} {x y : Value} {dx dy r : D} (hx : one Γ dx x) (hy : one Γ dy y) (h : aBin P E op t dx dy = some r) :
    US P (fun Γ v => one Γ r v) Γ (Go.binOp op t x y) := by
  unfold aBin at h
  split at h
  · -- ints
    obtain ⟨n, rfl, hn⟩ := hx
    obtain ⟨m, rfl, hm⟩ := hy
    rename_i k a b k' c d
    by_cases hs : op = .shl ∨ op = .shr
    · rcases hs with rfl | rfl
      · exact US.shift (k' := k') hn hm h
      · exact US.shift (k' := k') hn hm h
    · have h' : (if k = k' then aInt op k a b c d else none) = some r := by
        cases op <;> first | exact h | exact absurd (.inl rfl) hs | exact absurd (.inr rfl) hs
      by_cases hk : k = k'
      · rw [if_pos hk] at h'
        subst hk
        cases op
        all_goals (simp only [Go.binOp, ne_eq, not_true, if_false])
        all_goals first
          | exact absurd (.inl rfl) hs
          | exact absurd (.inr rfl) hs
          | exact US.intArith (by simp) hn hm h'
          | exact US.intDiv (by simp) hn hm h'
          | exact US.intBits (by simp) hn hm h'
          | exact US.intCmp (by simp) h'
          | (exfalso; simp [aInt] at h'; done)
      · rw [if_neg hk] at h'
        cases h'
  · obtain ⟨n, rfl, hn⟩ := hx
    obtain ⟨m, rfl, hm⟩ := hy
    split at h
    · rename_i hk
      subst hk
      cases op
      all_goals (simp only [Go.binOp, ne_eq, not_true, if_false])
      all_goals first
        | (exfalso; simp [isCmp] at h; done)
        | (obtain rfl := Option.some.inj h; exact US.floatArith (by simp))
        | (have h := (Option.some.inj h); subst h; exact cmpF rfl _ _ _)
    · cases h
  · obtain ⟨n, rfl, hn⟩ := hx
    obtain ⟨m, rfl, hm⟩ := hy
    cases op
    all_goals (simp only [Go.binOp])
    all_goals first
      | (exfalso; simp [isCmp] at h; done)
      | (have h := (Option.some.inj h); subst h; exact cmpS rfl _ _)
      | skip
    rename_i n0 m0
    have h' : (if n0 + m0 ≤ 9223372036854775807 then some (D.str (n0 + m0)) else none) = some r := h
    by_cases hle : n0 + m0 ≤ 9223372036854775807
    · rw [if_pos hle] at h'
      have h' := Option.some.inj h'
      subst h'
      unfold Op.stringOp
      have hmax : IntKind.i64.max = 9223372036854775807 := by simp [IntKind.max, IntKind.signed, IntKind.bits]
      dsimp only
      rw [if_neg (by rw [hmax]; omega)]
      exact ⟨_, rfl, by rw [ByteArray.size_append]; omega⟩
    · rw [if_neg hle] at h'
      cases h'
  · obtain ⟨n, rfl, hn⟩ := hx
    obtain ⟨m, rfl, hm⟩ := hy
    cases op <;> first | (exfalso; simp [isEq] at h; done) | skip
    all_goals
      simp only [isEq, if_true] at h
      split at h
      · rename_i hu
        cases h
        first | exact (US.eqlOf (US.equalB hu)).1 | exact (US.eqlOf (US.equalB hu)).2
      · cases h
  · obtain ⟨a, len, cap, rfl, _⟩ := hx
    have e : y = _ := hy
    subst e
    cases op <;> first | (exfalso; simp [isEq] at h; done) | skip
    all_goals
      simp only [isEq, if_true] at h
      split at h
      · rename_i hu
        cases h
        first | exact (US.eqlOf (US.equalS hu (.inr rfl))).1 | exact (US.eqlOf (US.equalS hu (.inr rfl))).2
      · cases h
  · obtain ⟨a, len, cap, rfl, _⟩ := hy
    have e : x = _ := hx
    subst e
    cases op <;> first | (exfalso; simp [isEq] at h; done) | skip
    all_goals
      simp only [isEq, if_true] at h
      split at h
      · rename_i hu
        cases h
        first | exact (US.eqlOf (US.equalS hu (.inl rfl))).1 | exact (US.eqlOf (US.equalS hu (.inl rfl))).2
      · cases h
  · have e : y = _ := hy
    have e' : x = _ := hx
    subst e e'
    cases op <;> first | (exfalso; simp [isEq] at h; done) | skip
    all_goals
      simp only [isEq, if_true] at h
      split at h
      · rename_i hu
        cases h
        first | exact (US.eqlOf (US.equalS hu (.inl rfl))).1 | exact (US.eqlOf (US.equalS hu (.inl rfl))).2
      · cases h
  · obtain ⟨a, rfl, _⟩ := hx
    have e : y = _ := hy
    subst e
    cases op <;> first | (exfalso; simp [isEq] at h; done) | skip
    all_goals
      simp only [isEq, if_true] at h
      split at h
      · rename_i hu
        cases h
        first | exact (US.eqlOf (US.equalP hu (.inr rfl))).1 | exact (US.eqlOf (US.equalP hu (.inr rfl))).2
      · cases h
  · obtain ⟨a, rfl, _⟩ := hy
    have e : x = _ := hx
    subst e
    cases op <;> first | (exfalso; simp [isEq] at h; done) | skip
    all_goals
      simp only [isEq, if_true] at h
      split at h
      · rename_i hu
        cases h
        first | exact (US.eqlOf (US.equalP hu (.inl rfl))).1 | exact (US.eqlOf (US.equalP hu (.inl rfl))).2
      · cases h
  · have e : y = _ := hy
    have e' : x = _ := hx
    subst e e'
    cases op <;> first | (exfalso; simp [isEq] at h; done) | skip
    all_goals
      simp only [isEq, if_true] at h
      split at h
      · rename_i hu
        cases h
        first | exact (US.eqlOf (US.equalP hu (.inl rfl))).1 | exact (US.eqlOf (US.equalP hu (.inl rfl))).2
      · cases h
  · obtain ⟨xs, rfl, hxs⟩ := hx
    obtain ⟨ys, rfl, hys⟩ := hy
    cases op <;> first | (exfalso; simp [isEq] at h; done) | skip
    all_goals
      simp only [isEq, if_true] at h
      split at h
      · rename_i q hq
        split at h
        · rename_i hh
          simp only [Bool.and_eq_true] at hh
          cases h
          have := (hE t q hq).2 Γ xs ys (hxs.le hh.1) (hys.le hh.2)
          first | exact (US.eqlOf this).1 | exact (US.eqlOf this).2
        · cases h
      · cases h
  · cases h

theorem US.eqGuard {E : TypeId → Option D} (hE : EqAll P E) {op : BinOp} {t : TypeId} {a b : Operand} {x y : Value} {dx dy r : D} (hx : one Γ dx x) (hy : one Γ dy y) (h : aBin P E op t dx dy = some r) :
    US P (fun _ _ => True) Γ (Go.eqGuard op t a b x y) := by
  have hag : ∀ xs ys, x = .agg xs → y = .agg ys → (op = .eql ∨ op = .neq) → P.eqGuardType P.depth t = false := by
    rintro xs ys rfl rfl hop
    have h1 : ∃ l, dx = .agg l := by
      cases dx using D.cs <;> simp [one, cel] at hx ⊢
    have h2 : ∃ l, dy = .agg l := by
      cases dy using D.cs <;> simp [one, cel] at hy ⊢
    obtain ⟨l, rfl⟩ := h1
    obtain ⟨m, rfl⟩ := h2
    rcases hop with rfl | rfl
    all_goals
      simp only [aBin, isEq, if_true] at h
      split at h
      · rename_i q hq
        exact (hE t q hq).1
      · cases h
  have hni : x ≠ .nilIface := by
    rintro rfl
    cases dx using D.cs <;> simp [one, cel] at hx
  have main : ∀ op : BinOp, (op = .eql ∨ op = .neq) → (∀ xs ys, x = .agg xs → y = .agg ys → P.eqGuardType P.depth t = false) → US P (fun _ _ => True) Γ (Go.eqGuard op t a b x y) := by
    intro op hop hag
    by_cases ha : (∃ xs, x = .agg xs) ∧ ∃ ys, y = .agg ys
    · obtain ⟨⟨xs, rfl⟩, ys, rfl⟩ := ha
      have := hag xs ys rfl rfl
      rcases hop with rfl | rfl
      all_goals
        show US P _ Γ (if (!P.eqGuardType P.depth t) = true then pure () else _)
        rw [this]
        exact trivial
    · have : Go.eqGuard op t a b x y = pure () := by
        rcases hop with rfl | rfl
        all_goals
          cases x <;> first | exact absurd rfl hni | rfl | skip
          cases y <;> first | rfl | exact absurd ⟨⟨_, rfl⟩, _, rfl⟩ ha
      rw [this]
      exact trivial
  cases op <;> first
    | exact main _ (.inl rfl) fun xs ys e e' => hag xs ys e e' (.inl rfl)
    | exact main _ (.inr rfl) fun xs ys e e' => hag xs ys e e' (.inr rfl)
    | exact trivial
end
end Go.Sf
