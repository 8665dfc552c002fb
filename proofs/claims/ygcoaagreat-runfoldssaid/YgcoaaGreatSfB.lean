/-
  One run of one text: the operations on memory.
-/
import Derived.Test.YgcoaaGreatSfA
set_option linter.unusedVariables false
set_option linter.unusedSimpArgs false
namespace Go.Sf

set_option synthInstance.maxSize 2000 in
/-- Equal, quickly told. -/
def D.eqb : D → D → Bool
  | (.mk (.inl (.inl (k, a, b)))), (.mk (.inl (.inl (k', a', b')))) => k == k' && (a == a' && b == b')
  | (.mk (.inl x)), (.mk (.inl y)) => decide (x = y)
  | (.mk (.inr (.inl (u, d)))), (.mk (.inr (.inl (u', d')))) => decide (u = u') && D.eqb d d'
  | (.mk (.inr (.inr (h, t)))), (.mk (.inr (.inr (h', t')))) => D.eqb h h' && D.eqb t t'
  | _, _ => false
set_option synthInstance.maxSize 2000 in
theorem D.eqb_eq : ∀ {x y : D}, D.eqb x y = true → x = y
  | (.mk (.inl (.inl (k, a, b)))), (.mk (.inl (.inl (k', a', b')))), h => by
    simp only [D.eqb, Bool.and_eq_true, beq_iff_eq] at h
    obtain ⟨h1, h2, h3⟩ := h
    rw [h1, h2, h3]
  | (.mk (.inl (.inr x))), (.mk (.inl (.inr y))), h => by
    simp only [D.eqb, decide_eq_true_eq] at h
    rw [h]
  | (.mk (.inl (.inl x))), (.mk (.inl (.inr y))), h => by simp [D.eqb] at h
  | (.mk (.inl (.inr x))), (.mk (.inl (.inl y))), h => by simp [D.eqb] at h
  | (.mk (.inr (.inl (u, d)))), (.mk (.inr (.inl (u', d')))), h => by
    simp only [D.eqb, Bool.and_eq_true, decide_eq_true_eq] at h
    rw [h.1, D.eqb_eq h.2]
  | (.mk (.inr (.inr (a, t)))), (.mk (.inr (.inr (a', t')))), h => by
    simp only [D.eqb, Bool.and_eq_true] at h
    rw [D.eqb_eq h.1, D.eqb_eq h.2]
  | (.mk (.inl x)), (.mk (.inr y)), h => by simp [D.eqb] at h
  | (.mk (.inr x)), (.mk (.inl y)), h => by simp [D.eqb] at h
  | (.mk (.inr (.inl x))), (.mk (.inr (.inr y))), h => by simp [D.eqb] at h
  | (.mk (.inr (.inr x))), (.mk (.inr (.inl y))), h => by simp [D.eqb] at h
set_option synthInstance.maxSize 2000 in
theorem D.eqb_self : ∀ (x : D), D.eqb x x = true
  | (.mk (.inl (.inl (k, a, b)))) => by simp [D.eqb]
  | (.mk (.inl (.inr y))) => by simp [D.eqb]
  | (.mk (.inr (.inl (u, d)))) => by simp [D.eqb, D.eqb_self d]
  | (.mk (.inr (.inr (h, t)))) => by simp [D.eqb, D.eqb_self h, D.eqb_self t]
theorem D.eqb_iff {x y : D} : D.eqb x y = true ↔ x = y := ⟨D.eqb_eq, fun h => h ▸ D.eqb_self x⟩

/-- What is known as the one is known as the other. -/
def pre : D → D → Bool
  | (.mk (.inl (.inr (.inl ())))), _ => true
  | (.mk (.inr (.inr (h, t)))), (.mk (.inr (.inr (h', t')))) => D.eqb h h' && pre t t'
  | _, _ => false

def le1 : D → D → Bool
  | (.mk (.inl (.inl (k, lo, hi)))), (.mk (.inl (.inl (k', lo', hi')))) => k == k' && decide (lo' ≤ lo) && decide (hi ≤ hi')
  | (.mk (.inl (.inr (.inr (.inl a))))), (.mk (.inl (.inr (.inr (.inl b))))) => b == none || a == b
  | (.mk (.inl (.inr (.inr (.inr (.inl n)))))), (.mk (.inl (.inr (.inr (.inr (.inl m)))))) => decide (n ≤ m)
  | (.mk (.inl (.inr (.inr (.inr (.inr (.inl k))))))), (.mk (.inl (.inr (.inr (.inr (.inr (.inl k'))))))) => k == k'
  | (.mk (.inr (.inl (.inl (), l)))), (.mk (.inr (.inl (.inl (), m)))) => pre m l
  | (.mk (.inl (.inr (.inr (.inr (.inr (.inr (.inl ())))))))), (.mk (.inl (.inr (.inr (.inr (.inr (.inr (.inl ())))))))) => true
  | (.mk (.inr (.inl (.inr (.inl (sz, n)), d)))), (.mk (.inr (.inl (.inr (.inl (sz', n')), d')))) => sz == sz' && D.eqb d d' && decide (n ≤ n')
  | (.mk (.inl (.inr (.inr (.inr (.inr (.inr (.inr (.inl ()))))))))), (.mk (.inr (.inl (.inr (.inl (_, _)), _)))) => true
  | (.mk (.inl (.inr (.inr (.inr (.inr (.inr (.inr (.inl ()))))))))), (.mk (.inl (.inr (.inr (.inr (.inr (.inr (.inr (.inl ()))))))))) => true
  | _, _ => false

def leL (f : D → D → Bool) : D → D → Bool
  | (.mk (.inl (.inr (.inl ())))), (.mk (.inl (.inr (.inl ())))) => true
  | (.mk (.inr (.inr (h, t)))), (.mk (.inr (.inr (h', t')))) => f h h' && leL f t t'
  | _, _ => false

def le2 : D → D → Bool
  | (.mk (.inr (.inl (.inr (.inr (.inl ())), l)))), (.mk (.inr (.inl (.inr (.inr (.inl ())), m)))) => leL le1 l m
  | d, d' => le1 d d'

def le3 : D → D → Bool
  | (.mk (.inr (.inl (.inr (.inr (.inr ())), l)))), (.mk (.inr (.inl (.inr (.inr (.inr ())), m)))) => leL le2 l m
  | _, (.mk (.inl (.inr (.inr (.inr (.inr (.inr (.inr (.inr (.inr (()))))))))))) => true
  | (.mk (.inl (.inr (.inr (.inr (.inr (.inr (.inr (.inr (.inl ())))))))))), (.mk (.inl (.inr (.inr (.inr (.inr (.inr (.inr (.inr (.inl ())))))))))) => true
  | d, d' => le2 d d'

theorem pre_at : ∀ {m l : D}, pre m l = true → ∀ j d, m.at j = some d → l.at j = some d
  | (.mk (.inr (.inr (h, t)))), (.mk (.inr (.inr (h', t')))), hp, 0, d, hd => by
    simp only [pre, Bool.and_eq_true] at hp
    have hq := D.eqb_eq hp.1
    simp only [D.at] at hd ⊢
    rw [← hq]; exact hd
  | (.mk (.inr (.inr (h, t)))), (.mk (.inr (.inr (h', t')))), hp, j + 1, d, hd => by
    simp only [pre, Bool.and_eq_true] at hp
    have hq := D.eqb_eq hp.1
    exact pre_at hp.2 j d hd
  | (.mk (.inl (.inr (.inl ())))), _, _, _, d, hd => by simp [D.at] at hd

/-- One that stands for a cell. -/
def D.single : D → Bool
  | (.mk (.inl (.inl (_, _, _)))) | (.mk (.inl (.inr (.inr (.inl _))))) | (.mk (.inl (.inr (.inr (.inr (.inl _)))))) | (.mk (.inl (.inr (.inr (.inr (.inr (.inl _))))))) | (.mk (.inr (.inl (.inl (), _)))) | (.mk (.inl (.inr (.inr (.inr (.inr (.inr (.inl ())))))))) | (.mk (.inr (.inl (.inr (.inl (_, _)), _)))) | (.mk (.inl (.inr (.inr (.inr (.inr (.inr (.inr (.inl ()))))))))) => true
  | _ => false

theorem cel_single {Γ : Gam} {d : D} {v : Value} (h : cel Γ d v) : d.single = true := by
  cases d using D.cs <;> first | rfl | exact h.elim

theorem cel.le {Γ : Gam} {d d' : D} {v : Value} (h : le1 d d' = true) (x : cel Γ d v) : cel Γ d' v := by
  cases d using D.cs <;> first | exact x.elim | skip
  all_goals (cases d' using D.cs <;> first | (exfalso; simp [le1] at h; done) | skip)
  · simp only [le1, Bool.and_eq_true, beq_iff_eq, decide_eq_true_eq] at h
    obtain ⟨⟨rfl, h1⟩, h2⟩ := h
    obtain ⟨n, e, g1, g2⟩ := x
    exact ⟨n, e, Int.le_trans h1 g1, Int.le_trans g2 h2⟩
  · simp only [le1, Bool.or_eq_true, beq_iff_eq] at h
    obtain ⟨b, e, g⟩ := x
    refine ⟨b, e, fun c hc => ?_⟩
    rcases h with h | h
    · rw [h] at hc; cases hc
    · exact g c (h.trans hc)
  · simp only [le1, decide_eq_true_eq] at h
    obtain ⟨s, e, g⟩ := x
    exact ⟨s, e, Nat.le_trans g h⟩
  · simp only [le1, beq_iff_eq] at h
    subst h
    exact x
  · obtain ⟨a, e, s, p⟩ := x
    exact ⟨a, e, s, fun j d hd => p j d (pre_at h j d hd)⟩
  · exact x
  · simp only [le1, Bool.and_eq_true, beq_iff_eq, decide_eq_true_eq, D.eqb_iff] at h
    obtain ⟨⟨rfl, rfl⟩, h2⟩ := h
    obtain ⟨a, len, cap, e, g1, g⟩ := x
    exact ⟨a, len, cap, e, Nat.le_trans g1 h2, g⟩
  · have e : v = _ := x
    exact ⟨none, 0, 0, e, Nat.zero_le _, Nat.le_refl _, fun _ => rfl, fun a' ha => by cases ha⟩
  · exact x

theorem leL_at {f : D → D → Bool} : ∀ {l m : D}, leL f l m = true → l.len = m.len ∧ ∀ j d, m.at j = some d → ∃ d', l.at j = some d' ∧ f d' d = true
  | (.mk (.inl (.inr (.inl ())))), (.mk (.inl (.inr (.inl ())))), _ => ⟨rfl, fun j d hd => by simp [D.at] at hd⟩
  | (.mk (.inr (.inr (h, t)))), (.mk (.inr (.inr (h', t')))), hl => by
    simp only [leL, Bool.and_eq_true] at hl
    obtain ⟨g1, g2⟩ := leL_at hl.2
    refine ⟨by simp only [D.len, g1], fun j d hd => ?_⟩
    cases j with
    | zero => simp only [D.at, Option.some.injEq] at hd; subst hd; exact ⟨_, rfl, hl.1⟩
    | succ j => exact g2 j d hd

theorem cells.le {Γ : Gam} {l m : D} {xs : Array Value} (h : leL le1 l m = true) (x : cells Γ l xs) : cells Γ m xs := by
  obtain ⟨g1, g2⟩ := leL_at h
  refine ⟨x.1.trans g1, fun j d hd => ?_⟩
  obtain ⟨d', q1, q2⟩ := g2 j d hd
  obtain ⟨v, hv, hc⟩ := x.2 j d' q1
  exact ⟨v, hv, hc.le q2⟩

/-- No struct, nothing many. -/
theorem one_cel {Γ : Gam} {d : D} {v : Value} (h : ∀ l, d ≠ .agg l) : one Γ d v = cel Γ d v := by
  cases d using D.cs <;> first | rfl | exact absurd rfl (h _)

theorem one.le {Γ : Gam} {d d' : D} {v : Value} (h : le2 d d' = true) (x : one Γ d v) : one Γ d' v := by
  by_cases ha : ∃ l, d = .agg l
  · obtain ⟨l, rfl⟩ := ha
    cases d' using D.cs <;> first | (exfalso; simp [le2, le1] at h; done) | skip
    obtain ⟨xs, e, p⟩ := x
    exact ⟨xs, e, p.le h⟩
  · have h1 : one Γ d v = cel Γ d v := one_cel fun l e => ha ⟨l, e⟩
    rw [h1] at x
    have h2 : le2 d d' = le1 d d' := by cases d using D.cs <;> first | rfl | exact absurd ⟨_, rfl⟩ ha
    rw [h2] at h
    have h3 : ∀ l, d' ≠ .agg l := by rintro l rfl; cases d using D.cs <;> simp [le1] at h
    rw [one_cel h3]
    exact x.le h

theorem val_one {Γ : Gam} {d : D} {v : Value} (h : (∀ l, d ≠ .tup l) ∧ d ≠ .any ∧ d ≠ .und) : val Γ d v = one Γ d v := by
  cases d using D.cs <;> first | rfl | exact absurd rfl (h.1 _) | exact absurd rfl h.2.1 | exact absurd rfl h.2.2

theorem val.le {Γ : Gam} {d d' : D} {v : Value} (h : le3 d d' = true) (x : val Γ d v) : val Γ d' v := by
  by_cases hy : d' = .any
  · subst hy; exact trivial
  by_cases ha : ∃ l, d = .tup l
  · obtain ⟨l, rfl⟩ := ha
    cases d' using D.cs <;> first | exact absurd rfl hy | (exfalso; simp [le3, le2, le1] at h; done) | skip
    obtain ⟨xs, e, p, q⟩ := x
    obtain ⟨g1, g2⟩ := leL_at (f := le2) h
    refine ⟨xs, e, p.trans g1, fun j d hd => ?_⟩
    obtain ⟨d', q1, q2⟩ := g2 j d hd
    obtain ⟨v, hv, hc⟩ := q j d' q1
    exact ⟨v, hv, hc.le q2⟩
  by_cases hu : d = .und
  · subst hu
    cases d' using D.cs <;> first | exact absurd rfl hy | (exfalso; simp [le3, le2, le1] at h; done) | exact x
  by_cases hn : d = .any
  · subst hn
    cases d' using D.cs <;> first | exact absurd rfl hy | (exfalso; simp [le3, le2, le1] at h; done)
  · rw [val_one ⟨fun l e => ha ⟨l, e⟩, hn, hu⟩] at x
    have h2 : le3 d d' = le2 d d' := by
      cases d using D.cs <;> first
        | exact absurd ⟨_, rfl⟩ ha
        | exact absurd rfl hu
        | exact absurd rfl hn
        | (cases d' using D.cs <;> first | rfl | exact absurd rfl hy)
    rw [h2] at h
    have h3 : (∀ l, d' ≠ .tup l) ∧ d' ≠ .any ∧ d' ≠ .und := by
      refine ⟨?_, hy, ?_⟩
      · rintro l rfl; cases d using D.cs <;> simp [le2, le1] at h
      · rintro rfl; cases d using D.cs <;> simp [le2, le1] at h
    rw [val_one h3]
    exact x.le h

section
variable {P : Program} {Γ : Gam} {α γ : Type} {R : Gam → γ → Prop}

theorem US.bind' {S : Gam → α → Prop} {s : Sem α} {f : α → Sem γ} (h : US P S Γ s) (hf : ∀ (Γ' : Gam) a, Le Γ Γ' → S Γ' a → US P R Γ' (f a)) : US P R Γ (s >>= f) := US.bind h hf
theorem US.mono {S : Gam → γ → Prop} {s : Sem γ} (h : US P S Γ s) (hf : ∀ (Γ' : Gam) a, Le Γ Γ' → S Γ' a → R Γ' a) : US P R Γ s := by
  have := US.bind (f := Sem.pure) h (R := R) (fun Γ' a hl hs => hf Γ' a hl hs)
  rwa [Tw.bind_pure'] at this

theorem US.under {t : TypeId} {f : TypeDesc → Sem γ} {d : TypeDesc} (h : P.underlying t = some d) (hf : US P R Γ (f d)) : US P R Γ (underlying t >>= f) := by
  show US P R Γ (Sem.bind (match P.underlying t with | some d => pure d | none => stuck "no such type") f)
  rw [h]
  exact hf

theorem US.info {t : TypeId} {f : TypeInfo → Sem γ} {d : TypeInfo} (h : P.info? t = some d) (hf : US P R Γ (f d)) : US P R Γ (typeInfo t >>= f) := by
  show US P R Γ (Sem.bind (match P.info? t with | some d => pure d | none => stuck "no such type") f)
  rw [h]
  exact hf

theorem US.size {t : TypeId} {f : Nat → Sem γ} {d : TypeInfo} (h : P.info? t = some d) (hf : US P R Γ (f d.size)) : US P R Γ (sizeOf t >>= f) := by
  have e : (sizeOf t >>= f) = (typeInfo t >>= fun i => f i.size) := Tw.bind_bind _ _ _
  rw [e]
  exact US.info h hf

theorem US.zero {t : TypeId} {f : Value → Sem γ} {z : Value} (h : Tw.zero? P t = some z) (hf : US P R Γ (f z)) : US P R Γ (zeroValue t >>= f) := by
  have e : (zeroValue t >>= f) = (typeInfo t >>= fun i => (match i.zero with | some v => pure v | none => unsupported _) >>= f) := Tw.bind_bind _ _ _
  rw [e]
  cases hi : P.info? t with
  | none => simp [Tw.zero?, hi] at h
  | some d =>
    simp only [Tw.zero?, hi, Option.bind_some] at h
    refine US.info hi ?_
    rw [h]
    exact hf

/-- Whether a type is of several cells. -/
def aggB (P : Program) (t : TypeId) : Option Bool := (P.underlying t).map fun d => match d with | .struct _ | .array _ _ => true | _ => false

theorem US.agg {t : TypeId} {f : Bool → Sem γ} {b : Bool} (h : aggB P t = some b) (hf : US P R Γ (f b)) : US P R Γ (isAgg t >>= f) := by
  have e : (isAgg t >>= f) = (underlying t >>= fun d => (match d with | .struct _ | .array _ _ => pure true | _ => pure false) >>= f) := Tw.bind_bind _ _ _
  rw [e]
  cases hu : P.underlying t with
  | none => simp [aggB, hu] at h
  | some d =>
    simp only [aggB, hu, Option.map_some, Option.some.injEq] at h
    refine US.under hu ?_
    cases d <;> (dsimp only at h; subst h; exact hf)
end

def D.take : Nat → D → D
  | 0, _ => .nil
  | n + 1, (.mk (.inr (.inr (h, t)))) => .cons h (D.take n t)
  | _, _ => .nil
def D.drop : Nat → D → D
  | 0, l => l
  | n + 1, (.mk (.inr (.inr (_, t)))) => D.drop n t
  | _, _ => .nil

theorem D.at_take : ∀ {n : Nat} {l : D} {j : Nat} {d : D}, (D.take n l).at j = some d → j < n ∧ l.at j = some d
  | 0, l, j, d, h => by simp [D.take, D.at] at h
  | n + 1, (.mk (.inr (.inr (a, t)))), 0, d, h => ⟨Nat.succ_pos _, h⟩
  | n + 1, (.mk (.inr (.inr (a, t)))), j + 1, d, h => let ⟨h1, h2⟩ := D.at_take (n := n) (l := t) h; ⟨Nat.succ_lt_succ h1, h2⟩
  | n + 1, (.mk (.inl (.inl (_, _, _)))), _, d, h | n + 1, (.mk (.inl (.inr (.inr (.inl _))))), _, d, h | n + 1, (.mk (.inl (.inr (.inr (.inr (.inl _)))))), _, d, h | n + 1, (.mk (.inl (.inr (.inr (.inr (.inr (.inl _))))))), _, d, h | n + 1, (.mk (.inr (.inl (.inl (), _)))), _, d, h | n + 1, (.mk (.inl (.inr (.inr (.inr (.inr (.inr (.inl ())))))))), _, d, h | n + 1, (.mk (.inr (.inl (.inr (.inl (_, _)), _)))), _, d, h | n + 1, (.mk (.inl (.inr (.inr (.inr (.inr (.inr (.inr (.inl ()))))))))), _, d, h | n + 1, (.mk (.inr (.inl (.inr (.inr (.inl ())), _)))), _, d, h | n + 1, (.mk (.inr (.inl (.inr (.inr (.inr ())), _)))), _, d, h | n + 1, (.mk (.inl (.inr (.inr (.inr (.inr (.inr (.inr (.inr (.inl ())))))))))), _, d, h | n + 1, (.mk (.inl (.inr (.inr (.inr (.inr (.inr (.inr (.inr (.inr (()))))))))))), _, d, h | n + 1, (.mk (.inl (.inr (.inl ())))), _, d, h => by simp [D.take, D.at] at h

theorem D.at_drop : ∀ {n : Nat} {l : D} {j : Nat} {d : D}, (D.drop n l).at j = some d → l.at (n + j) = some d
  | 0, l, j, d, h => by rw [Nat.zero_add]; simpa [D.drop] using h
  | n + 1, (.mk (.inr (.inr (a, t)))), j, d, h => by
    have := D.at_drop (n := n) (l := t) h
    rw [show n + 1 + j = (n + j) + 1 by omega]
    exact this
  | n + 1, (.mk (.inl (.inl (_, _, _)))), _, d, h | n + 1, (.mk (.inl (.inr (.inr (.inl _))))), _, d, h | n + 1, (.mk (.inl (.inr (.inr (.inr (.inl _)))))), _, d, h | n + 1, (.mk (.inl (.inr (.inr (.inr (.inr (.inl _))))))), _, d, h | n + 1, (.mk (.inr (.inl (.inl (), _)))), _, d, h | n + 1, (.mk (.inl (.inr (.inr (.inr (.inr (.inr (.inl ())))))))), _, d, h | n + 1, (.mk (.inr (.inl (.inr (.inl (_, _)), _)))), _, d, h | n + 1, (.mk (.inl (.inr (.inr (.inr (.inr (.inr (.inr (.inl ()))))))))), _, d, h | n + 1, (.mk (.inr (.inl (.inr (.inr (.inl ())), _)))), _, d, h | n + 1, (.mk (.inr (.inl (.inr (.inr (.inr ())), _)))), _, d, h | n + 1, (.mk (.inl (.inr (.inr (.inr (.inr (.inr (.inr (.inr (.inl ())))))))))), _, d, h | n + 1, (.mk (.inl (.inr (.inr (.inr (.inr (.inr (.inr (.inr (.inr (()))))))))))), _, d, h | n + 1, (.mk (.inl (.inr (.inl ())))), _, d, h => by simp [D.drop, D.at] at h

theorem D.len_take : ∀ {n : Nat} {l : D}, n ≤ l.len → (D.take n l).len = n
  | 0, l, _ => by simp [D.take, D.len]
  | n + 1, (.mk (.inr (.inr (a, t)))), h => by
    simp only [D.take, D.len] at h ⊢
    rw [D.len_take (by omega)]
  | n + 1, (.mk (.inl (.inl (_, _, _)))), h | n + 1, (.mk (.inl (.inr (.inr (.inl _))))), h | n + 1, (.mk (.inl (.inr (.inr (.inr (.inl _)))))), h | n + 1, (.mk (.inl (.inr (.inr (.inr (.inr (.inl _))))))), h | n + 1, (.mk (.inr (.inl (.inl (), _)))), h | n + 1, (.mk (.inl (.inr (.inr (.inr (.inr (.inr (.inl ())))))))), h | n + 1, (.mk (.inr (.inl (.inr (.inl (_, _)), _)))), h | n + 1, (.mk (.inl (.inr (.inr (.inr (.inr (.inr (.inr (.inl ()))))))))), h | n + 1, (.mk (.inr (.inl (.inr (.inr (.inl ())), _)))), h | n + 1, (.mk (.inr (.inl (.inr (.inr (.inr ())), _)))), h | n + 1, (.mk (.inl (.inr (.inr (.inr (.inr (.inr (.inr (.inr (.inl ())))))))))), h | n + 1, (.mk (.inl (.inr (.inr (.inr (.inr (.inr (.inr (.inr (.inr (()))))))))))), h | n + 1, (.mk (.inl (.inr (.inl ())))), h => by simp [D.len] at h

theorem D.at_lt : ∀ {l : D} {j : Nat}, j < l.len → ∃ d, l.at j = some d
  | (.mk (.inr (.inr (a, t)))), 0, _ => ⟨a, rfl⟩
  | (.mk (.inr (.inr (a, t)))), j + 1, h => D.at_lt (l := t) (by simp only [D.len] at h; omega)
  | (.mk (.inl (.inl (_, _, _)))), _, h | (.mk (.inl (.inr (.inr (.inl _))))), _, h | (.mk (.inl (.inr (.inr (.inr (.inl _)))))), _, h | (.mk (.inl (.inr (.inr (.inr (.inr (.inl _))))))), _, h | (.mk (.inr (.inl (.inl (), _)))), _, h | (.mk (.inl (.inr (.inr (.inr (.inr (.inr (.inl ())))))))), _, h | (.mk (.inr (.inl (.inr (.inl (_, _)), _)))), _, h | (.mk (.inl (.inr (.inr (.inr (.inr (.inr (.inr (.inl ()))))))))), _, h | (.mk (.inr (.inl (.inr (.inr (.inl ())), _)))), _, h | (.mk (.inr (.inl (.inr (.inr (.inr ())), _)))), _, h | (.mk (.inl (.inr (.inr (.inr (.inr (.inr (.inr (.inr (.inl ())))))))))), _, h | (.mk (.inl (.inr (.inr (.inr (.inr (.inr (.inr (.inr (.inr (()))))))))))), _, h | (.mk (.inl (.inr (.inl ())))), _, h => by simp [D.len] at h

theorem D.lt_at : ∀ {l : D} {j : Nat} {d : D}, l.at j = some d → j < l.len
  | (.mk (.inr (.inr (a, t)))), 0, d, _ => by simp [D.len]
  | (.mk (.inr (.inr (a, t)))), j + 1, d, h => by have := D.lt_at (l := t) h; simp only [D.len]; omega
  | (.mk (.inl (.inl (_, _, _)))), _, d, h | (.mk (.inl (.inr (.inr (.inl _))))), _, d, h | (.mk (.inl (.inr (.inr (.inr (.inl _)))))), _, d, h | (.mk (.inl (.inr (.inr (.inr (.inr (.inl _))))))), _, d, h | (.mk (.inr (.inl (.inl (), _)))), _, d, h | (.mk (.inl (.inr (.inr (.inr (.inr (.inr (.inl ())))))))), _, d, h | (.mk (.inr (.inl (.inr (.inl (_, _)), _)))), _, d, h | (.mk (.inl (.inr (.inr (.inr (.inr (.inr (.inr (.inl ()))))))))), _, d, h | (.mk (.inr (.inl (.inr (.inr (.inl ())), _)))), _, d, h | (.mk (.inr (.inl (.inr (.inr (.inr ())), _)))), _, d, h | (.mk (.inl (.inr (.inr (.inr (.inr (.inr (.inr (.inr (.inl ())))))))))), _, d, h | (.mk (.inl (.inr (.inr (.inr (.inr (.inr (.inr (.inr (.inr (()))))))))))), _, d, h | (.mk (.inl (.inr (.inl ())))), _, d, h => by simp [D.at] at h

section
variable {P : Program} {Γ : Gam}

theorem add_spot {a : Addr} (h : a.spot = none) (n : Nat) : (a.add n).spot = none ∧ (a.add n).block = a.block ∧ (a.add n).off = a.off + n := by
  unfold Addr.add
  split
  · rename_i e; subst e; exact ⟨h, rfl, rfl⟩
  · exact ⟨rfl, rfl, rfl⟩

theorem US.loadFrom {a : Addr} {l : D} (hs : a.spot = none) : ∀ (n i : Nat) {Γ : Gam} {xs : Array Value}, i + n ≤ l.len → (∀ j d, l.at j = some d → Γ a.block (a.off + j) = some d) →
    (xs.size = i ∧ ∀ j d, j < i → l.at j = some d → ∃ x, xs[j]? = some x ∧ cel Γ d x) →
    US P (fun Γ ys => ys.size = i + n ∧ ∀ j d, j < i + n → l.at j = some d → ∃ x, ys[j]? = some x ∧ cel Γ d x) Γ (loadCellsFrom a i n xs)
  | 0, i, Γ, xs, _, hp, hx => hx
  | n + 1, i, Γ, xs, hl, hp, hx => by
    obtain ⟨s1, s2, s3⟩ := add_spot hs i
    obtain ⟨d, hd⟩ := D.at_lt (l := l) (j := i) (by omega)
    refine ⟨s1, d, by rw [s2, s3]; exact hp i d hd, fun v hv => ?_⟩
    have := US.loadFrom hs n (i + 1) (Γ := Γ) (xs := xs.push v) (by omega) hp ⟨by simp [hx.1], fun j d' hj hd' => ?_⟩
    · rw [show i + (n + 1) = i + 1 + n by omega]
      exact this
    · by_cases e : j = i
      · subst e
        rw [hd] at hd'
        cases hd'
        exact ⟨v, by simp [← hx.1], hv⟩
      · obtain ⟨x, h1, h2⟩ := hx.2 j d' (by omega) hd'
        exact ⟨x, by simp [Array.getElem?_push, hx.1, e, h1], h2⟩

/-- What a load yields. -/
def aLoad (P : Program) (t : TypeId) (l : D) : Option D :=
  match aggB P t with
  | some true => match P.info? t with
    | some i => if i.size ≤ l.len then some (.agg (l.take i.size)) else none
    | none => none
  | some false => l.at 0
  | none => none

theorem one_of_cel {d : D} {v : Value} (h : cel Γ d v) : one Γ d v := by
  rw [one_cel]
  · exact h
  · rintro l rfl; exact h.elim

theorem US.loadVar {t : TypeId} {a : Addr} {l d : D} (hs : a.spot = none) (hp : ∀ j d, l.at j = some d → Γ a.block (a.off + j) = some d) (h : aLoad P t l = some d) :
    US P (fun Γ x => one Γ d x) Γ (Go.loadVar t a) := by
  unfold aLoad at h
  split at h
  · rename_i ha
    split at h
    · rename_i i hi
      split at h
      · rename_i hlen
        cases h
        refine US.agg ha ?_
        refine US.size hi ?_
        refine US.bind' (US.loadFrom hs i.size 0 (by omega) hp ⟨rfl, fun j d hj => by omega⟩) fun Γ' ys hle hy => ?_
        refine ⟨ys, rfl, by rw [hy.1, D.len_take hlen]; omega, fun j d hd => ?_⟩
        obtain ⟨h1, h2⟩ := D.at_take hd
        exact hy.2 j d (by omega) h2
      · cases h
    · cases h
  · rename_i ha
    refine US.agg ha ?_
    exact ⟨hs, d, by simpa using hp 0 d h, fun v hv => one_of_cel hv⟩
  · cases h

theorem US.loadAt {t : TypeId} {v : Value} {l d : D} (hv : cel Γ (.ptr l) v) (h : aLoad P t l = some d) : US P (fun Γ x => one Γ d x) Γ (Instr.loadAt t v) := by
  obtain ⟨a, rfl, hs, hp⟩ := hv
  exact US.loadVar hs hp h

def D.asCells : D → D
  | (.mk (.inr (.inl (.inr (.inr (.inl ())), l)))) => l
  | d => .cons d .nil

theorem one.cells {d : D} {v : Value} (h : one Γ d v) : Sf.cells Γ d.asCells v.cells := by
  by_cases ha : ∃ l, d = .agg l
  · obtain ⟨l, rfl⟩ := ha
    obtain ⟨xs, rfl, p⟩ := h
    exact p
  · have hc : cel Γ d v := by rw [one_cel fun l e => ha ⟨l, e⟩] at h; exact h
    have hd : d.asCells = D.cons d .nil := by cases d using D.cs <;> first | rfl | exact absurd ⟨_, rfl⟩ ha
    rw [hd]
    have hv : v.cells = #[v] := by
      have := (cel_store hc).1
      cases v <;> first | rfl | exact absurd rfl (this _)
    rw [hv]
    refine ⟨rfl, fun j d' hd' => ?_⟩
    cases j with
    | zero => simp only [D.at, Option.some.injEq] at hd'; subst hd'; exact ⟨v, rfl, hc⟩
    | succ j => simp [D.at] at hd'

theorem US.storeCells {a : Addr} {l : D} (hs : a.spot = none) : ∀ (xs : List Value) (i : Nat) {Γ : Gam}, (∀ j d, l.at j = some d → Γ a.block (a.off + j) = some d) →
    (∀ j x, xs[j]? = some x → ∃ d, l.at (i + j) = some d ∧ cel Γ d x) → US P (fun _ _ => True) Γ (Go.storeCells a xs i)
  | [], i, Γ, _, _ => trivial
  | x :: xs, i, Γ, hp, hx => by
    obtain ⟨d, hd, hc⟩ := hx 0 x (by simp)
    obtain ⟨s1, s2, s3⟩ := add_spot hs i
    have hd : l.at i = some d := hd
    refine ⟨s1, ⟨d, by rw [s2, s3]; exact hp i d hd, hc⟩, ?_⟩
    refine US.storeCells hs xs (i + 1) hp fun j y hy => ?_
    obtain ⟨d', h1, h2⟩ := hx (j + 1) y (by simpa using hy)
    exact ⟨d', by rw [show i + 1 + j = i + (j + 1) by omega]; exact h1, h2⟩

/-- Whether a value may be stored. -/
def aStore (P : Program) (t : TypeId) (l d : D) : Bool :=
  match P.info? t with
  | some i => d.asCells.len == i.size && leL le1 d.asCells (l.take i.size)
  | none => false

theorem US.storeVar {t : TypeId} {a : Addr} {l d : D} {v : Value} (hs : a.spot = none) (hp : ∀ j d, l.at j = some d → Γ a.block (a.off + j) = some d) (hv : one Γ d v) (h : aStore P t l d = true) :
    US P (fun _ _ => True) Γ (Go.storeVar t a v) := by
  unfold aStore at h
  split at h
  · rename_i i hi
    simp only [Bool.and_eq_true, beq_iff_eq] at h
    have hc : Sf.cells Γ d.asCells v.cells := hv.cells
    refine US.size hi ?_
    rw [if_neg (by rw [hc.1, h.1]; simp)]
    refine US.storeCells hs _ 0 hp fun j x hx => ?_
    have hx' : v.cells[j]? = some x := by simpa using hx
    have hj : j < (l.take i.size).len := by rw [← (leL_at h.2).1, ← hc.1]; exact (Array.getElem?_eq_some_iff.1 hx').1
    obtain ⟨d', hd'⟩ := D.at_lt hj
    obtain ⟨h1, h2⟩ := D.at_take hd'
    have hm := (hc.le h.2).2 j d' hd'
    obtain ⟨y, hy, hcy⟩ := hm
    rw [hx'] at hy
    cases hy
    exact ⟨d', by simpa using h2, hcy⟩
  · cases h

theorem US.storeAt {t : TypeId} {v x : Value} {l d : D} (hv : cel Γ (.ptr l) v) (hx : one Γ d x) (h : aStore P t l d = true) : US P (fun _ _ => True) Γ (Instr.storeAt t v x) := by
  obtain ⟨a, rfl, hs, hp⟩ := hv
  exact US.storeVar hs hp hx h

/-- New memory of one kind. -/
theorem US.newVar {t : TypeId} {v : Value} {l d : D} (hv : one Γ d v) (h : leL le1 d.asCells l = true) : US P (fun Γ a => a.spot = none ∧ ∀ j d, l.at j = some d → Γ a.block (a.off + j) = some d) Γ (Go.newVar t v) := by
  have hc : Sf.cells Γ d.asCells v.cells := hv.cells
  refine ⟨v.cells, t, l.at, rfl, fun j d' hd' => (hc.le h).2 j d' hd', fun Γ' r hle hr => ?_⟩
  exact ⟨rfl, fun j d' hd' => by simpa using hr j d' hd'⟩

theorem US.box {t : TypeId} {v : Value} {l d : D} (hv : one Γ d v) (h : leL le1 d.asCells l = true) : US P (fun Γ x => one Γ (.ptr l) x) Γ (Instr.box t v) :=
  US.bind' (US.newVar hv h) fun Γ' a hle ha => ⟨a, rfl, ha.1, ha.2⟩

/-- What a constant is known as. -/
def cst1 : Value → D
  | .int k n => .int k n n
  | .bool b => .bool (some b)
  | .string s => .str s.size
  | .float k x => if x < 2 ^ fw k then .flt k else .nil
  | .pointer none => .nilp
  | .slice none 0 0 => .nils
  | _ => .nil
def cstL : List Value → D
  | [] => .nil
  | v :: vs => .cons (cst1 v) (cstL vs)
def cst : Value → D
  | .agg xs => .agg (cstL xs.toList)
  | v => cst1 v
def good1 (d : D) : Bool := d.single
def goodL : D → Bool
  | (.mk (.inl (.inr (.inl ())))) => true
  | (.mk (.inr (.inr (h, t)))) => h.single && goodL t
  | _ => false
def good : D → Bool
  | (.mk (.inr (.inl (.inr (.inr (.inl ())), l)))) => goodL l
  | d => d.single

theorem cst1_ok {v : Value} (h : (cst1 v).single = true) : cel Γ (cst1 v) v := by
  cases v <;> first | (exfalso; simp [cst1, D.single] at h; done) | skip
  · exact ⟨_, rfl, fun c hc => by cases hc; rfl⟩
  · exact ⟨_, rfl, Int.le_refl _, Int.le_refl _⟩
  · rename_i k x
    simp only [cst1] at h ⊢
    split at h
    · rename_i hx
      rw [if_pos hx]
      exact ⟨x, rfl, hx⟩
    · simp [D.single] at h
  · exact ⟨_, rfl, Nat.le_refl _⟩
  · rename_i a
    cases a with
    | none => exact rfl
    | some a => simp [cst1, D.single] at h
  · rename_i a n c
    cases a with
    | some a => simp [cst1, D.single] at h
    | none => cases n <;> cases c <;> first | exact rfl | (exfalso; simp [cst1, D.single] at h; done)

theorem cstL_ok : ∀ {vs : List Value}, goodL (cstL vs) = true → Sf.cells Γ (cstL vs) vs.toArray
  | [], _ => ⟨rfl, fun j d hd => by simp [cstL, D.at] at hd⟩
  | v :: vs, h => by
    simp only [cstL, goodL, Bool.and_eq_true] at h
    obtain ⟨g1, g2⟩ := cstL_ok h.2
    refine ⟨by simp only [cstL, D.len, ← g1]; simp, fun j d hd => ?_⟩
    cases j with
    | zero => simp only [cstL, D.at, Option.some.injEq] at hd; subst hd; exact ⟨v, by simp, cst1_ok h.1⟩
    | succ j =>
      obtain ⟨x, q1, q2⟩ := g2 j d hd
      exact ⟨x, by simpa using q1, q2⟩

theorem cst_ok {v : Value} (h : good (cst v) = true) : one Γ (cst v) v := by
  by_cases ha : ∃ xs, v = .agg xs
  · obtain ⟨xs, rfl⟩ := ha
    exact ⟨xs, rfl, by have := cstL_ok (Γ := Γ) (vs := xs.toList) h; simpa using this⟩
  · have e : cst v = cst1 v := by cases v <;> first | rfl | exact absurd ⟨_, rfl⟩ ha
    rw [e] at h ⊢
    have hn : ∀ l, cst1 v ≠ .agg l := by
      intro l
      cases v <;> first | exact (fun e => by cases e) | skip
      · simp only [cst1]; split <;> exact (fun e => by cases e)
      · rename_i a; cases a <;> exact (fun e => by cases e)
      · rename_i a n c; cases a <;> cases n <;> cases c <;> exact (fun e => by cases e)
    have hs : (cst1 v).single = true := by
      revert h hn
      generalize cst1 v = d
      intro h hn
      cases d using D.cs <;> first | exact h | exact absurd rfl (hn _)
    exact one_of_cel (cst1_ok hs)
end
end Go.Sf
