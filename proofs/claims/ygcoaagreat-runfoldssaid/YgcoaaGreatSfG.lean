/-
  One run of one text: what is known of the slots, and what an operation makes of it.
-/
import Derived.Test.YgcoaaGreatSfF
import Derived.Calls
set_option linter.unusedVariables false
set_option linter.unusedSimpArgs false
namespace Go.Sf

/-- A value that has a name, or a number. -/
abbrev Rf := Nat ⊕ Int
abbrev Rf.sym (s : Nat) : Rf := .inl s
abbrev Rf.lit (n : Int) : Rf := .inr n
theorem sumLawful {α β : Type} [BEq α] [BEq β] [LawfulBEq α] [LawfulBEq β] : LawfulBEq (α ⊕ β) where
  eq_of_beq {a b} h := by
    cases a <;> cases b <;> first | exact congrArg _ (eq_of_beq h) | cases h
  rfl {a} := by
    cases a with
    | inl x => exact (beq_self_eq_true x : (x == x) = true)
    | inr x => exact (beq_self_eq_true x : (x == x) = true)
theorem Rf.cs {motive : Rf → Prop} (x : Rf) (sym : ∀ s, motive (Rf.sym s)) (lit : ∀ n, motive (Rf.lit n)) : motive x :=
  match x with
  | .inl s => sym s
  | .inr n => lit n

/-- How a value came about. -/
abbrev Df := Option ((BinOp × Rf × Rf) ⊕ (Nat × Int) ⊕ Nat ⊕ (Rf × Rf) ⊕ (Rf × Rf) ⊕ Nat)
abbrev Df.no : Df := none
abbrev Df.cmp (op : BinOp) (x y : Rf) : Df := some (.inl (op, x, y))
abbrev Df.plus (s : Nat) (c : Int) : Df := some (.inr (.inl (s, c)))
abbrev Df.len (s : Nat) : Df := some (.inr (.inr (.inl s)))
abbrev Df.mx (x y : Rf) : Df := some (.inr (.inr (.inr (.inl (x, y)))))
abbrev Df.diff (x y : Rf) : Df := some (.inr (.inr (.inr (.inr (.inl (x, y))))))
abbrev Df.nes (s : Nat) : Df := some (.inr (.inr (.inr (.inr (.inr s)))))
theorem Df.lawful : LawfulBEq Df :=
  have _ : LawfulBEq Rf := sumLawful
  have _ : LawfulBEq ((Rf × Rf) ⊕ Nat) := sumLawful
  have _ : LawfulBEq ((Rf × Rf) ⊕ (Rf × Rf) ⊕ Nat) := sumLawful
  have _ : LawfulBEq (Nat ⊕ (Rf × Rf) ⊕ (Rf × Rf) ⊕ Nat) := sumLawful
  have _ : LawfulBEq ((Nat × Int) ⊕ Nat ⊕ (Rf × Rf) ⊕ (Rf × Rf) ⊕ Nat) := sumLawful
  have _ : LawfulBEq ((BinOp × Rf × Rf) ⊕ (Nat × Int) ⊕ Nat ⊕ (Rf × Rf) ⊕ (Rf × Rf) ⊕ Nat) := sumLawful
  inferInstance
theorem Df.cs {motive : Df → Prop} (f : Df) (no : motive Df.no) (cmp : ∀ op x y, motive (Df.cmp op x y)) (plus : ∀ s c, motive (Df.plus s c)) (len : ∀ s, motive (Df.len s)) (mx : ∀ x y, motive (Df.mx x y)) (diff : ∀ x y, motive (Df.diff x y)) (nes : ∀ s, motive (Df.nes s)) : motive f :=
  match f with
  | none => no
  | some (.inl (op, x, y)) => cmp op x y
  | some (.inr (.inl (s, c))) => plus s c
  | some (.inr (.inr (.inl s))) => len s
  | some (.inr (.inr (.inr (.inl (x, y))))) => mx x y
  | some (.inr (.inr (.inr (.inr (.inl (x, y)))))) => diff x y
  | some (.inr (.inr (.inr (.inr (.inr s))))) => nes s

/-- 'fl': a number and a string or slice, the number less than its length. -/
structure St where
  sl : List (Option Nat)
  sy : List (D × Df)
  fl : List (Rf × Nat)
  od : List (Rf × Rf × Int)

def lenV : Value → Option Nat
  | .string s => some s.size
  | .slice _ n _ => some n
  | _ => none

def rfI (ρ : Nat → Value) : Rf → Option Int
  | (.inl s) => match ρ s with | .int _ n => some n | _ => none
  | (.inr n) => some n

def cmpI (op : BinOp) (n m : Int) : Bool :=
  match op with
  | .eql => n == m
  | .neq => n != m
  | .lss => decide (n < m)
  | .leq => decide (n ≤ m)
  | .gtr => decide (n > m)
  | .geq => decide (n ≥ m)
  | _ => false

def DfOk (ρ : Nat → Value) : Df → Value → Prop
  | none, _ => True
  | (some (.inl (op, x, y))), v => ∃ n m, rfI ρ x = some n ∧ rfI ρ y = some m ∧ v = .bool (cmpI op n m)
  | (some (.inr (.inl (s, c)))), v => ∃ k n, ρ s = .int k n ∧ v = .int k (n + c)
  | (some (.inr (.inr (.inl s)))), v => ∃ m : Nat, lenV (ρ s) = some m ∧ v = .int .i64 m
  | (some (.inr (.inr (.inr (.inl (x, y)))))), v => ∃ k n m, rfI ρ x = some n ∧ rfI ρ y = some m ∧ v = .int k (max n m)
  | (some (.inr (.inr (.inr (.inr (.inl (x, y))))))), v => ∃ k n m, rfI ρ x = some n ∧ rfI ρ y = some m ∧ v = .int k (n - m)
  | (some (.inr (.inr (.inr (.inr (.inr s)))))), v => ∃ m : Nat, lenV (ρ s) = some m ∧ v = .bool (decide (0 < m))

def Rf.below : Rf → Nat → Bool
  | (.inl s), n => decide (s < n)
  | (.inr _), _ => true
def Df.below : Df → Nat → Bool
  | none, _ => true
  | (some (.inl (_, x, y))), n => x.below n && y.below n
  | (some (.inr (.inl (s, _)))), n => decide (s < n)
  | (some (.inr (.inr (.inl s)))), n => decide (s < n)
  | (some (.inr (.inr (.inr (.inl (x, y)))))), n => x.below n && y.below n
  | (some (.inr (.inr (.inr (.inr (.inl (x, y))))))), n => x.below n && y.below n
  | (some (.inr (.inr (.inr (.inr (.inr s)))))), n => decide (s < n)

structure AOk (Γ : Gam) (ρ : Nat → Value) (S : St) (a : Act) : Prop where
  slot : ∀ (i s : Nat), S.sl[i]? = some (some s) → s < S.sy.length ∧ a.tmps[i]? = some (ρ s)
  sym : ∀ (s : Nat) (d : D) (f : Df), S.sy[s]? = some (d, f) → val Γ d (ρ s) ∧ DfOk ρ f (ρ s) ∧ f.below s = true
  defers : a.defers = []
  size : S.sl.length ≤ a.tmps.size
  facts : ∀ (r : Rf) (s : Nat), (r, s) ∈ S.fl → r.below S.sy.length = true ∧ s < S.sy.length ∧ ∃ (n : Int) (m : Nat), rfI ρ r = some n ∧ lenV (ρ s) = some m ∧ n < m
  ords : ∀ (x y : Rf) (c : Int), (x, y, c) ∈ S.od → x.below S.sy.length = true ∧ y.below S.sy.length = true ∧ ∃ (n m : Int), rfI ρ x = some n ∧ rfI ρ y = some m ∧ n + c ≤ m

theorem rfI_agree {ρ ρ' : Nat → Value} {n : Nat} (h : ∀ s, s < n → ρ' s = ρ s) {x : Rf} (hb : x.below n = true) : rfI ρ' x = rfI ρ x := by
  cases x using Rf.cs with
  | sym s => simp only [Rf.below, decide_eq_true_eq] at hb; simp only [rfI, h s hb]
  | lit n => rfl

theorem DfOk.agree {ρ ρ' : Nat → Value} {n : Nat} (h : ∀ s, s < n → ρ' s = ρ s) {f : Df} {v : Value} (hb : f.below n = true) (x : DfOk ρ f v) : DfOk ρ' f v := by
  cases f using Df.cs with
  | no => trivial
  | cmp op a b =>
    simp only [Df.below, Bool.and_eq_true] at hb
    obtain ⟨n', m, h1, h2, h3⟩ := x
    exact ⟨n', m, by rw [rfI_agree h hb.1]; exact h1, by rw [rfI_agree h hb.2]; exact h2, h3⟩
  | plus s c =>
    simp only [Df.below, decide_eq_true_eq] at hb
    obtain ⟨k, n', h1, h2⟩ := x
    exact ⟨k, n', by rw [h s hb]; exact h1, h2⟩
  | len s =>
    simp only [Df.below, decide_eq_true_eq] at hb
    obtain ⟨m, h1, h2⟩ := x
    exact ⟨m, by rw [h s hb]; exact h1, h2⟩
  | nes s =>
    simp only [Df.below, decide_eq_true_eq] at hb
    obtain ⟨m, h1, h2⟩ := x
    exact ⟨m, by rw [h s hb]; exact h1, h2⟩
  | mx a b =>
    simp only [Df.below, Bool.and_eq_true] at hb
    obtain ⟨k, n', m, h1, h2, h3⟩ := x
    exact ⟨k, n', m, by rw [rfI_agree h hb.1]; exact h1, by rw [rfI_agree h hb.2]; exact h2, h3⟩
  | diff a b =>
    simp only [Df.below, Bool.and_eq_true] at hb
    obtain ⟨k, n', m, h1, h2, h3⟩ := x
    exact ⟨k, n', m, by rw [rfI_agree h hb.1]; exact h1, by rw [rfI_agree h hb.2]; exact h2, h3⟩

theorem Rf.below_mono {r : Rf} {n m : Nat} (h : r.below n = true) (hm : n ≤ m) : r.below m = true := by
  cases r using Rf.cs <;> simp only [Rf.below, decide_eq_true_eq] at h ⊢; omega

theorem Df.below_mono {f : Df} {n m : Nat} (h : f.below n = true) (hm : n ≤ m) : f.below m = true := by
  cases f using Df.cs with
  | no => rfl
  | cmp op a b =>
    simp only [Df.below, Bool.and_eq_true] at h ⊢
    refine ⟨?_, ?_⟩
    · cases a using Rf.cs <;> simp only [Rf.below, decide_eq_true_eq] at h ⊢; omega
    · cases b using Rf.cs <;> simp only [Rf.below, decide_eq_true_eq] at h ⊢; omega
  | plus s c => simp only [Df.below, decide_eq_true_eq] at h ⊢; omega
  | len s => simp only [Df.below, decide_eq_true_eq] at h ⊢; omega
  | nes s => simp only [Df.below, decide_eq_true_eq] at h ⊢; omega
  | mx a b =>
    simp only [Df.below, Bool.and_eq_true] at h ⊢
    exact ⟨Rf.below_mono h.1 hm, Rf.below_mono h.2 hm⟩
  | diff a b =>
    simp only [Df.below, Bool.and_eq_true] at h ⊢
    exact ⟨Rf.below_mono h.1 hm, Rf.below_mono h.2 hm⟩

theorem AOk.mono {Γ Γ' : Gam} (hl : Le Γ Γ') {ρ : Nat → Value} {S : St} {a : Act} (h : AOk Γ ρ S a) : AOk Γ' ρ S a :=
  ⟨h.slot, fun s d f hs => ⟨(h.sym s d f hs).1.mono hl, (h.sym s d f hs).2⟩, h.defers, h.size, h.facts, h.ords⟩

/-- A new value, with a name of its own. -/
def St.push (S : St) (dst : Option Tmp) (d : D) (f : Df) : St :=
  match dst with
  | some t => ⟨S.sl.set t (some S.sy.length), S.sy ++ [(d, f)], S.fl, S.od⟩
  | none => S
def St.same (S : St) (dst : Option Tmp) (s : Nat) : St :=
  match dst with
  | some t => ⟨S.sl.set t (some s), S.sy, S.fl, S.od⟩
  | none => S

theorem AOk.push {Γ : Gam} {ρ : Nat → Value} {S : St} {a : Act} (h : AOk Γ ρ S a) (dst : Option Tmp) {d : D} {f : Df} {v : Value} (hv : val Γ d v) (hf : DfOk ρ f v) (hb : f.below S.sy.length = true) :
    ∃ ρ', (∀ s, s < S.sy.length → ρ' s = ρ s) ∧ AOk Γ ρ' (S.push dst d f) (a.put dst v) := by
  cases dst with
  | none => exact ⟨ρ, fun _ _ => rfl, h⟩
  | some t =>
    have hag : ∀ s, s < S.sy.length → (if s = S.sy.length then v else ρ s) = ρ s := fun s hs => if_neg (by omega)
    refine ⟨fun s => if s = S.sy.length then v else ρ s, hag, ⟨fun i s hs => ?_, fun s d' f' hs => ?_, h.defers, ?_, fun r s hs => ?_, fun x y c hs => ?_⟩⟩
    · simp only [St.push] at hs ⊢
      rw [List.getElem?_set] at hs
      simp only [Act.put]
      by_cases hit : t = i
      · subst hit
        rw [if_pos rfl] at hs
        split at hs
        · rename_i hlt
          simp only [Option.some.injEq] at hs
          subst hs
          have := h.size
          simp only [if_true, List.length_append, List.length_cons, List.length_nil]
          refine ⟨by omega, ?_⟩
          rw [Array.getElem?_setIfInBounds]
          simp; omega
        · cases hs
      · rw [if_neg hit] at hs
        obtain ⟨h1, h2⟩ := h.slot i s hs
        refine ⟨by simp; omega, ?_⟩
        rw [Array.getElem?_setIfInBounds, if_neg hit, hag s h1]
        exact h2
    · simp only [St.push] at hs
      rw [List.getElem?_append] at hs
      split at hs
      · rename_i hlt
        obtain ⟨h1, h2, h3⟩ := h.sym s d' f' hs
        simp only [hag s hlt]
        exact ⟨h1, h2.agree (n := s) (fun s' hs' => hag s' (by omega)) h3, h3⟩
      · rename_i hge
        have hse : s = S.sy.length := by
          have := (List.getElem?_eq_some_iff.1 hs).1
          simp at this; omega
        subst hse
        simp at hs
        obtain ⟨rfl, rfl⟩ := hs
        simp only [if_true]
        exact ⟨hv, hf.agree (n := S.sy.length) hag hb, hb⟩
    · simp only [St.push, Act.put, List.length_set, Array.size_setIfInBounds]
      exact h.size
    · obtain ⟨g1, g2, n, m, e1, e2, e3⟩ := h.facts r s hs
      refine ⟨Rf.below_mono g1 (by simp [St.push]), by simp [St.push]; omega, n, m, ?_, ?_, e3⟩
      · rw [rfI_agree hag g1]; exact e1
      · rw [hag s g2]; exact e2
    · obtain ⟨g1, g2, n, m, e1, e2, e3⟩ := h.ords x y c hs
      refine ⟨Rf.below_mono g1 (by simp [St.push]), Rf.below_mono g2 (by simp [St.push]), n, m, ?_, ?_, e3⟩
      · rw [rfI_agree hag g1]; exact e1
      · rw [rfI_agree hag g2]; exact e2

theorem AOk.same {Γ : Gam} {ρ : Nat → Value} {S : St} {a : Act} (h : AOk Γ ρ S a) (dst : Option Tmp) {s : Nat} (hs : s < S.sy.length) : AOk Γ ρ (S.same dst s) (a.put dst (ρ s)) := by
  cases dst with
  | none => exact h
  | some t =>
    refine ⟨fun i s' hs' => ?_, h.sym, h.defers, ?_, h.facts, h.ords⟩
    · simp only [St.same] at hs' ⊢
      rw [List.getElem?_set] at hs'
      simp only [Act.put]
      by_cases hit : t = i
      · subst hit
        rw [if_pos rfl] at hs'
        split at hs'
        · rename_i hlt
          simp only [Option.some.injEq] at hs'
          subst hs'
          have := h.size
          refine ⟨hs, ?_⟩
          rw [Array.getElem?_setIfInBounds]
          simp; omega
        · cases hs'
      · rw [if_neg hit] at hs'
        rw [Array.getElem?_setIfInBounds, if_neg hit]
        exact h.slot i s' hs'
    · simp only [St.same, Act.put, List.length_set, Array.size_setIfInBounds]
      exact h.size

/-- The name of an operand's value. -/
def symOf (S : St) : Operand → Option Nat
  | .tmp t => (S.sl[t]?).join
  | _ => none

/-- What is known of an operand. -/
def opD (S : St) : Operand → Option D
  | .tmp t => match (S.sl[t]?).join with
    | some s => (S.sy[s]?).map (·.1)
    | none => none
  | .const v => if good (cst v) then some (cst v) else none
  | _ => none

theorem val_of_one {Γ : Gam} {d : D} {v : Value} (h : one Γ d v) : val Γ d v := by
  cases d using D.cs <;> first | exact h | exact (show False from h).elim

theorem AOk.symOf {Γ : Gam} {ρ : Nat → Value} {S : St} {a : Act} (h : AOk Γ ρ S a) {x : Operand} {s : Nat} (hs : symOf S x = some s) : s < S.sy.length ∧ a.eval x = ρ s := by
  cases x <;> simp only [Sf.symOf] at hs <;> first | cases hs | skip
  rename_i t
  have hs' : S.sl[t]? = some (some s) := by
    cases h1 : S.sl[t]? with
    | none => rw [h1] at hs; cases hs
    | some o => rw [h1] at hs; simp only [Option.join_some] at hs; rw [hs]
  obtain ⟨h1, h2⟩ := h.slot t s hs'
  refine ⟨h1, ?_⟩
  simp [Act.eval, Array.getD_eq_getD_getElem?, h2]

theorem AOk.opD {Γ : Gam} {ρ : Nat → Value} {S : St} {a : Act} (h : AOk Γ ρ S a) {x : Operand} {d : D} (hd : opD S x = some d) : val Γ d (a.eval x) := by
  cases x with
  | tmp t =>
    simp only [Sf.opD] at hd
    split at hd
    · rename_i s hs
      obtain ⟨h1, h2⟩ := h.symOf (x := .tmp t) hs
      rw [h2]
      cases hy : S.sy[s]? with
      | none => rw [hy] at hd; cases hd
      | some e =>
        rw [hy] at hd
        obtain ⟨d', f⟩ := e
        simp only [Option.map_some, Option.some.injEq] at hd
        subst hd
        exact (h.sym s _ _ hy).1
    · cases hd
  | const v =>
    simp only [Sf.opD] at hd
    split at hd
    · rename_i hg
      cases hd
      exact val_of_one (cst_ok hg)
    · cases hd
  | global g => simp [Sf.opD] at hd
  | func f => simp [Sf.opD] at hd

def oneD : D → Bool
  | (.mk (.inr (.inl (.inr (.inr (.inr ())), _)))) | (.mk (.inl (.inr (.inr (.inr (.inr (.inr (.inr (.inr (.inr (()))))))))))) | (.mk (.inl (.inr (.inr (.inr (.inr (.inr (.inr (.inr (.inl ())))))))))) => false
  | _ => true
def opD1 (S : St) (x : Operand) : Option D := match opD S x with
  | some d => if oneD d then some d else none
  | none => none

theorem AOk.opD1 {Γ : Gam} {ρ : Nat → Value} {S : St} {a : Act} (h : AOk Γ ρ S a) {x : Operand} {d : D} (hd : opD1 S x = some d) : one Γ d (a.eval x) := by
  unfold Sf.opD1 at hd
  split at hd
  · rename_i d' hd'
    split at hd
    · rename_i ho
      cases hd
      have := h.opD hd'
      rw [val_one] at this
      · exact this
      · refine ⟨?_, ?_, ?_⟩
        · rintro l rfl; simp [oneD] at ho
        · rintro rfl; simp [oneD] at ho
        · rintro rfl; simp [oneD] at ho
    · cases hd
  · cases hd

/-- The lesser knowledge. -/
def hull1 : D → D → D
  | (.mk (.inl (.inl (k, a, b)))), (.mk (.inl (.inl (k', c, d)))) => if k = k' then .int k (min a c) (max b d) else .any
  | (.mk (.inl (.inr (.inr (.inl a))))), (.mk (.inl (.inr (.inr (.inl b))))) => .bool (if a = b then a else none)
  | (.mk (.inl (.inr (.inr (.inr (.inl n)))))), (.mk (.inl (.inr (.inr (.inr (.inl m)))))) => .str (max n m)
  | (.mk (.inr (.inl (.inr (.inl (sz, n)), d)))), (.mk (.inr (.inl (.inr (.inl (_, m)), _)))) => .slc sz d (max n m)
  | (.mk (.inl (.inr (.inr (.inr (.inr (.inr (.inr (.inl ()))))))))), d => d
  | d, (.mk (.inl (.inr (.inr (.inr (.inr (.inr (.inr (.inl ()))))))))) => d
  | d, d' => bif D.eqb d d' then d else .any
def hullL : D → D → D
  | (.mk (.inr (.inr (h, t)))), (.mk (.inr (.inr (h', t')))) => .cons (hull1 h h') (hullL t t')
  | _, _ => .nil
def hull : D → D → D
  | (.mk (.inr (.inl (.inr (.inr (.inl ())), l)))), (.mk (.inr (.inl (.inr (.inr (.inl ())), m)))) => .agg (hullL l m)
  | d, d' => hull1 d d'
def joinD (d d' : D) : D := if le3 d (hull d d') && le3 d' (hull d d') then hull d d' else .any

theorem joinD_l {Γ : Gam} {d d' : D} {v : Value} (h : val Γ d v) : val Γ (joinD d d') v := by
  unfold joinD
  split
  · rename_i hh
    simp only [Bool.and_eq_true] at hh
    exact h.le hh.1
  · exact trivial
theorem joinD_r {Γ : Gam} {d d' : D} {v : Value} (h : val Γ d' v) : val Γ (joinD d d') v := by
  unfold joinD
  split
  · rename_i hh
    simp only [Bool.and_eq_true] at hh
    exact h.le hh.2
  · exact trivial

end Go.Sf
