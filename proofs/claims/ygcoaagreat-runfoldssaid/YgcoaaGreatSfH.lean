/-
  One run of one text: tests, and what they tell.
-/
import Derived.Test.YgcoaaGreatSfG
set_option linter.unusedVariables false
set_option linter.unusedSimpArgs false
namespace Go.Sf

def narrow (S : St) (s : Nat) (d : D) : St :=
  match S.sy[s]? with
  | some (_, f) => ⟨S.sl, S.sy.set s (d, f), S.fl, S.od⟩
  | none => S

theorem narrow_len {S : St} {s : Nat} {d : D} : (narrow S s d).sy.length = S.sy.length ∧ (narrow S s d).sl = S.sl := by
  unfold narrow
  split <;> simp

theorem AOk.narrow {Γ : Gam} {ρ : Nat → Value} {S : St} {a : Act} (h : AOk Γ ρ S a) {s : Nat} {d : D} (hd : val Γ d (ρ s)) : AOk Γ ρ (narrow S s d) a := by
  unfold Sf.narrow
  split
  · rename_i d0 f hs
    refine ⟨fun i t ht => ?_, fun t d' f' ht => ?_, h.defers, h.size, fun r t ht => ?_, fun x y c ht => ?_⟩
    · obtain ⟨h1, h2⟩ := h.slot i t ht
      exact ⟨by simpa using h1, h2⟩
    · rw [List.getElem?_set] at ht
      by_cases e : s = t
      · subst e
        rw [if_pos rfl] at ht
        split at ht
        · simp only [Option.some.injEq, Prod.mk.injEq] at ht
          obtain ⟨rfl, rfl⟩ := ht
          obtain ⟨g1, g2, g3⟩ := h.sym s d0 f hs
          exact ⟨hd, g2, g3⟩
        · cases ht
      · rw [if_neg e] at ht
        exact h.sym t d' f' ht
    · obtain ⟨g1, g2, g3⟩ := h.facts r t ht
      exact ⟨by simpa using g1, by simpa using g2, g3⟩
    · obtain ⟨g1, g2, g3⟩ := h.ords x y c ht
      exact ⟨by simpa using g1, by simpa using g2, g3⟩
  · exact h

def negOp : BinOp → BinOp
  | .eql => .neq
  | .neq => .eql
  | .lss => .geq
  | .leq => .gtr
  | .gtr => .leq
  | .geq => .lss
  | op => op
def swpOp : BinOp → BinOp
  | .lss => .gtr
  | .leq => .geq
  | .gtr => .lss
  | .geq => .leq
  | op => op

theorem cmpI_neg {op : BinOp} (h : isCmp op = true) (n m : Int) : cmpI (negOp op) n m = !cmpI op n m := by
  cases op <;> first | (exfalso; simp [isCmp] at h; done) | skip
  all_goals simp only [cmpI, negOp]
  all_goals first
    | (simp [bne]; done)
    | (rw [← decide_not]; exact decide_eq_decide.2 (by omega))

theorem cmpI_swp {op : BinOp} (n m : Int) : cmpI (swpOp op) m n = cmpI op n m := by
  cases op <;> simp only [cmpI, swpOp] <;> first | rfl | skip
  · rw [Bool.eq_iff_iff]; simp; omega
  · rw [Bool.eq_iff_iff]; simp; omega

/-- A number's bounds, behind a test. -/
def nx (op : BinOp) (a b c d : Int) : Int × Int :=
  match op with
  | .eql => (max a c, min b d)
  | .neq => if c = d then (if a = c then (a + 1, b) else if b = c then (a, b - 1) else (a, b)) else (a, b)
  | .lss => (a, min b (d - 1))
  | .leq => (a, min b d)
  | .gtr => (max a (c + 1), b)
  | .geq => (max a c, b)
  | _ => (a, b)

theorem nx_ok {op : BinOp} {a b c d n m : Int} (h : cmpI op n m = true) (hn : a ≤ n ∧ n ≤ b) (hm : c ≤ m ∧ m ≤ d) : (nx op a b c d).1 ≤ n ∧ n ≤ (nx op a b c d).2 := by
  cases op <;> simp only [cmpI, beq_iff_eq, bne_iff_ne, decide_eq_true_eq] at h <;> simp only [nx] <;> first | exact hn | skip
  · subst h; omega
  · split
    · split
      · exact ⟨by dsimp only; omega, hn.2⟩
      · split
        · exact ⟨hn.1, by dsimp only; omega⟩
        · exact hn
    · exact hn
  all_goals omega

def iv (S : St) : Rf → Option (Int × Int)
  | (.inr n) => some (n, n)
  | (.inl s) => match S.sy[s]? with
    | some ((.mk (.inl (.inl (_, a, b)))), _) => some (a, b)
    | _ => none

def narrowI (S : St) (p q : Int) : Rf → St
  | (.inr _) => S
  | (.inl s) => match S.sy[s]? with
    | some ((.mk (.inl (.inl (k, _, _)))), _) => narrow S s (.int k p q)
    | _ => S

theorem narrowI_len {S : St} {p q : Int} {x : Rf} : (narrowI S p q x).sy.length = S.sy.length ∧ (narrowI S p q x).sl = S.sl := by
  cases x using Rf.cs with
  | lit n => exact ⟨rfl, rfl⟩
  | sym s =>
    simp only [narrowI]
    split
    · exact narrow_len
    · exact ⟨rfl, rfl⟩

theorem AOk.iv {Γ : Gam} {ρ : Nat → Value} {S : St} {a : Act} (h : AOk Γ ρ S a) {x : Rf} {p q n : Int} (hi : iv S x = some (p, q)) (hn : rfI ρ x = some n) : p ≤ n ∧ n ≤ q := by
  cases x using Rf.cs with
  | lit m =>
    simp only [Sf.iv, rfI, Option.some.injEq, Prod.mk.injEq] at hi hn
    omega
  | sym s =>
    simp only [Sf.iv] at hi
    split at hi
    · rename_i k a' b' f hs
      cases hi
      obtain ⟨m, e, g1, g2⟩ := (h.sym s _ _ hs).1
      simp only [rfI, e, Option.some.injEq] at hn
      omega
    · cases hi

theorem AOk.narrowI {Γ : Gam} {ρ : Nat → Value} {S : St} {a : Act} (h : AOk Γ ρ S a) {x : Rf} {p q n : Int} (hn : rfI ρ x = some n) (hp : p ≤ n ∧ n ≤ q) : AOk Γ ρ (narrowI S p q x) a := by
  cases x using Rf.cs with
  | lit m => exact h
  | sym s =>
    simp only [Sf.narrowI]
    split
    · rename_i k a' b' f hs
      refine h.narrow ?_
      obtain ⟨m, e, g1, g2⟩ := (h.sym s _ _ hs).1
      simp only [rfI, e, Option.some.injEq] at hn
      subst hn
      exact ⟨m, e, hp⟩
    · exact h

/-- A length that a test tells of. -/
def lenF (S : St) (op : BinOp) (x y : Rf) : List (Rf × Nat) :=
  (match op, y with
    | .lss, (.inl t) => match S.sy[t]? with | some (_, (some (.inr (.inr (.inl s))))) => [(x, s)] | _ => []
    | _, _ => []) ++
  (match op, x with
    | .gtr, (.inl t) => match S.sy[t]? with | some (_, (some (.inr (.inr (.inl s))))) => [(y, s)] | _ => []
    | _, _ => [])
def addF (S : St) (l : List (Rf × Nat)) : St := ⟨S.sl, S.sy, l ++ S.fl, S.od⟩

theorem AOk.addF {Γ : Gam} {ρ : Nat → Value} {S : St} {a : Act} (h : AOk Γ ρ S a) {l : List (Rf × Nat)} (hl : ∀ r s, (r, s) ∈ l → r.below S.sy.length = true ∧ s < S.sy.length ∧ ∃ (n : Int) (m : Nat), rfI ρ r = some n ∧ lenV (ρ s) = some m ∧ n < m) : AOk Γ ρ (addF S l) a :=
  ⟨h.slot, h.sym, h.defers, h.size, fun r s hs => by
    rcases List.mem_append.1 hs with hs | hs
    · exact hl r s hs
    · exact h.facts r s hs, h.ords⟩

theorem lenF_ok {Γ : Gam} {ρ : Nat → Value} {S : St} {a : Act} (h : AOk Γ ρ S a) {op : BinOp} {x y : Rf} {n m : Int} (hc : cmpI op n m = true) (hx : rfI ρ x = some n) (hy : rfI ρ y = some m)
    (bx : x.below S.sy.length = true) (by_ : y.below S.sy.length = true) : ∀ r s, (r, s) ∈ lenF S op x y → r.below S.sy.length = true ∧ s < S.sy.length ∧ ∃ (n : Int) (m : Nat), rfI ρ r = some n ∧ lenV (ρ s) = some m ∧ n < m := by
  intro r s hs
  have key : ∀ {t s : Nat} {d : D} {k : Int}, S.sy[t]? = some (d, .len s) → rfI ρ (.sym t) = some k → s < S.sy.length ∧ ∃ m : Nat, lenV (ρ s) = some m ∧ k = m := by
    intro t s d k ht hk
    obtain ⟨_, ⟨m, h1, h2⟩, h3⟩ := h.sym t _ _ ht
    have hlt := (List.getElem?_eq_some_iff.1 ht).1
    simp only [Df.below, decide_eq_true_eq] at h3
    simp only [rfI, h2, Option.some.injEq] at hk
    exact ⟨by omega, m, h1, hk.symm⟩
  unfold lenF at hs
  rcases List.mem_append.1 hs with hs | hs
  · split at hs
    · rename_i t
      split at hs
      · rename_i d s' ht
        simp only [List.mem_singleton, Prod.mk.injEq] at hs
        obtain ⟨rfl, rfl⟩ := hs
        obtain ⟨k1, k, k2, k3⟩ := key ht hy
        simp only [cmpI, decide_eq_true_eq] at hc
        exact ⟨bx, k1, n, k, hx, k2, by omega⟩
      · cases hs
    · cases hs
  · split at hs
    · rename_i t
      split at hs
      · rename_i d s' ht
        simp only [List.mem_singleton, Prod.mk.injEq] at hs
        obtain ⟨rfl, rfl⟩ := hs
        obtain ⟨k1, k, k2, k3⟩ := key ht hx
        simp only [cmpI, decide_eq_true_eq] at hc
        exact ⟨by_, k1, m, k, hy, k2, by omega⟩
      · cases hs
    · cases hs

/-- A number that is another and a constant. -/
def plusOf (S : St) : Rf → Option (Nat × Int)
  | (.inl t) => match S.sy[t]? with
    | some (_, (some (.inr (.inl (s, k))))) => some (s, k)
    | _ => none
  | (.inr _) => none

/-- A number that is a difference. -/
def diffOf (S : St) : Rf → Option (Rf × Rf)
  | (.inl t) => match S.sy[t]? with
    | some (_, (some (.inr (.inr (.inr (.inr (.inl (p, q)))))))) => some (p, q)
    | _ => none
  | (.inr _) => none

/-- What a difference's bound tells of its two numbers. -/
def ordD (S : St) (x y : Rf) (c : Int) : List (Rf × Rf × Int) :=
  (match x, diffOf S y with | (.inr n), some (p, q) => [(q, p, n + c)] | _, _ => []) ++ (match y, diffOf S x with | (.inr n), some (p, q) => [(p, q, c - n)] | _, _ => [])

/-- The same, reckoned from the first of a chain. -/
def ord1 (S : St) (x y : Rf) (c : Int) : List (Rf × Rf × Int) :=
  (x, y, c) :: ((match plusOf S x with | some (s, k) => [(.sym s, y, c + k)] | none => []) ++ (match plusOf S y with | some (s, k) => [(x, .sym s, c - k)] | none => []) ++ ordD S x y c)

/-- What a test tells of two numbers. -/
def ordF (S : St) (op : BinOp) (x y : Rf) : List (Rf × Rf × Int) :=
  match op with
  | .lss => ord1 S x y 1
  | .leq => ord1 S x y 0
  | .gtr => ord1 S y x 1
  | .geq => ord1 S y x 0
  | .eql => ord1 S x y 0 ++ ord1 S y x 0
  | _ => []
def addO (S : St) (l : List (Rf × Rf × Int)) : St := ⟨S.sl, S.sy, S.fl, l ++ S.od⟩

/-- Such a fact. -/
def OrdOk (ρ : Nat → Value) (N : Nat) (x y : Rf) (c : Int) : Prop := x.below N = true ∧ y.below N = true ∧ ∃ (n m : Int), rfI ρ x = some n ∧ rfI ρ y = some m ∧ n + c ≤ m

theorem AOk.addO {Γ : Gam} {ρ : Nat → Value} {S : St} {a : Act} (h : AOk Γ ρ S a) {l : List (Rf × Rf × Int)} (hl : ∀ x y c, (x, y, c) ∈ l → OrdOk ρ S.sy.length x y c) : AOk Γ ρ (addO S l) a :=
  ⟨h.slot, h.sym, h.defers, h.size, h.facts, fun x y c hs => by
    rcases List.mem_append.1 hs with hs | hs
    · exact hl x y c hs
    · exact h.ords x y c hs⟩

theorem plusOf_ok {Γ : Gam} {ρ : Nat → Value} {S : St} {a : Act} (h : AOk Γ ρ S a) {x : Rf} {s : Nat} {k n : Int} (hp : plusOf S x = some (s, k)) (hx : rfI ρ x = some n) : s < S.sy.length ∧ ∃ m, rfI ρ (.sym s) = some m ∧ n = m + k := by
  cases x using Rf.cs with
  | lit c => cases hp
  | sym t =>
    simp only [plusOf] at hp
    split at hp
    · rename_i d s' k' ht
      cases hp
      obtain ⟨_, ⟨kk, m, h1, h2⟩, h3⟩ := h.sym t _ _ ht
      have hlt := (List.getElem?_eq_some_iff.1 ht).1
      simp only [Df.below, decide_eq_true_eq] at h3
      simp only [rfI, h2, Option.some.injEq] at hx
      exact ⟨by omega, m, by simp [rfI, h1], by omega⟩
    · cases hp

theorem diffOf_ok {Γ : Gam} {ρ : Nat → Value} {S : St} {a : Act} (h : AOk Γ ρ S a) {x p q : Rf} {n : Int} (hp : diffOf S x = some (p, q)) (hx : rfI ρ x = some n) : p.below S.sy.length = true ∧ q.below S.sy.length = true ∧ ∃ m k, rfI ρ p = some m ∧ rfI ρ q = some k ∧ n = m - k := by
  cases x using Rf.cs with
  | lit c => cases hp
  | sym t =>
    simp only [diffOf] at hp
    split at hp
    · rename_i d p' q' ht
      cases hp
      obtain ⟨_, ⟨kk, m, k, h1, h2, h4⟩, h3⟩ := h.sym t _ _ ht
      have hlt := (List.getElem?_eq_some_iff.1 ht).1
      simp only [Df.below, Bool.and_eq_true] at h3
      simp only [rfI, h4, Option.some.injEq] at hx
      exact ⟨Rf.below_mono h3.1 (Nat.le_of_lt hlt), Rf.below_mono h3.2 (Nat.le_of_lt hlt), m, k, h1, h2, hx.symm⟩
    · cases hp

theorem ordD_ok {Γ : Gam} {ρ : Nat → Value} {S : St} {a : Act} (h : AOk Γ ρ S a) {x y : Rf} {c : Int} (ho : OrdOk ρ S.sy.length x y c) : ∀ x' y' c', (x', y', c') ∈ ordD S x y c → OrdOk ρ S.sy.length x' y' c' := by
  obtain ⟨b1, b2, n, m, e1, e2, e3⟩ := ho
  intro x' y' c' hm
  unfold ordD at hm
  rcases List.mem_append.1 hm with hm' | hm'
  · clear hm
    have hm := hm'
    clear hm'
    split at hm
    · rename_i z p q hd
      simp only [List.mem_singleton, Prod.mk.injEq] at hm
      obtain ⟨rfl, rfl, rfl⟩ := hm
      obtain ⟨h1, h2, u, v, h3, h4, h5⟩ := diffOf_ok h hd e2
      simp only [rfI, Option.some.injEq] at e1
      exact ⟨h2, h1, v, u, h4, h3, by omega⟩
    · cases hm
  · clear hm
    have hm := hm'
    clear hm'
    split at hm
    · rename_i z p q hd
      simp only [List.mem_singleton, Prod.mk.injEq] at hm
      obtain ⟨rfl, rfl, rfl⟩ := hm
      obtain ⟨h1, h2, u, v, h3, h4, h5⟩ := diffOf_ok h hd e1
      simp only [rfI, Option.some.injEq] at e2
      exact ⟨h1, h2, u, v, h3, h4, by omega⟩
    · cases hm

theorem ord1_ok {Γ : Gam} {ρ : Nat → Value} {S : St} {a : Act} (h : AOk Γ ρ S a) {x y : Rf} {c : Int} (ho : OrdOk ρ S.sy.length x y c) : ∀ x' y' c', (x', y', c') ∈ ord1 S x y c → OrdOk ρ S.sy.length x' y' c' := by
  obtain ⟨b1, b2, n, m, e1, e2, e3⟩ := ho
  intro x' y' c' hm
  unfold ord1 at hm
  rcases List.mem_cons.1 hm with hm | hm
  · cases hm; exact ⟨b1, b2, n, m, e1, e2, e3⟩
  rcases List.mem_append.1 hm with hm | hm
  rotate_left
  · exact ordD_ok h ⟨b1, b2, n, m, e1, e2, e3⟩ _ _ _ hm
  rcases List.mem_append.1 hm with hm | hm
  · cases hp : plusOf S x with
    | none => rw [hp] at hm; cases hm
    | some sk =>
      obtain ⟨s, k⟩ := sk
      rw [hp] at hm
      simp only [List.mem_singleton, Prod.mk.injEq] at hm
      obtain ⟨rfl, rfl, rfl⟩ := hm
      obtain ⟨hs, q, q1, q2⟩ := plusOf_ok h hp e1
      exact ⟨by simpa [Rf.below] using hs, b2, q, m, q1, e2, by omega⟩
  · cases hp : plusOf S y with
    | none => rw [hp] at hm; cases hm
    | some sk =>
      obtain ⟨s, k⟩ := sk
      rw [hp] at hm
      simp only [List.mem_singleton, Prod.mk.injEq] at hm
      obtain ⟨rfl, rfl, rfl⟩ := hm
      obtain ⟨hs, q, q1, q2⟩ := plusOf_ok h hp e2
      exact ⟨b1, by simpa [Rf.below] using hs, n, q, e1, q1, by omega⟩

theorem ordF_ok {Γ : Gam} {ρ : Nat → Value} {S : St} {a : Act} (h : AOk Γ ρ S a) {op : BinOp} {x y : Rf} {n m : Int} (hc : cmpI op n m = true) (hx : rfI ρ x = some n) (hy : rfI ρ y = some m)
    (bx : x.below S.sy.length = true) (by_ : y.below S.sy.length = true) : ∀ x' y' c', (x', y', c') ∈ ordF S op x y → OrdOk ρ S.sy.length x' y' c' := by
  intro x' y' c' hm
  cases op <;> simp only [ordF] at hm <;> first | (cases hm; done) | skip
  all_goals simp only [cmpI, beq_iff_eq, decide_eq_true_eq] at hc
  · rcases List.mem_append.1 hm with hm | hm
    · exact ord1_ok h ⟨bx, by_, n, m, hx, hy, by omega⟩ _ _ _ hm
    · exact ord1_ok h ⟨by_, bx, m, n, hy, hx, by omega⟩ _ _ _ hm
  · exact ord1_ok h ⟨bx, by_, n, m, hx, hy, by omega⟩ _ _ _ hm
  · exact ord1_ok h ⟨bx, by_, n, m, hx, hy, by omega⟩ _ _ _ hm
  · exact ord1_ok h ⟨by_, bx, m, n, hy, hx, by omega⟩ _ _ _ hm
  · exact ord1_ok h ⟨by_, bx, m, n, hy, hx, by omega⟩ _ _ _ hm

/-- Behind a test: 'some none' if it cannot come out so. -/
def assm (S : St) (s : Nat) (b : Bool) : Option (Option St) :=
  match S.sy[s]? with
  | some ((.mk (.inl (.inr (.inr (.inl o))))), f) =>
    if o = some (!b) then some none else
    match f with
    | (some (.inl (op, x, y))) =>
      if isCmp op then
        match iv S x, iv S y with
        | some (p, q), some (u, v) =>
          let op' := if b then op else negOp op
          let r := nx op' p q u v
          let t := nx (swpOp op') u v p q
          if r.2 < r.1 ∨ t.2 < t.1 then some none
          else some (some (addO (addF (narrowI (narrowI (narrow S s (.bool (some b))) r.1 r.2 x) t.1 t.2 y) (lenF S op' x y)) (ordF S op' x y)))
        | _, _ => some (some (narrow S s (.bool (some b))))
      else some (some (narrow S s (.bool (some b))))
    | (some (.inr (.inr (.inr (.inr (.inr t)))))) => some (some (addF (narrow S s (.bool (some b))) (if b then [(.lit 0, t)] else [])))
    | _ => some (some (narrow S s (.bool (some b))))
  | _ => none

theorem assm_bool {Γ : Gam} {ρ : Nat → Value} {S : St} {a : Act} (h : AOk Γ ρ S a) {s : Nat} {b : Bool} {r : Option St} (hr : assm S s b = some r) : ∃ c, ρ s = .bool c := by
  unfold assm at hr
  split at hr
  · rename_i o f hs
    obtain ⟨c, e, _⟩ := (h.sym s _ _ hs).1
    exact ⟨c, e⟩
  · cases hr

theorem assm_ok {Γ : Gam} {ρ : Nat → Value} {S : St} {a : Act} (h : AOk Γ ρ S a) {s : Nat} {b : Bool} {r : Option St} (hr : assm S s b = some r) (hb : ρ s = .bool b) :
    ∃ S', r = some S' ∧ AOk Γ ρ S' a ∧ S'.sy.length = S.sy.length ∧ S'.sl = S.sl := by
  unfold assm at hr
  split at hr
  · rename_i o f hs
    obtain ⟨g1, g2, g3⟩ := h.sym s _ _ hs
    obtain ⟨c, e, g4⟩ := g1
    rw [hb] at e
    cases e
    split at hr
    · rename_i ho
      have := g4 _ ho
      simp at this
    · have hv : val Γ (.bool (some b)) (ρ s) := by
        rw [hb]
        exact ⟨b, rfl, fun c hc => by cases hc; rfl⟩
      have base : AOk Γ ρ (Sf.narrow S s (.bool (some b))) a := h.narrow hv
      have bl := narrow_len (S := S) (s := s) (d := .bool (some b))
      split at hr
      · rename_i op x y
        split at hr
        · rename_i hop
          split at hr
          · rename_i p q u v hx hy
            obtain ⟨n, m, e1, e2, e3⟩ := g2
            rw [hb] at e3
            have e4 : cmpI (if b = true then op else negOp op) n m = true := by
              cases b
              · simp only [Bool.false_eq_true, if_false]
                rw [cmpI_neg hop]
                injection e3 with e3
                rw [← e3]; rfl
              · simp only [if_true]
                injection e3 with e3
                exact e3.symm
            have i1 := h.iv hx e1
            have i2 := h.iv hy e2
            have j1 := nx_ok e4 i1 i2
            have j2 := nx_ok (op := swpOp (if b = true then op else negOp op)) (by rw [cmpI_swp]; exact e4) i2 i1
            simp only [Df.below, Bool.and_eq_true] at g3
            have hsl : s < S.sy.length := (List.getElem?_eq_some_iff.1 hs).1
            have j3 := lenF_ok h e4 e1 e2 (Rf.below_mono g3.1 (Nat.le_of_lt hsl)) (Rf.below_mono g3.2 (Nat.le_of_lt hsl))
            have j4 := ordF_ok h e4 e1 e2 (Rf.below_mono g3.1 (Nat.le_of_lt hsl)) (Rf.below_mono g3.2 (Nat.le_of_lt hsl))
            dsimp only at hr
            revert hr j1 j2 j3 j4
            generalize (if b = true then op else negOp op) = op'
            intro hr j1 j2 j3 j4
            split at hr
            · omega
            · cases hr
              have hl : (Sf.narrowI (Sf.narrowI (Sf.narrow S s (.bool (some b))) (nx op' p q u v).1 (nx op' p q u v).2 x) (nx (swpOp op') u v p q).1 (nx (swpOp op') u v p q).2 y).sy.length = S.sy.length := by
                rw [narrowI_len.1, narrowI_len.1, bl.1]
              refine ⟨_, rfl, (((base.narrowI e1 j1).narrowI e2 j2).addF (fun r t ht => ?_)).addO (fun x' y' c' hm => ?_), ?_, ?_⟩
              · rw [hl]; exact j3 r t ht
              · have hl' : (Sf.addF (Sf.narrowI (Sf.narrowI (Sf.narrow S s (.bool (some b))) (nx op' p q u v).1 (nx op' p q u v).2 x) (nx (swpOp op') u v p q).1 (nx (swpOp op') u v p q).2 y) (lenF S op' x y)).sy.length = S.sy.length := hl
                rw [hl']; exact j4 x' y' c' hm
              · exact hl
              · show (Sf.narrowI (Sf.narrowI (Sf.narrow S s (.bool (some b))) _ _ x) _ _ y).sl = S.sl
                rw [narrowI_len.2, narrowI_len.2, bl.2]
          · cases hr; exact ⟨_, rfl, base, bl⟩
        · cases hr; exact ⟨_, rfl, base, bl⟩
      · rename_i t
        cases hr
        refine ⟨_, rfl, base.addF (fun r u hu => ?_), bl⟩
        cases b with
        | false => exact absurd hu (by simp)
        | true =>
          simp only [if_true, List.mem_singleton, Prod.mk.injEq] at hu
          obtain ⟨rfl, rfl⟩ := hu
          obtain ⟨m, e1, e2⟩ := g2
          rw [hb] at e2
          simp only [Df.below, decide_eq_true_eq] at g3
          have hsl : s < S.sy.length := (List.getElem?_eq_some_iff.1 hs).1
          injection e2 with e2
          have e3 : 0 < m := by simpa using e2.symm
          refine ⟨rfl, ?_, 0, m, rfl, e1, by omega⟩
          rw [bl.1]
          omega
      · cases hr; exact ⟨_, rfl, base, bl⟩
  · cases hr
end Go.Sf
