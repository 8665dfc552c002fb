/-
  One run of one text: one operation.
-/
import Derived.Laws.Strings
import Derived.Test.YgcoaaGreatSfP
set_option linter.unusedVariables false
set_option linter.unusedSimpArgs false
namespace Go.Sf

/-- 'al': what a variable of a type holds; 'E': structs that are compared; 'sg', 'xg': what calls yield. -/
structure Env where
  P : Program
  al : Nat → TypeId → D
  E : TypeId → Option D
  sg : FuncId → D → Option D
  xg : FuncId → D → Option D

/-- Arguments, each of its kind. -/
def Args (Γ : Gam) (ps : D) (xs : Array Value) : Prop := xs.size = ps.len ∧ ∀ j d, ps.at j = some d → ∃ x, xs[j]? = some x ∧ one Γ d x

/-- A function returns, and its answer is of its kind. -/
def Con (P : Program) (g : FuncId) (ps r : D) : Prop := ∀ (Γ : Gam) (w : World) (xs : Array Value), Wt Γ w → Args Γ ps xs →
  Calls P g xs w fun e w' => ∃ v Γ', e = .returned v ∧ Ex Γ w Γ' w' ∧ val Γ' r v

/-- The same of a function without a text. -/
def XCon (P : Program) (g : FuncId) (ps r : D) : Prop := ∀ (Γ : Gam) (xs : Array Value), Args Γ ps xs → US P (fun Γ nx => ∃ v, nx = .value v ∧ val Γ r v) Γ (callFunc g xs)

def hasBody (P : Program) (g : FuncId) : Bool := match P.funcs[g]? with
  | some fn => fn.body.isSome && fn.name != "runtime.NumGoroutine"
  | none => false

/-- What comes of an operation. -/
abbrev Tr := Option ((D × Df) ⊕ Nat)
abbrev Tr.val (d : D) (f : Df) : Tr := some (.inl (d, f))
abbrev Tr.same (s : Nat) : Tr := some (.inr s)
abbrev Tr.skip : Tr := none
theorem Tr.cs {motive : Tr → Prop} (t : Tr) (val : ∀ d f, motive (Tr.val d f)) (same : ∀ s, motive (Tr.same s)) (skip : motive Tr.skip) : motive t :=
  match t with
  | some (.inl (d, f)) => val d f
  | some (.inr s) => same s
  | none => skip

def St.put (S : St) (dst : Option Tmp) : Tr → St
  | (some (.inl (d, f))) => S.push dst d f
  | (some (.inr s)) => S.same dst s
  | none => S.push dst .und .no

/-- A value handed on. -/
def trOf (S : St) (x : Operand) : Option Tr :=
  match symOf S x with
  | some s => some (.same s)
  | none => (opD S x).map (.val · .no)

def partsD (S : St) : List (Nat × Operand) → Option (List (Nat × D))
  | [] => some []
  | (i, x) :: ps => match opD1 S x, partsD S ps with
    | some d, some r => some ((i, d) :: r)
    | _, _ => none

def argsD (S : St) : List Operand → Option D
  | [] => some .nil
  | x :: xs => match opD1 S x, argsD S xs with
    | some d, some r => some (.cons d r)
    | _, _ => none

def rfOf (S : St) : Operand → Option Rf
  | .const (.int _ n) => some (.lit n)
  | x => (symOf S x).map .sym

/-- How the result of an operator came about. -/
def dfOf (S : St) (op : BinOp) (x y : Operand) (dx dy : D) : Df :=
  match dx, dy with
  | (.mk (.inl (.inl (k, a, b)))), (.mk (.inl (.inl (k', c, d)))) =>
    if k = k' then
      if isCmp op then
        match rfOf S x, rfOf S y with
        | some p, some q => .cmp op p q
        | _, _ => .no
      else if c = d then
        match op, symOf S x with
        | .add, some s => if k.min ≤ a + c ∧ b + c ≤ k.max then .plus s c else .no
        | .sub, some s => if k.min ≤ a - c ∧ b - c ≤ k.max then .plus s (-c) else .no
        | _, _ => .no
      else
        match op, rfOf S x, rfOf S y with
        | .sub, some p, some q => if k.min ≤ a - d ∧ b - c ≤ k.max then .diff p q else .no
        | _, _, _ => .no
    else .no
  | (.mk (.inl (.inr (.inr (.inr (.inl _)))))), (.mk (.inl (.inr (.inr (.inr (.inl _)))))) =>
    match op, symOf S x, y with
    | .neq, some s, .const (.string e) => if e.size = 0 then .nes s else .no
    | _, _, _ => .no
  | _, _ => .no

/-- Where a number is another and a constant: reckoned from the first of the chain. -/
def flat (S : St) : Df → Df
  | (some (.inr (.inl (s, c)))) => match S.sy[s]? with
    | some (_, (some (.inr (.inl (s', c'))))) => .plus s' (c' + c)
    | _ => .plus s c
  | f => f

def aLen (P : Program) (t : TypeId) (d : D) : Option D :=
  match P.underlying t, d with
  | some .string, (.mk (.inl (.inr (.inr (.inr (.inl n)))))) => some (.int .i64 0 n)
  | some (.slice _), (.mk (.inr (.inl (.inr (.inl (_, n)), _)))) => some (.int .i64 0 n)
  | some (.slice _), (.mk (.inl (.inr (.inr (.inr (.inr (.inr (.inr (.inl ()))))))))) => some (.int .i64 0 0)
  | some (.array n _), (.mk (.inr (.inl (.inr (.inr (.inl ())), _)))) => some (.int .i64 n n)
  | _, _ => none

/-- Whose length it is. -/
def P_lenDf (S : St) (x : Operand) : D → Option Nat
  | (.mk (.inl (.inr (.inr (.inr (.inl _)))))) | (.mk (.inr (.inl (.inr (.inl (_, _)), _)))) => symOf S x
  | _ => none

/-- Whether a number is known to be less than a length. -/
def hasF (S : St) (i x : Operand) : Bool :=
  match rfOf S i, symOf S x with
  | some r, some s => S.fl.contains (r, s)
  | _, _ => false

/-- An element's place: of an array, or of a slice whose length is known to be greater. -/
def aIdxA (P : Program) (S : St) (t : TypeId) (x i : Operand) (d d' : D) : Option D :=
  match d, d' with
  | (.mk (.inr (.inl (.inr (.inl (sz, _)), c)))), (.mk (.inl (.inl (_, a, _)))) => match P.underlying t with
    | some (.slice e) => match P.info? e with
      | some info => if 0 ≤ a ∧ info.size = sz ∧ hasF S i x = true then some (.ptr (D.rep c sz)) else none
      | none => none
    | _ => none
  | _, _ => aIndexAddr P t d d'

/-- An element: of an array, or a byte of a string whose length is known to be greater. -/
def aIdx (P : Program) (S : St) (t : TypeId) (x i : Operand) (d d' : D) : Option D :=
  match d, d' with
  | (.mk (.inl (.inr (.inr (.inr (.inl _)))))), (.mk (.inl (.inl (_, a, b)))) => match P.underlying t with
    | some .string =>
      if 0 ≤ a then
        match x with
        | .const (.string s) => if b < s.size then some (.int .u8 0 255) else none
        | _ => if hasF S i x then some (.int .u8 0 255) else none
      else none
    | _ => none
  | _, _ => aIndex P t d d'

/-- Whether a number is known to be at most a length. -/
def hasL (S : St) (i x : Operand) : Bool :=
  match rfOf S i, symOf S x with
  | some r, some s => S.fl.contains (r, s) || (match plusOf S r with | some (b, k) => decide (k ≤ 1) && S.fl.contains (.sym b, s) | none => false)
  | _, _ => false

/-- The length that a text's constant has. -/
def litLen : Operand → Option Nat
  | .const (.string s) => some s.size
  | _ => none

/-- At most a length: told, or by the constant. -/
def hasB (S : St) (i x : Operand) (d : D) : Bool :=
  match d with
  | (.mk (.inl (.inl (_, a, b)))) => decide (0 ≤ a) && (hasL S i x || (match litLen x with | some n => decide (b ≤ n) | none => false))
  | _ => false

/-- By how much the one number is at least the other. -/
def leastOf (S : St) (x y : Operand) : Option Int :=
  match rfOf S x, rfOf S y with
  | some rx, some ry =>
    match S.od.find? (fun p => p.1 == ry && p.2.1 == rx) with
    | some (_, _, c) => some c
    | none => match rx with
      | (.inl s) => match S.sy[s]? with
        | some (_, (some (.inr (.inr (.inr (.inl (p, q))))))) =>
          bif p == ry then some 0 else bif q == ry then some 0 else
          (match plusOf S p with
            | some (b, k) => bif Rf.sym b == ry then some k else none
            | none => none)
        | _ => none
      | (.inr _) => none
  | _, _ => none

def nonneg : Option Int → Bool
  | some m => decide (0 ≤ m)
  | none => false

/-- Part of a string. -/
def aSlice (P : Program) (S : St) (t : TypeId) (x : Operand) (lo hi : Option Operand) : Option D :=
  match P.underlying t, opD1 S x with
  | some .string, some (.mk (.inl (.inr (.inr (.inr (.inl n)))))) => match lo, hi with
    | none, some h => match opD1 S h with
      | some d => if hasB S h x d then some (.str n) else none
      | none => none
    | some l, none => match opD1 S l with
      | some d => if hasB S l x d then some (.str n) else none
      | none => none
    | some l, some h => match opD1 S l, opD1 S h with
      | some (.mk (.inl (.inl (_, a, b)))), some (.mk (.inl (.inl (k', c, d)))) => if 0 ≤ a ∧ hasB S h x (.int k' c d) = true ∧ (b ≤ c ∨ nonneg (leastOf S h l) = true) then some (.str n) else none
      | _, _ => none
    | none, none => none
  | _, _ => none

/-- A new slice of numbers. -/
def aMake (P : Program) (t : TypeId) (s s' : Option Nat) : D → D → Option D
  | (.mk (.inl (.inl (_, a, b)))), (.mk (.inl (.inl (_, c, d)))) => match P.underlying t with
    | some (.slice e) => match P.info? e, Tw.zero? P e with
      | some info, some (.int k 0) =>
        if info.size = 1 ∧ 0 ≤ a ∧ 0 ≤ d ∧ (b ≤ c ∨ (s.isSome = true ∧ s = s')) ∧ info.bytes * d.toNat ≤ 281474976710656 ∧ d ≤ 9223372036854775807 then some (.slc 1 (full k) d.toNat) else none
      | _, _ => none
    | _ => none
  | _, _ => none

def aConvS (P : Program) (src dst : TypeId) (d : D) : Option D :=
  match d with
  | (.mk (.inr (.inl (.inr (.inl (1, n)), (.mk (.inl (.inl (.u8, _, _)))))))) => match P.underlying src, P.underlying dst with
    | some (.slice e), some .string => match P.underlying e with
      | some (.int .u8) => some (.str n)
      | _ => none
    | _, _ => none
  | _ => aConv P src dst d

/-- A difference, from below. -/
def tight (S : St) (op : BinOp) (x y : Operand) (dx dy r : D) : D :=
  match op, dx, dy with
  | .sub, (.mk (.inl (.inl (k, a, b)))), (.mk (.inl (.inl (k', c, d)))) =>
    if k = k' ∧ k.min ≤ a - d ∧ b - c ≤ k.max then
      .int k (match leastOf S x y with | some m => max (a - d) m | none => a - d) (match leastOf S y x with | some m => min (b - c) (-m) | none => b - c)
    else r
  | _, _, _ => r

/-- The greater of two numbers. -/
def mxDf (S : St) (x y : Operand) : D → D → Df
  | (.mk (.inl (.inl (k, _, _)))), (.mk (.inl (.inl (k', _, _)))) => if k = k' then (match rfOf S x, rfOf S y with | some p, some q => .mx p q | _, _ => .no) else .no
  | _, _ => .no

def aMax (mx : Bool) : D → D → Option D
  | (.mk (.inl (.inl (k, a, b)))), (.mk (.inl (.inl (k', c, d)))) => if k = k' then some (if mx then .int k (max a c) (max b d) else .int k (min a c) (min b d)) else none
  | (.mk (.inl (.inr (.inr (.inr (.inr (.inl k))))))), (.mk (.inl (.inr (.inr (.inr (.inr (.inl k'))))))) => if k = k' then some (.flt k) else none
  | _, _ => none

def aOp (V : Env) (S : St) (o : Oper) : Option Tr :=
  match o.op with
  | .move x | .assign x => trOf S x
  | .pick c x y => match opD S c with
    | some (.mk (.inl (.inr (.inr (.inl (some true)))))) => trOf S x
    | some (.mk (.inl (.inr (.inr (.inl (some false)))))) => trOf S y
    | some (.mk (.inl (.inr (.inr (.inl none))))) => match opD S x, opD S y with
      | some d, some d' => some (.val (joinD d d') .no)
      | _, _ => none
    | _ => none
  | .alloc t => if aAlloc V.P t (V.al (o.dst.getD 0) t) then some (.val (.ptr (V.al (o.dst.getD 0) t)) .no) else none
  | .box t x => match opD1 S x with
    | some d => if leL le1 d.asCells (V.al (o.dst.getD 0) t) then some (.val (.ptr (V.al (o.dst.getD 0) t)) .no) else none
    | none => none
  | .build t ps => match partsD S ps.toList with
    | some qs => (aBuild V.P t qs).map (.val · .no)
    | none => none
  | .load t x => match opD S x with
    | some (.mk (.inr (.inl (.inl (), l)))) => (aLoad V.P t l).map (.val · .no)
    | _ => none
  | .store t x y => match opD S x, opD1 S y with
    | some (.mk (.inr (.inl (.inl (), l)))), some d => if aStore V.P t l d then some .skip else none
    | _, _ => none
  | .nilCheck x => match opD S x with
    | some (.mk (.inr (.inl (.inl (), _)))) => trOf S x
    | _ => none
  | .binOp op t x y _ => match opD1 S x, opD1 S y with
    | some dx, some dy => (aBin V.P V.E op t dx dy).map fun r => .val (tight S op x y dx dy r) (flat S (dfOf S op x y dx dy))
    | _, _ => none
  | .unOp op _ x => match opD1 S x with
    | some d => (aUn op d).map (.val · .no)
    | none => none
  | .convert s t x => match opD1 S x with
    | some d => (aConvS V.P s t d).map (.val · .no)
    | none => none
  | .fieldAddr t x i => match opD S x with
    | some (.mk (.inr (.inl (.inl (), l)))) => (aFieldAddr V.P t i l).map (.val · .no)
    | _ => none
  | .field t x i => match opD S x with
    | some (.mk (.inr (.inl (.inr (.inr (.inl ())), l)))) => (aField V.P t i l).map (.val · .no)
    | _ => none
  | .indexAddr t x i => match opD1 S x, opD1 S i with
    | some d, some d' => (aIdxA V.P S t x i d d').map (.val · .no)
    | _, _ => none
  | .index t x i => match opD1 S x, opD1 S i with
    | some d, some d' => (aIdx V.P S t x i d d').map (.val · .no)
    | _, _ => none
  | .makeSlice t x y => match opD1 S x, opD1 S y with
    | some d, some d' => (aMake V.P t (symOf S x) (symOf S y) d d').map (.val · .no)
    | _, _ => none
  | .slice t x lo hi none => (aSlice V.P S t x lo hi).map (.val · .no)
  | .extract x i => match opD S x with
    | some (.mk (.inr (.inl (.inr (.inr (.inr ())), l)))) => (l.at i).map (.val · .no)
    | _ => none
  | .call { callee := .value (.func g), args, .. } => match argsD S args.toList with
    | some ps => if hasBody V.P g then (V.sg g ps).map (.val · .no) else (V.xg g ps).map (.val · .no)
    | none => none
  | .call { callee := .builtin b, args, argTypes } => match b, args.toList, argTypes.toList with
    | .len, [x], t :: _ => match opD1 S x with
      | some d => (aLen V.P t d).map (.val · (match P_lenDf S x d with | some s => .len s | none => .no))
      | none => none
    | .max, [x, y], _ => match opD1 S x, opD1 S y with
      | some d, some d' => (aMax true d d').map (.val · (mxDf S x y d d'))
      | _, _ => none
    | .min, [x, y], _ => match opD1 S x, opD1 S y with
      | some d, some d' => (aMax false d d').map (.val · .no)
      | _, _ => none
    | _, _, _ => none
  | _ => none

/-- What a value is, as it is told. -/
def TrOk (Γ : Gam) (ρ : Nat → Value) (S : St) : Tr → Value → Prop
  | (some (.inl (d, f))), v => Sf.val Γ d v ∧ DfOk ρ f v ∧ f.below S.sy.length = true
  | (some (.inr s)), v => s < S.sy.length ∧ v = ρ s
  | none, v => v = undef

/-- What an operation that is no call comes to. -/
def Nx (Γ : Gam) (ρ : Nat → Value) (S : St) (tr : Tr) : Next → Prop
  | .value v => TrOk Γ ρ S tr v
  | .skip => tr = .skip
  | _ => False

section
variable {V : Env} {Γ : Gam} {ρ : Nat → Value} {S : St} {a : Act}

theorem tr_of (h : AOk Γ ρ S a) {x : Operand} {tr : Tr} (ht : trOf S x = some tr) : TrOk Γ ρ S tr (a.eval x) := by
  unfold trOf at ht
  split at ht
  · rename_i s hs
    cases ht
    exact h.symOf hs
  · cases hd : opD S x with
    | none => rw [hd] at ht; cases ht
    | some d =>
      rw [hd] at ht
      cases ht
      exact ⟨h.opD hd, trivial, rfl⟩

theorem US.vv {s : Sem Value} {d : D} (h : US V.P (fun Γ v => one Γ d v) Γ s) : US V.P (fun Γ nx => Nx Γ ρ S (.val d .no) nx) Γ (do pure (Next.value (← s))) :=
  US.bind' h fun Γ' v hle hv => ⟨val_of_one hv, trivial, rfl⟩

theorem parts_ok (h : AOk Γ ρ S a) : ∀ {ps : List (Nat × Operand)} {qs : List (Nat × D)}, partsD S ps = some qs → Parts Γ (ps.map fun (i, x) => (i, a.eval x)) qs
  | [], qs, hq => by simp only [partsD, Option.some.injEq] at hq; subst hq; exact trivial
  | (i, x) :: ps, qs, hq => by
    simp only [partsD] at hq
    split at hq
    · rename_i d r hd hr
      cases hq
      exact ⟨rfl, h.opD1 hd, parts_ok h hr⟩
    · cases hq

theorem args_ok (h : AOk Γ ρ S a) : ∀ {xs : List Operand} {ps : D}, argsD S xs = some ps → Args Γ ps (xs.map a.eval).toArray
  | [], ps, hq => by simp only [argsD, Option.some.injEq] at hq; subst hq; exact ⟨rfl, fun j d hd => by simp [D.at] at hd⟩
  | x :: xs, ps, hq => by
    simp only [argsD] at hq
    split at hq
    · rename_i d r hd hr
      cases hq
      obtain ⟨g1, g2⟩ := args_ok h hr
      refine ⟨by simp only [D.len, ← g1]; simp, fun j d' hd' => ?_⟩
      cases j with
      | zero => simp only [D.at, Option.some.injEq] at hd'; subst hd'; exact ⟨_, by simp, h.opD1 hd⟩
      | succ j =>
        obtain ⟨y, q1, q2⟩ := g2 j d' hd'
        exact ⟨y, by simpa using q1, q2⟩
    · cases hq

theorem rf_of (h : AOk Γ ρ S a) {x : Operand} {r : Rf} (hr : rfOf S x = some r) {k : IntKind} {n : Int} (hx : a.eval x = .int k n) : rfI ρ r = some n ∧ r.below S.sy.length = true := by
  have main : ∀ x : Operand, (symOf S x).map Rf.sym = some r → a.eval x = .int k n → rfI ρ r = some n ∧ r.below S.sy.length = true := by
    intro x hr hx
    cases hs : symOf S x with
    | none => rw [hs] at hr; cases hr
    | some s =>
      rw [hs] at hr
      cases hr
      obtain ⟨h1, h2⟩ := h.symOf hs
      rw [hx] at h2
      exact ⟨by simp [rfI, ← h2], by simpa [Rf.below] using h1⟩
  unfold rfOf at hr
  split at hr
  · cases hr
    rename_i k' n'
    simp only [Act.eval] at hx
    cases hx
    exact ⟨rfl, rfl⟩
  · exact main x hr hx

theorem bl_len (s : ByteArray) : s.toList.length = s.size := by
  rw [ByteArray.toList_eq]
  cases s
  rfl

theorem df_ok (h : AOk Γ ρ S a) {op : BinOp} {t : TypeId} {x y : Operand} {dx dy : D} (hx : opD1 S x = some dx) (hy : opD1 S y = some dy) :
    dfOf S op x y dx dy = .no ∨ ∃ v, Go.binOp op t (a.eval x) (a.eval y) = pure v ∧ DfOk ρ (dfOf S op x y dx dy) v ∧ (dfOf S op x y dx dy).below S.sy.length = true := by
  have ox := h.opD1 hx
  have oy := h.opD1 hy
  cases dx using D.cs <;> first | exact .inl rfl | skip
  rotate_left
  · cases dy using D.cs <;> first | exact .inl rfl | skip
    obtain ⟨sx, ex, _⟩ := ox
    obtain ⟨sy, ey, _⟩ := oy
    simp only [dfOf]
    split
    · rename_i _ s e hs
      split
      · rename_i he
        obtain ⟨s1, s2⟩ := h.symOf hs
        rw [ex] at s2
        have ey' : e = sy := by
          have : a.eval (.const (.string e)) = .string e := rfl
          rw [this] at ey
          injection ey
        subst ey'
        refine .inr ⟨.bool (decide (0 < sx.size)), ?_, ⟨sx.size, by rw [← s2]; rfl, rfl⟩, by simpa [Df.below] using s1⟩
        rw [ex]
        show Go.binOp .neq t (.string sx) (.string e) = _
        simp only [Go.binOp, Op.stringOp]
        congr 2
        have hel : e.toList = [] := by
          rw [← List.length_eq_zero_iff, bl_len]
          exact he
        rw [hel]
        by_cases h0 : sx.size = 0
        · have : sx.toList = [] := by
            rw [← List.length_eq_zero_iff, bl_len]
            exact h0
          rw [this, h0]
          rfl
        · have : sx.toList ≠ [] := by
            intro e0
            rw [← List.length_eq_zero_iff, bl_len] at e0
            exact h0 e0
          have h1 : (sx.toList == []) = false := by simpa using this
          rw [h1]
          simp
          omega
      · exact .inl rfl
    · exact .inl rfl
  cases dy using D.cs <;> first | exact .inl rfl | skip
  rename_i k p q k' c d
  obtain ⟨n, ex, n1, n2⟩ := ox
  obtain ⟨m, ey, m1, m2⟩ := oy
  simp only [dfOf]
  split
  · rename_i hk
    subst hk
    split
    · rename_i hc
      split
      · rename_i r1 r2 h1 h2
        obtain ⟨f1, f2⟩ := rf_of h h1 ex
        obtain ⟨g1, g2⟩ := rf_of h h2 ey
        refine .inr ⟨.bool (cmpI op n m), ?_, ⟨n, m, f1, g1, rfl⟩, by simp [Df.below, f2, g2]⟩
        rw [ex, ey]
        cases op <;> first | (exfalso; simp [isCmp] at hc; done) | (simp only [Go.binOp, ne_eq, not_true, if_false]; rfl)
      · exact .inl rfl
    · split
      · rename_i hcd
        have hm : m = c := by omega
        subst hm
        split
        · rename_i s hs hcc
          obtain ⟨s1, s2⟩ := h.symOf hs
          rw [ex] at s2
          split
          · rename_i hr
            refine .inr ⟨.int k (n + m), ?_, ⟨k, n, s2.symm, rfl⟩, by simpa [Df.below] using s1⟩
            rw [ex, ey]
            simp only [Go.binOp, ne_eq, not_true, if_false]
            show Sem.pure (Value.int k (k.wrap (n + m))) = _
            rw [wrap_in (by omega) (by omega)]
            rfl
          · exact .inl rfl
        · rename_i s hs hcc
          obtain ⟨s1, s2⟩ := h.symOf hs
          rw [ex] at s2
          split
          · rename_i hr
            refine .inr ⟨.int k (n + -m), ?_, ⟨k, n, s2.symm, rfl⟩, by simpa [Df.below] using s1⟩
            rw [ex, ey]
            simp only [Go.binOp, ne_eq, not_true, if_false]
            show Sem.pure (Value.int k (k.wrap (n - m))) = _
            rw [wrap_in (by omega) (by omega)]
            rfl
          · exact .inl rfl
        · exact .inl rfl
      · split
        · rename_i p' q' hp hq hcc
          split
          · rename_i hr
            obtain ⟨f1, f2⟩ := rf_of h hp ex
            obtain ⟨g1, g2⟩ := rf_of h hq ey
            refine .inr ⟨.int k (n - m), ?_, ⟨k, n, m, f1, g1, rfl⟩, by simp [Df.below, f2, g2]⟩
            rw [ex, ey]
            simp only [Go.binOp, ne_eq, not_true, if_false]
            show Sem.pure (Value.int k (k.wrap (n - m))) = _
            rw [wrap_in (by omega) (by omega)]
            rfl
          · exact .inl rfl
        · exact .inl rfl
  · exact .inl rfl

theorem has_ok (h : AOk Γ ρ S a) {i x : Operand} (hh : hasF S i x = true) {k : IntKind} {n : Int} (hi : a.eval i = .int k n) : ∃ m : Nat, lenV (a.eval x) = some m ∧ n < m := by
  have lw : LawfulBEq Rf := sumLawful
  unfold hasF at hh
  split at hh
  · rename_i r s hr hs
    obtain ⟨f1, f2⟩ := rf_of h hr hi
    obtain ⟨s1, s2⟩ := h.symOf hs
    obtain ⟨_, _, n', m, e1, e2, e3⟩ := h.facts r s (by simpa using hh)
    rw [f1] at e1
    cases e1
    exact ⟨m, by rw [s2]; exact e2, e3⟩
  · cases hh

theorem US.idxA {P : Program} (h : AOk Γ ρ S a) {t : TypeId} {x i : Operand} {d d' r : D} (hx : one Γ d (a.eval x)) (hi : one Γ d' (a.eval i)) (hr : aIdxA P S t x i d d' = some r) : US P (fun Γ v => one Γ r v) Γ (Instr.indexAt t (a.eval x) (a.eval i)) := by
  unfold aIdxA at hr
  split at hr
  · rename_i sz c m k lo hi'
    split at hr
    · rename_i e hu
      split at hr
      · rename_i info hinfo
        split at hr
        · rename_i hh
          cases hr
          obtain ⟨n, e1, n1, n2⟩ := hi
          obtain ⟨q, e2, e3⟩ := has_ok h hh.2.2 e1
          have hx' := hx
          obtain ⟨ad, len, cap, e4, _⟩ := hx
          rw [e4] at e2 hx' ⊢
          rw [e1]
          cases e2
          exact US.indexSlc hu hinfo hh.2.1 hx' (by omega) e3
        · cases hr
      · cases hr
    · cases hr
  · exact US.indexAt hx hi hr

theorem US.idx {P : Program} (h : AOk Γ ρ S a) {t : TypeId} {x i : Operand} {d d' r : D} (hx : one Γ d (a.eval x)) (hi : one Γ d' (a.eval i)) (hr : aIdx P S t x i d d' = some r) : US P (fun Γ v => one Γ r v) Γ (Instr.index t (a.eval x) (a.eval i)) := by
  unfold aIdx at hr
  split at hr
  · rename_i m k lo hi'
    split at hr
    · rename_i hu
      split at hr
      · rename_i h0
        obtain ⟨n, e1, n1, n2⟩ := hi
        rw [e1]
        split at hr
        · rename_i s
          split at hr
          · rename_i hb
            cases hr
            exact US.indexStr hu (by omega) (by omega)
          · cases hr
        · split at hr
          · rename_i hh
            cases hr
            obtain ⟨q, e2, e3⟩ := has_ok h hh e1
            obtain ⟨s, e4, _⟩ := hx
            rw [e4] at e2 ⊢
            cases e2
            exact US.indexStr hu (by omega) e3
          · cases hr
      · cases hr
    · cases hr
  · exact US.index hx hi hr

theorem US.mak {P : Program} (h : AOk Γ ρ S a) {t : TypeId} {x y : Operand} {d d' r : D} (hx : one Γ d (a.eval x)) (hy : one Γ d' (a.eval y)) (hr : aMake P t (symOf S x) (symOf S y) d d' = some r) : US P (fun Γ v => one Γ r v) Γ (Instr.makeSlice t (a.eval x) (a.eval y)) := by
  unfold aMake at hr
  split at hr
  · rename_i k1 a' b' k2 c' d'
    split at hr
    · rename_i e hu
      split at hr
      · rename_i info k hi hz
        split at hr
        · rename_i hh
          cases hr
          obtain ⟨n, e1, n1, n2⟩ := hx
          obtain ⟨m, e2, m1, m2⟩ := hy
          have hle : n ≤ m := by
            rcases hh.2.2.2.1 with h1 | ⟨h1, h2⟩
            · omega
            · cases hs : symOf S x with
              | none => rw [hs] at h1; cases h1
              | some s =>
                obtain ⟨_, f1⟩ := h.symOf hs
                obtain ⟨_, f2⟩ := h.symOf (x := y) (s := s) (by rw [← h2]; exact hs)
                rw [e1] at f1
                rw [e2, ← f1] at f2
                injection f2 with _ f3
                omega
          rw [e1, e2]
          exact US.makeSlice hu hi hz hh.1 (by omega) hle (by omega) hh.2.2.2.2.1 (by omega)
        · cases hr
      · cases hr
    · cases hr
  · cases hr

theorem US.convS {P : Program} {src dst : TypeId} {x : Value} {d r : D} (hx : one Γ d x) (hr : aConvS P src dst d = some r) : US P (fun Γ v => one Γ r v) Γ (Go.convert src dst x) := by
  unfold aConvS at hr
  split at hr
  · split at hr
    · rename_i e h1 h2
      split at hr
      · rename_i h3
        cases hr
        exact US.convBytes hx h1 h2 h3
      · cases hr
    · cases hr
  · exact US.convert hx hr

theorem least_ok (h : AOk Γ ρ S a) {x y : Operand} {c : Int} (hl : leastOf S x y = some c) {k k' : IntKind} {n m : Int} (hx : a.eval x = .int k n) (hy : a.eval y = .int k' m) : c ≤ n - m := by
  have lw : LawfulBEq Rf := sumLawful
  unfold leastOf at hl
  split at hl
  · rename_i rx ry hrx hry
    obtain ⟨f1, f2⟩ := rf_of h hrx hx
    obtain ⟨g1, g2⟩ := rf_of h hry hy
    split at hl
    · rename_i p1 p2 c' hf
      cases hl
      have hmem := List.mem_of_find?_eq_some hf
      have hp := List.find?_some hf
      simp only [Bool.and_eq_true, beq_iff_eq] at hp
      obtain ⟨e1, e2⟩ := hp
      subst e1 e2
      obtain ⟨_, _, n', m', q1, q2, q3⟩ := h.ords _ _ _ hmem
      rw [g1] at q1
      rw [f1] at q2
      cases q1; cases q2
      omega
    · split at hl
      · rename_i s _
        split at hl
        · rename_i d p q hs
          obtain ⟨_, ⟨kk, n', m', q1, q2, q3⟩, _⟩ := h.sym s _ _ hs
          simp only [rfI, q3, Option.some.injEq] at f1
          cases hb1 : (p == ry) with
          | true =>
            rw [hb1] at hl
            cases hl
            have e : p = ry := by simpa using hb1
            subst e
            rw [g1] at q1
            cases q1
            omega
          | false =>
            rw [hb1] at hl
            cases hb2 : (q == ry) with
            | true =>
              rw [hb2] at hl
              cases hl
              have e : q = ry := by simpa using hb2
              subst e
              rw [g1] at q2
              cases q2
              omega
            | false =>
              rw [hb2] at hl
              simp only [cond_false] at hl
              split at hl
              · rename_i b k' hp
                cases hb3 : (Rf.sym b == ry) with
                | false => rw [hb3] at hl; cases hl
                | true =>
                  rw [hb3] at hl
                  cases hl
                  have e : Rf.sym b = ry := by simpa using hb3
                  subst e
                  obtain ⟨_, z, z1, z2⟩ := plusOf_ok h hp q1
                  rw [g1] at z1
                  cases z1
                  omega
              · cases hl
        · cases hl
      · cases hl
  · cases hl

theorem tight_ok (h : AOk Γ ρ S a) {op : BinOp} {t : TypeId} {x y : Operand} {dx dy r : D} {v : Value} (hx : one Γ dx (a.eval x)) (hy : one Γ dy (a.eval y)) {Γ' : Gam} (hv : one Γ' r v)
    (hrun : ∀ k n m, op = .sub → a.eval x = .int k n → a.eval y = .int k m → v = .int k (k.wrap (n - m))) : one Γ' (tight S op x y dx dy r) v := by
  unfold tight
  split
  · rename_i k lo hi k' c d
    split
    · rename_i hh
      obtain ⟨rfl, h1, h2⟩ := hh
      obtain ⟨n, ex, n1, n2⟩ := hx
      obtain ⟨m, ey, m1, m2⟩ := hy
      have e := hrun _ n m rfl ex ey
      rw [e, wrap_in (by omega) (by omega)]
      refine ⟨n - m, rfl, ?_, ?_⟩
      · split
        · rename_i m' hm
          have hle := least_ok h hm ex ey
          omega
        · omega
      · split
        · rename_i m' hm
          have hle := least_ok h hm ey ex
          omega
        · omega
    · exact hv
  · exact hv

theorem hasB_ok (h : AOk Γ ρ S a) {i x : Operand} {d : D} {s : ByteArray} (hd : one Γ d (a.eval i)) (hx : a.eval x = .string s) (hh : hasB S i x d = true) : ∃ k n, a.eval i = .int k n ∧ 0 ≤ n ∧ n ≤ s.size := by
  have lw : LawfulBEq Rf := sumLawful
  unfold hasB at hh
  split at hh
  · rename_i k lo hi
    obtain ⟨n, e, n1, n2⟩ := hd
    simp only [Bool.and_eq_true, decide_eq_true_eq, Bool.or_eq_true] at hh
    refine ⟨k, n, e, by omega, ?_⟩
    rcases hh.2 with hl | hl
    · unfold hasL at hl
      split at hl
      · rename_i r t hr ht
        obtain ⟨f1, f2⟩ := rf_of h hr e
        obtain ⟨s1, s2⟩ := h.symOf ht
        rw [hx] at s2
        simp only [Bool.or_eq_true] at hl
        rcases hl with hl | hl
        · obtain ⟨_, _, n', m, e1, e2, e3⟩ := h.facts r t (by simpa using hl)
          rw [f1] at e1
          rw [← s2] at e2
          cases e1; cases e2
          omega
        · split at hl
          · rename_i b k' hp
            simp only [Bool.and_eq_true, decide_eq_true_eq] at hl
            obtain ⟨_, z, z1, z2⟩ := plusOf_ok h hp f1
            obtain ⟨_, _, n', m, e1, e2, e3⟩ := h.facts (.sym b) t (by simpa using hl.2)
            rw [z1] at e1
            rw [← s2] at e2
            cases e1; cases e2
            omega
          · cases hl
      · cases hl
    · split at hl
      · rename_i m hm
        unfold litLen at hm
        split at hm
        · cases hm
          simp only [Act.eval] at hx
          cases hx
          simp only [decide_eq_true_eq] at hl
          omega
        · cases hm
      · cases hl
  · cases hh

theorem US.slc {P : Program} (h : AOk Γ ρ S a) {t : TypeId} {x : Operand} {lo hi : Option Operand} {r : D} (hr : aSlice P S t x lo hi = some r) : US P (fun Γ v => one Γ r v) Γ (Instr.sliceAt t (a.eval x) (lo.map a.eval) (hi.map a.eval) none) := by
  unfold aSlice at hr
  split at hr
  · rename_i n hu hx
    obtain ⟨s, ex, hs⟩ := h.opD1 hx
    rw [ex]
    split at hr
    · rename_i hOp
      split at hr
      · rename_i d hd
        split at hr
        · rename_i hh
          cases hr
          obtain ⟨k, m, e, m1, m2⟩ := hasB_ok h (h.opD1 hd) ex hh
          show US P _ Γ (Instr.sliceAt t (.string s) none (some (a.eval hOp)) none)
          rw [e]
          exact US.sliceHi hu hs m1 m2
        · cases hr
      · cases hr
    · rename_i lOp
      split at hr
      · rename_i d hd
        split at hr
        · rename_i hh
          cases hr
          obtain ⟨k, m, e, m1, m2⟩ := hasB_ok h (h.opD1 hd) ex hh
          show US P _ Γ (Instr.sliceAt t (.string s) (some (a.eval lOp)) none none)
          rw [e]
          exact US.sliceLo hu hs m1 m2
        · cases hr
      · cases hr
    · rename_i lOp hOp
      split at hr
      · rename_i k1 a1 b1 k2 c1 d1 hl hh'
        split at hr
        · rename_i hh
          cases hr
          obtain ⟨k, m, e, m1, m2⟩ := hasB_ok h (h.opD1 hh') ex hh.2.1
          obtain ⟨z, ez, z1, z2⟩ := h.opD1 hl
          obtain ⟨y, ey, y1, y2⟩ := h.opD1 hh'
          have hzy : z ≤ y := by
            rcases hh.2.2 with q | q
            · omega
            · cases hc : leastOf S hOp lOp with
              | none => rw [hc] at q; cases q
              | some c =>
                rw [hc] at q
                simp only [nonneg, decide_eq_true_eq] at q
                have := least_ok h hc ey ez
                omega
          rw [ey] at e
          injection e with e1 e2
          subst e2
          show US P _ Γ (Instr.sliceAt t (.string s) (some (a.eval lOp)) (some (a.eval hOp)) none)
          rw [ez, ey]
          exact US.sliceLH hu hs (by omega) hzy m2
        · cases hr
      · cases hr
    · cases hr
  · cases hr

theorem mxDf_ok (h : AOk Γ ρ S a) {x y : Operand} {d d' : D} (hx : one Γ d (a.eval x)) (hy : one Γ d' (a.eval y)) : mxDf S x y d d' = .no ∨ ∃ v, Builtin.max2 (a.eval x) (a.eval y) = pure v ∧ DfOk ρ (mxDf S x y d d') v ∧ (mxDf S x y d d').below S.sy.length = true := by
  unfold mxDf
  split
  · rename_i k0 _ _ k1 _ _
    split
    · rename_i hk
      subst hk
      split
      · rename_i p q hp hq
        obtain ⟨n, ex, _⟩ := hx
        obtain ⟨m, ey, _⟩ := hy
        obtain ⟨f1, f2⟩ := rf_of h hp ex
        obtain ⟨g1, g2⟩ := rf_of h hq ey
        have hmx : (if m > n then m else n) = max n m := by split <;> omega
        refine .inr ⟨.int k0 (max n m), ?_, ⟨k0, n, m, f1, g1, rfl⟩, by simp [Df.below, f2, g2]⟩
        rw [ex, ey, ← hmx]
        rfl
      · exact .inl rfl
    · exact .inl rfl
  · exact .inl rfl

theorem flat_ok (h : AOk Γ ρ S a) {f : Df} {v : Value} (hf : DfOk ρ f v) (hb : f.below S.sy.length = true) : DfOk ρ (flat S f) v ∧ (flat S f).below S.sy.length = true := by
  cases f using Df.cs with
  | plus s c =>
    simp only [flat]
    split
    · rename_i d s' c' hs
      obtain ⟨_, ⟨k, n, h1, h2⟩, h3⟩ := h.sym s _ _ hs
      obtain ⟨k', n', h4, h5⟩ := hf
      rw [h2] at h4
      cases h4
      simp only [Df.below, decide_eq_true_eq] at h3 hb ⊢
      exact ⟨⟨k, n, h1, by rw [h5, Int.add_assoc]⟩, by omega⟩
    · exact ⟨hf, hb⟩
  | no => exact ⟨hf, hb⟩
  | len s => exact ⟨hf, hb⟩
  | nes s => exact ⟨hf, hb⟩
  | mx x y => exact ⟨hf, hb⟩
  | diff x y => exact ⟨hf, hb⟩
  | cmp op x y => exact ⟨hf, hb⟩
end
end Go.Sf
