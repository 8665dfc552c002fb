/-
  Two runs of one text: the parts of which the operations are made.
-/
import Derived.Test.YgcoaaGreatTwB
set_option linter.unusedVariables false
set_option linter.unusedSimpArgs false
namespace Go.Tw

theorem bind_pure' {γ : Type} (u : Sem γ) : u.bind Sem.pure = u := by
  induction u <;> simp only [Sem.bind] <;> congr 1 <;> (try (funext x)) <;> rename_i ih <;> first | exact ih x | exact ih

theorem bind_bind {α γ δ : Type} (u : Sem α) (f : α → Sem γ) (g : γ → Sem δ) : (u.bind f).bind g = u.bind fun x => (f x).bind g := by
  induction u <;> simp only [Sem.bind] <;> congr 1 <;> (try (funext x)) <;> rename_i ih <;> first | exact ih x | exact ih

section
variable {st : Bool} {P : Program} {β : Rel} {α γ : Type} {R : Rel → γ → γ → Prop}

theorem SR.bind' {S : Rel → α → α → Prop} {s t : Sem α} {f g : α → Sem γ} (h : SR st P S β s t)
    (hf : ∀ (β' : Rel) a b, Le β β' → S β' a b → SR st P R β' (f a) (g b)) : SR st P R β (s >>= f) (t >>= g) := SR.bind h hf

theorem SR.ret {a b : γ} (h : R β a b) : SR st P R β (pure a) (pure b) := h
theorem SR.mono {S : Rel → γ → γ → Prop} {s t : Sem γ} (h : SR st P S β s t) (hf : ∀ (β' : Rel) a b, Le β β' → S β' a b → R β' a b) : SR st P R β s t := by
  have := SR.bind (f := Sem.pure) (g := Sem.pure) h (S := R) (fun β' a b hl hs => hf β' a b hl hs)
  rwa [bind_pure', bind_pure'] at this

theorem SR.stop {u : String} {t : Sem γ} : SR st P R β (stuck u) t := by cases t <;> rfl
theorem SR.stopB {u : String} {f g : α → Sem γ} {t : Sem γ} : SR st P R β (stuck u >>= f) t := by cases t <;> rfl
theorem SR.unsup {u : Unsupported} {t : Sem γ} (h : okHalt (.unsupported u) = true) : SR st P R β (unsupported u) t := by cases t <;> exact h
theorem SR.panic {e : RuntimeError} {t : Sem γ} : SR st P R β (runtimePanic e) t ↔ SR st P R β (runtimePanic e) t := Iff.rfl

theorem SR.under {t : TypeId} {f g : TypeDesc → Sem γ} (h : ∀ d, P.underlying t = some d → SR st P R β (f d) (g d)) : SR st P R β (underlying t >>= f) (underlying t >>= g) := by
  show SR st P R β (Sem.bind (match P.underlying t with | some d => pure d | none => stuck "no such type") f) (Sem.bind (match P.underlying t with | some d => pure d | none => stuck "no such type") g)
  cases hu : P.underlying t with
  | none => exact rfl
  | some d => exact h d hu

theorem SR.info {t : TypeId} {f g : TypeInfo → Sem γ} (h : ∀ d, P.info? t = some d → SR st P R β (f d) (g d)) : SR st P R β (typeInfo t >>= f) (typeInfo t >>= g) := by
  show SR st P R β (Sem.bind (match P.info? t with | some d => pure d | none => stuck "no such type") f) (Sem.bind (match P.info? t with | some d => pure d | none => stuck "no such type") g)
  cases hu : P.info? t with
  | none => exact rfl
  | some d => exact h d hu

theorem SR.size {t : TypeId} {f g : Nat → Sem γ} (h : ∀ d, SR st P R β (f d) (g d)) : SR st P R β (sizeOf t >>= f) (sizeOf t >>= g) := by
  have e : ∀ f : Nat → Sem γ, (sizeOf t >>= f) = (typeInfo t >>= fun i => f i.size) := fun f => bind_bind _ _ _
  rw [e, e]
  exact SR.info fun d _ => h d.size

/-- A type's zero. -/
def zero? (P : Program) (t : TypeId) : Option Value := (P.info? t).bind (·.zero)

theorem SR.zero {t : TypeId} {f g : Value → Sem γ} (h : ∀ z, zero? P t = some z → SR st P R β (f z) (g z)) : SR st P R β (zeroValue t >>= f) (zeroValue t >>= g) := by
  obtain ⟨u, e, hu⟩ : ∃ u, (∀ f : Value → Sem γ, (zeroValue t >>= f) = (typeInfo t >>= fun i => (match i.zero with | some v => pure v | none => unsupported u) >>= f)) ∧ okHalt (.unsupported u) = true :=
    ⟨_, fun f => bind_bind _ _ _, rfl⟩
  rw [e, e]
  refine SR.info fun d hd => ?_
  cases hz : d.zero with
  | none => exact hu
  | some z => exact h z (by rw [zero?, hd]; exact hz)

theorem SR.agg {t : TypeId} {f g : Bool → Sem γ} (h : ∀ b, SR st P R β (f b) (g b)) : SR st P R β (isAgg t >>= f) (isAgg t >>= g) := by
  have e : ∀ f : Bool → Sem γ, (isAgg t >>= f) = (underlying t >>= fun d => (match d with | .struct _ | .array _ _ => pure true | _ => pure false) >>= f) := by
    intro f
    exact bind_bind _ _ _
  rw [e, e]
  refine SR.under fun d _ => ?_
  cases d <;> exact h _
end

theorem adr.add {β : Rel} {a a' : Addr} (h : adr β a a') (n : Nat) : adr β (a.add n) (a'.add n) := by
  unfold Addr.add
  split
  · exact h
  · exact ⟨h.1, by simp [h.2.1], rfl, h.2.2.2⟩

theorem arr.push {R : Value → Value → Prop} {xs ys : Array Value} (h : arr R xs ys) {x y : Value} (hxy : R x y) : arr R (xs.push x) (ys.push y) := by
  refine ⟨by simp [h.1], fun i a b ha hb => ?_⟩
  rw [Array.getElem?_push] at ha hb
  rw [h.1] at ha
  split at ha
  · rename_i e
    rw [if_pos e] at hb
    cases ha; cases hb; exact hxy
  · rename_i e
    rw [if_neg e] at hb
    exact h.2 i a b ha hb

theorem arr.nil {R : Value → Value → Prop} : arr R #[] #[] := ⟨rfl, fun i a b ha _ => absurd ha (by simp)⟩

section
variable {st : Bool} {P : Program}

theorem SR.loadFrom {a a' : Addr} (i n : Nat) {β : Rel} (h : adr β a a') {xs ys : Array Value} (hx : arr (cel β) xs ys) :
    SR st P (fun β => arr (cel β)) β (loadCellsFrom a i n xs) (loadCellsFrom a' i n ys) := by
  induction n generalizing i xs ys with
  | zero => exact hx
  | succ n ih =>
    refine ⟨rfl, h.add i, fun v v' hv => ?_⟩
    exact ih (i + 1) (hx.push hv)

theorem SR.loadCells {a a' : Addr} (n : Nat) {β : Rel} (h : adr β a a') : SR st P (fun β => arr (cel β)) β (Go.loadCells a n) (Go.loadCells a' n) := SR.loadFrom 0 n h arr.nil

/-- Two lists of cells, alike. -/
def cels (β : Rel) : List Value → List Value → Prop
  | [], [] => True
  | x :: xs, y :: ys => cel β x y ∧ cels β xs ys
  | _, _ => False

theorem cels_of {β : Rel} : ∀ {xs ys : List Value}, arr (cel β) xs.toArray ys.toArray → cels β xs ys
  | [], [], _ => trivial
  | [], y :: ys, h => absurd h.1 (by simp)
  | x :: xs, [], h => absurd h.1 (by simp)
  | x :: xs, y :: ys, h => ⟨h.2 0 x y (by simp) (by simp), cels_of ⟨by have := h.1; simpa using this, fun i a b ha hb => h.2 (i + 1) a b (by simpa using ha) (by simpa using hb)⟩⟩

theorem arr_of {β : Rel} : ∀ {xs ys : List Value}, cels β xs ys → arr (cel β) xs.toArray ys.toArray
  | [], [], _ => arr.nil
  | [], y :: ys, h => h.elim
  | x :: xs, [], h => h.elim
  | x :: xs, y :: ys, h => by
    have ih := arr_of h.2
    refine ⟨by have := ih.1; simpa using this, fun i a b ha hb => ?_⟩
    cases i with
    | zero => simp at ha hb; subst ha hb; exact h.1
    | succ i => exact ih.2 i a b (by simpa using ha) (by simpa using hb)

theorem SR.storeCells {a a' : Addr} {β : Rel} (h : adr β a a') : ∀ {xs ys : List Value} (i : Nat), cels β xs ys → SR true P (fun _ _ _ => True) β (Go.storeCells a xs i) (Go.storeCells a' ys i)
  | [], [], i, _ => trivial
  | [], y :: ys, i, hx => hx.elim
  | x :: xs, [], i, hx => hx.elim
  | x :: xs, y :: ys, i, hx => by
    have h1 := hx.1
    have h2 := SR.storeCells h (i + 1) hx.2
    cases x <;> first
      | exact trivial
      | (exfalso; cases y <;> simp [cel] at h1; done)
      | exact ⟨rfl, h.add i, h1, h2⟩

theorem one.cells {β : Rel} {v v' : Value} (h : one β v v') : arr (cel β) v.cells v'.cells := by
  cases v <;> cases v' <;> simp only [one] at h <;> first
    | exact h
    | (exfalso; simp [cel] at h; done)
    | exact arr_of (xs := [_]) (ys := [_]) ⟨h, trivial⟩

theorem cel.one {β : Rel} {v v' : Value} (h : cel β v v') : Tw.one β v v' := by
  cases v <;> cases v' <;> first | exact h | (exfalso; simp [cel] at h; done)

theorem one.val {β : Rel} {v v' : Value} (h : Tw.one β v v') : Tw.val β v v' := by
  cases v <;> cases v' <;> first
    | exact h
    | (exfalso; simp [Tw.one, cel] at h; done)
    | (obtain ⟨rfl, rfl⟩ := h; exact arr.nil)

theorem SR.loadVar {t : TypeId} {a a' : Addr} {β : Rel} (h : adr β a a') : SR st P one β (Go.loadVar t a) (Go.loadVar t a') := by
  refine SR.agg fun b => ?_
  cases b with
  | true =>
    refine SR.size fun n => ?_
    refine SR.bind' (SR.loadCells n h) fun β' xs ys hl hx => ?_
    exact hx
  | false => exact ⟨rfl, h, fun v v' hv => cel.one hv⟩

theorem SR.storeVar {t : TypeId} {a a' : Addr} {v v' : Value} {β : Rel} (h : adr β a a') (hv : one β v v') : SR true P (fun _ _ _ => True) β (Go.storeVar t a v) (Go.storeVar t a' v') := by
  refine SR.size fun n => ?_
  have hc := hv.cells
  by_cases e : v.cells.size = n
  · have e' : v'.cells.size = n := by rw [← hc.1]; exact e
    simp only [e, e', ne_eq, not_true, if_false]
    exact SR.storeCells h 0 (cels_of (by simpa using hc))
  · simp only [ne_eq, e, not_false_eq_true, if_true]
    exact SR.stopB (g := fun (_ : PUnit) => (pure () : Sem Unit)) (f := _)

theorem SR.newRow {e : TypeId} {xs ys : Array Value} {β : Rel} (h : arr (cel β) xs ys) : SR st P (fun β a b => adr β a b) β (Go.newRow e xs) (Go.newRow e ys) :=
  ⟨⟨h, rfl, rfl⟩, fun β' r r' hl hr hp => ⟨hr, rfl, rfl, hp⟩⟩

theorem SR.newVar {e : TypeId} {v v' : Value} {β : Rel} (h : one β v v') : SR st P (fun β a b => adr β a b) β (Go.newVar e v) (Go.newVar e v') := SR.newRow h.cells

theorem arr.extract {R : Value → Value → Prop} {xs ys : Array Value} (h : arr R xs ys) (i j : Nat) : arr R (xs.extract i j) (ys.extract i j) := by
  refine ⟨by simp [h.1], fun k a b ha hb => ?_⟩
  rw [Array.getElem?_extract] at ha hb
  rw [h.1] at ha
  split at ha
  · rename_i e
    rw [if_pos e] at hb
    exact h.2 _ a b ha hb
  · exact absurd ha (by simp)

theorem SR.part {t : TypeId} {xs ys : Array Value} {off : Nat} {β : Rel} (h : arr (cel β) xs ys) : SR st P one β (Go.part t xs off) (Go.part t ys off) := by
  refine SR.agg fun b => ?_
  cases b with
  | true =>
    refine SR.size fun n => ?_
    exact h.extract _ _
  | false =>
    cases hx : xs[off]? with
    | none => simp only [hx]; exact SR.stop
    | some v =>
      obtain ⟨v', hv', hvv⟩ := h.get hx
      simp only [hx, hv']
      exact cel.one hvv
end
end Go.Tw
