/-
  Two runs of one text: the operations.
-/
import Derived.Test.YgcoaaGreatTwC
set_option linter.unusedVariables false
set_option linter.unusedSimpArgs false
namespace Go.Tw

/-- What an operation comes to. -/
def nxt (β : Rel) : Next → Next → Prop
  | .value v, .value v' => one β v v'
  | .skip, .skip => True
  | .enter f xs, .enter g ys => f = g ∧ arr (one β) xs ys
  | _, _ => False

def simpleErr : RuntimeError → Bool
  | .typeAssertion .. | .panicNil => false
  | _ => true

/-- A value that is alike to itself, whatever the memories. -/
def shut1 : Value → Bool
  | .bool _ | .int _ _ | .string _ | .pointer none | .slice none _ _ => true
  | .func _ a b => a.isEmpty && b.isEmpty
  | .tuple a => a.isEmpty
  | _ => false
def shut : Value → Bool
  | .agg cs => cs.toList.all shut1
  | v => shut1 v

section
variable {st : Bool} {P : Program} {β : Rel}

theorem cel_shut {v : Value} (h : shut1 v = true) : cel β v v := by
  cases v <;> first
    | rfl
    | exact ⟨rfl, rfl⟩
    | (exfalso; simp [shut1] at h; done)
    | skip
  · rename_i a; cases a <;> first | exact trivial | (exfalso; simp [shut1] at h; done)
  · rename_i a _ _; cases a <;> first | exact ⟨trivial, rfl, rfl⟩ | (exfalso; simp [shut1] at h; done)
  · simp only [shut1, Bool.and_eq_true, Array.isEmpty_iff] at h
    obtain ⟨rfl, rfl⟩ := h
    exact ⟨rfl, rfl, rfl, rfl, rfl⟩
  · simp only [shut1, Array.isEmpty_iff] at h
    subst h
    exact ⟨rfl, rfl⟩

theorem one_shut {v : Value} (h : shut v = true) : one β v v := by
  by_cases ha : ∃ cs, v = .agg cs
  · obtain ⟨cs, rfl⟩ := ha
    refine ⟨rfl, fun i x y hx hy => ?_⟩
    rw [hx] at hy; cases hy
    simp only [shut, List.all_eq_true] at h
    exact cel_shut (h x (Array.mem_toList_iff.2 (Array.mem_of_getElem? hx)))
  · cases v <;> first | exact absurd ⟨_, rfl⟩ ha | exact cel.one (cel_shut h)

theorem SR.dead {α : Type} {R : Rel → α → α → Prop} {s t : Sem α} {e : Halt} (h : s = .halt e) (he : okHalt e = true) : SR st P R β s t := by
  subst h; cases t <;> exact he
theorem SR.ite {α : Type} {R : Rel → α → α → Prop} {c : Prop} [Decidable c] {s s' t t' : Sem α} (h1 : c → SR st P R β s t) (h2 : ¬ c → SR st P R β s' t') : SR st P R β (if c then s else s') (if c then t else t') := by
  split
  · exact h1 ‹_›
  · exact h2 ‹_›

theorem SR.v {s t : Sem Value} (h : SR st P one β s t) : SR st P nxt β (do pure (Next.value (← s))) (do pure (Next.value (← t))) := SR.bind' h fun _ _ _ _ hv => hv
theorem SR.u {s t : Sem Unit} (h : SR st P (fun _ _ _ => True) β s t) : SR st P nxt β (do s; pure Next.skip) (do t; pure Next.skip) := SR.bind' h fun _ _ _ _ hv => trivial

theorem SR.pan {α : Type} {R : Rel → α → α → Prop} (e e' : RuntimeError) (he : simpleErr e = true) (he' : simpleErr e' = true) : SR st P R β (runtimePanic e) (runtimePanic e') := by
  cases e <;> cases e' <;> first | exact rfl | exact absurd he (by simp [simpleErr]) | exact absurd he' (by simp [simpleErr])

theorem SR.bounds {α : Type} {R : Rel → α → α → Prop} (k : IntKind) (x y : Int) (c : BoundsCode) : SR st P R β (boundsPanic k x y c) (boundsPanic k x y c) := by
  unfold boundsPanic
  split
  · exact ⟨rfl, fun n n' => rfl⟩
  · exact SR.pan (.bounds _ _ _ _) (.bounds _ _ _ _) rfl rfl

theorem SR.sure {v v' : Value} (h : one β v v') {γ : Type} {R : Rel → γ → γ → Prop} {f g : Addr → Sem γ} (hf : ∀ a a', adr β a a' → SR st P R β (f a) (g a')) :
    SR st P R β (Instr.sureAddr v >>= f) (Instr.sureAddr v' >>= g) := by
  cases v <;> first | exact SR.stopB (g := g) | skip
  rename_i a
  cases a with
  | none => exact SR.stopB (g := g)
  | some a =>
    cases v' <;> first | (exfalso; simp [Tw.one, cel] at h; done) | skip
    rename_i a'
    cases a' with
    | none => exact absurd h (by simp [Tw.one, cel, oadr])
    | some a' => exact hf a a' h

theorem SR.int {v v' : Value} (h : one β v v') {γ : Type} {R : Rel → γ → γ → Prop} {f g : IntKind × Int → Sem γ} (hf : ∀ k n, v = .int k n → SR st P R β (f (k, n)) (g (k, n))) :
    SR st P R β (asIntOf v >>= f) (asIntOf v' >>= g) := by
  by_cases hi : ∃ k n, v = .int k n
  · obtain ⟨k, n, rfl⟩ := hi
    cases v' <;> first | (exfalso; simp [Tw.one, cel] at h; done) | skip
    obtain ⟨rfl, rfl⟩ := h
    exact hf _ _ rfl
  · have : ∃ hh, asIntOf v >>= f = Sem.halt hh ∧ okHalt hh = true := by
      cases v <;> first | exact absurd ⟨_, _, rfl⟩ hi | exact ⟨_, rfl, rfl⟩ | skip
      rename_i a
      cases a <;> exact ⟨_, rfl, rfl⟩
    obtain ⟨hh, e, ho⟩ := this
    exact SR.dead e ho

theorem SR.loadAt {t : TypeId} {v v' : Value} (h : one β v v') : SR st P one β (Instr.loadAt t v) (Instr.loadAt t v') := SR.sure h fun a a' ha => SR.loadVar ha

theorem SR.storeAt {t : TypeId} {v v' x x' : Value} (h : one β v v') (hx : one β x x') : SR true P (fun _ _ _ => True) β (Instr.storeAt t v x) (Instr.storeAt t v' x') :=
  SR.sure h fun a a' ha => SR.storeVar ha hx

theorem SR.alloc {t : TypeId} (hz : ∀ z, zero? P t = some z → shut z = true) : SR st P one β (Instr.alloc t true (.tuple #[])) (Instr.alloc t true (.tuple #[])) := by
  refine SR.zero fun z h => ?_
  refine SR.bind' (SR.newVar (one_shut (hz z h))) fun β' a b _ hab => ?_
  exact hab

theorem SR.box {t : TypeId} {v v' : Value} (h : one β v v') : SR st P one β (Instr.box t v) (Instr.box t v') :=
  SR.bind' (SR.newVar h) fun β' a b _ hab => hab

theorem SR.size' {t : TypeId} {γ : Type} {R : Rel → γ → γ → Prop} {f g : Nat → Sem γ} (h : ∀ d, P.info? t = some d → SR st P R β (f d.size) (g d.size)) : SR st P R β (sizeOf t >>= f) (sizeOf t >>= g) := by
  have e : ∀ f : Nat → Sem γ, (sizeOf t >>= f) = (typeInfo t >>= fun i => f i.size) := fun f => bind_bind _ _ _
  rw [e, e]
  exact SR.info fun d hd => h d hd

theorem SR.fieldAt {s : TypeId} {v v' : Value} {i : Nat} (h : one β v v') (hz : ∀ fs f d, P.underlying s = some (.struct fs) → fs[i]? = some f → P.info? f.type = some d → d.size ≠ 0) : SR st P one β (Instr.fieldAt s v i) (Instr.fieldAt s v' i) := by
  refine SR.under fun d hd => ?_
  cases d <;> first | exact SR.stop | skip
  rename_i fs
  dsimp only
  cases hf : fs[i]? with
  | none => exact SR.stop
  | some f =>
    refine SR.sure h fun a a' ha => ?_
    refine SR.bind' (S := fun β a b => adr β a b) ?_ (fun β' b b' _ hb => hb)
    refine SR.size' fun d hd' => ?_
    rw [if_neg (hz fs f d hd hf hd'), if_neg (hz fs f d hd hf hd')]
    exact ha.add _

theorem SR.ixRest {t : TypeId} {k : IntKind} {n : Int} {a a' : Option Addr} {len : Nat} {e : TypeId} {u : Unsupported} (h : oadr β a a') (hu : okHalt (.unsupported u) = true) :
    SR st P one β (do
      let tiny := len ≤ 1 && (match ← underlying t with | .array .. => true | _ => false)
      match a with
      | some a =>
        if 0 ≤ n ∧ n < len then pure (.pointer (some (a.add (n.toNat * (← sizeOf e)))))
        else if tiny then unsupported u
        else boundsPanic k n len .index
      | none => boundsPanic k n 0 .index) (do
      let tiny := len ≤ 1 && (match ← underlying t with | .array .. => true | _ => false)
      match a' with
      | some a =>
        if 0 ≤ n ∧ n < len then pure (.pointer (some (a.add (n.toNat * (← sizeOf e)))))
        else if tiny then unsupported u
        else boundsPanic k n len .index
      | none => boundsPanic k n 0 .index) := by
  refine SR.under fun d2 hd2 => ?_
  cases a with
  | none =>
    cases a' with
    | none => exact SR.bounds _ _ _ _
    | some a' => exact h.elim
  | some a =>
    cases a' with
    | none => exact h.elim
    | some a' =>
      refine SR.ite (fun _ => ?_) (fun _ => ?_)
      · refine SR.size fun m => ?_
        exact adr.add h _
      · refine SR.ite (fun _ => ?_) (fun _ => ?_)
        · exact SR.unsup hu
        · exact SR.bounds _ _ _ _

theorem SR.indexAt {t : TypeId} {x x' i i' : Value} (hx : one β x x') (hi : one β i i') : SR st P one β (Instr.indexAt t x i) (Instr.indexAt t x' i') := by
  refine SR.int hi fun k n _ => ?_
  refine SR.under fun d hd => ?_
  cases d <;> first | exact SR.dead rfl rfl | skip
  · cases x <;> first | exact SR.dead rfl rfl | skip
    cases x' <;> first | (exfalso; simp [Tw.one, cel] at hx; done) | skip
    obtain ⟨h1, h2, h3⟩ : oadr β _ _ ∧ _ = _ ∧ _ = _ := hx
    subst h2 h3
    exact SR.ixRest h1 rfl
  · refine SR.sure hx fun a a' ha => ?_
    exact SR.ixRest (a := some a) (a' := some a') ha rfl

theorem SR.bound {v v' : Value} (h : one β v v') (y : Nat) (c : BoundsCode) : SR st P (fun _ a b => a = b) β (Instr.sliceBound v y c) (Instr.sliceBound v' y c) := by
  refine SR.int h fun k n _ => ?_
  dsimp only
  split
  · exact rfl
  · exact SR.bounds _ _ _ _

/-- Values that may be there. -/
def oone (β : Rel) : Option Value → Option Value → Prop
  | none, none => True
  | some a, some b => one β a b
  | _, _ => False

theorem oone.mono {β' : Rel} (h : Le β β') {a b : Option Value} (x : oone β a b) : oone β' a b := by
  cases a <;> cases b <;> first | exact x | exact one.mono h x

theorem SR.sliceBounds {b : Bool} {len cap : Nat} {l l' h h' m m' : Option Value} (hl : oone β l l') (hh : oone β h h') (hm : oone β m m') :
    SR st P (fun _ a b => a = b) β (Instr.sliceBounds b len cap l h m) (Instr.sliceBounds b len cap l' h' m') := by
  have q0 : ∀ {β' : Rel} {f g : Nat → Sem (Nat × Nat × Nat)} {n : Nat}, SR st P (fun _ a b => a = b) β' (f n) (g n) → SR st P (fun _ a b => a = b) β' (pure n >>= f) (pure n >>= g) := fun h => h
  have q1 : ∀ {β' : Rel} {v v' : Value} {f g : Nat → Sem (Nat × Nat × Nat)} {y : Nat} {c : BoundsCode}, Le β β' → one β v v' → (∀ β'' n, Le β β'' → SR st P (fun _ a b => a = b) β'' (f n) (g n)) → SR st P (fun _ a b => a = b) β' (Instr.sliceBound v y c >>= f) (Instr.sliceBound v' y c >>= g) := by
    intro β' v v' f g y c hle hv hf
    refine SR.bind' (SR.bound (one.mono hle hv) y c) ?_
    rintro β'' n _ hl rfl
    exact hf β'' n (Le.trans hle hl)
  cases m <;> cases m' <;> first | exact hm.elim | skip
  · cases h <;> cases h' <;> first | exact hh.elim | skip
    · cases l <;> cases l' <;> first | exact hl.elim | skip
      · exact rfl
      · exact q0 (q0 (q1 (Le.refl β) hl fun β1 n _ => rfl))
    · cases l <;> cases l' <;> first | exact hl.elim | skip
      · exact q0 (q1 (Le.refl β) hh fun β1 n _ => rfl)
      · exact q0 (q1 (Le.refl β) hh fun β1 n h1 => q1 h1 hl fun β2 k _ => rfl)
  · cases h <;> cases h' <;> first | exact hh.elim | skip
    · refine q1 (Le.refl β) hm fun β1 n h1 => ?_
      exact SR.stopB (g := fun (_ : Nat) => (pure (0, 0, 0) : Sem (Nat × Nat × Nat)))
    · cases l <;> cases l' <;> first | exact hl.elim | skip
      · exact q1 (Le.refl β) hm fun β1 n h1 => q1 h1 hh fun β2 k _ => rfl
      · exact q1 (Le.refl β) hm fun β1 n h1 => q1 h1 hh fun β2 k h2 => q1 h2 hl fun β3 j _ => rfl

theorem oadr_add {a a' : Option Addr} {n : Nat} (h : oadr β a a') : oadr β (a.map (·.add n)) (a'.map (·.add n)) := by
  cases a <;> cases a' <;> first | exact h.elim | exact trivial | exact adr.add h _

theorem SR.slice {t : TypeId} {x x' : Value} {l l' h h' m m' : Option Value} (hx : one β x x') (hl : oone β l l') (hh : oone β h h') (hm : oone β m m')
    (hp : ∀ e, P.underlying t ≠ some (.pointer e)) : SR st P one β (Instr.slice t x l h m) (Instr.slice t x' l' h' m') := by
  refine SR.under fun d hd => ?_
  cases d <;> first | exact SR.stop | skip
  · -- string
    cases x <;> first | exact SR.stop | skip
    cases x' <;> first | (exfalso; simp [Tw.one, cel] at hx; done) | skip
    have e : _ = _ := hx
    subst e
    have em : m'.isSome = m.isSome := by cases m <;> cases m' <;> first | rfl | exact hm.elim
    dsimp only
    rw [em]
    split
    · exact SR.stopB (g := fun (_ : PUnit) => (pure (.bool true) : Sem Value)) (f := _)
    · refine SR.bind' (SR.sliceBounds hl hh (m := none) (m' := none) trivial) ?_
      rintro β' ⟨a, b, c⟩ _ hle rfl
      exact rfl
  · exact absurd hd (hp _)
  · cases x <;> first | exact SR.stop | skip
    cases x' <;> first | (exfalso; simp [Tw.one, cel] at hx; done) | skip
    obtain ⟨h1, h2, h3⟩ : oadr β _ _ ∧ _ = _ ∧ _ = _ := hx
    subst h2 h3
    refine SR.bind' (SR.sliceBounds hl hh hm) ?_
    rintro β' ⟨a, b, c⟩ _ hle rfl
    refine SR.size fun k => ?_
    refine ⟨?_, rfl, rfl⟩
    have h9 := oadr.mono hle h1
    split
    · exact h9
    · revert h9
      exact oadr_add

theorem SR.extract {v v' : Value} {i : Nat} (h : val β v v') : SR st P one β (Instr.extract v i) (Instr.extract v' i) := by
  unfold Instr.extract
  cases v <;> first | exact SR.stop | skip
  rename_i xs
  cases v' <;> first | (exfalso; simp [val, Tw.one, cel] at h; done) | skip
  rename_i ys
  have h' : arr (one β) xs ys := h
  cases hx : xs[i]? with
  | none => simp only [hx]; exact SR.stop
  | some x =>
    obtain ⟨y, hy, hxy⟩ := h'.get hx
    simp only [hx, hy]
    exact hxy
end
end Go.Tw
