/-
  Two runs of one text: which operations are meant, and that each is alike.
-/
import Derived.Test.YgcoaaGreatTwG
set_option linter.unusedVariables false
set_option linter.unusedSimpArgs false
namespace Go.Tw

/-- Two frames, alike. TT: the slots that hold what a call with several results has given. -/
structure AR (TT : Nat → Bool) (β : Rel) (a a' : Act) : Prop where
  size : a.tmps.size = a'.tmps.size
  tmp : ∀ t, TT t = false → one β (a.tmps.getD t undef) (a'.tmps.getD t undef)
  tup : ∀ t, val β (a.tmps.getD t undef) (a'.tmps.getD t undef)
  still : a.defers = [] ∧ a'.defers = []

def okArg (TT : Nat → Bool) : Operand → Bool
  | .tmp t => !TT t
  | .const v => shut v
  | .func _ => true
  | .global _ => false

def okOpt (TT : Nat → Bool) : Option Operand → Bool
  | none => true
  | some x => okArg TT x

def okZero (P : Program) (t : TypeId) : Bool := match zero? P t with
  | some z => shut z
  | none => true

def okElem (P : Program) (t : TypeId) : Bool := match P.underlying t with
  | some (.slice e) => (match zero? P e with | some z => shut z && z.cells.size != 0 | none => true)
  | _ => true

def okField (P : Program) (s : TypeId) (i : Nat) : Bool := match P.underlying s with
  | some (.struct fs) => (match fs[i]? with | some f => (match P.info? f.type with | some d => d.size != 0 | none => true) | none => true)
  | _ => true

def okConv (P : Program) (src dst : TypeId) : Bool :=
  (match P.underlying dst with | some (.int _) | some .string => true | _ => false) &&
  (match P.underlying src with | some (.slice e) => (match P.underlying e with | some (.int .u8) => true | _ => false) | some (.pointer _) => true | some d => plainKind d | none => true)

/-- A literal that is no place. -/
def noPlace : Operand → Bool
  | .const (.pointer (some _)) => false
  | .const _ => true
  | _ => false

def okEq (P : Program) (E : TypeId → Bool) (op : BinOp) (t : TypeId) (x y : Operand) : Bool :=
  !(op == .eql || op == .neq) ||
  (noCC P t && !P.eqGuardType P.depth t &&
    match P.underlying t with
    | some (.struct _) | some (.array _ _) => E t
    | some (.interface _) => false
    | some d => plainKind d || (noPlace x || noPlace y)
    | none => true)

def okSlice (P : Program) (t : TypeId) : Bool := match P.underlying t with
  | some (.pointer _) => false
  | _ => true

/-- An operation that two runs carry out alike. -/
def okOp (P : Program) (TT : Nat → Bool) (E : TypeId → Bool) (o : Oper) : Bool :=
  match o.op with
  | .move x | .assign x | .box _ x | .load _ x | .nilCheck x | .unOp _ _ x | .field _ x _ => okArg TT x
  | .pick c a b => okArg TT c && okArg TT a && okArg TT b
  | .alloc t => okZero P t
  | .build t ps => okZero P t && ps.all fun p => okArg TT p.2
  | .buildSlice t _ ps => okElem P t && ps.all fun p => okArg TT p.2
  | .store _ a x => okArg TT a && okArg TT x
  | .binOp op t x y _ => okArg TT x && okArg TT y && okEq P E op t x y
  | .convert s d x => okArg TT x && okConv P s d
  | .makeSlice t l c => okArg TT l && okArg TT c && okElem P t
  | .slice t x l h m => okArg TT x && okOpt TT l && okOpt TT h && okOpt TT m && okSlice P t
  | .fieldAddr s x i => okArg TT x && okField P s i
  | .indexAddr _ x i | .index _ x i => okArg TT x && okArg TT i
  | .range t x => okArg TT x && (match P.underlying t with | some .string => true | _ => false)
  | .extract (.tmp _) _ => true
  | .call { callee := .value (.func f), args, .. } => (args.all (okArg TT)) && (match P.funcs[f]? with | some fn => fn.body.isSome && fn.name != "runtime.NumGoroutine" | none => false)
  | .call { callee := .builtin .len, args, .. } | .call { callee := .builtin .min, args, .. } | .call { callee := .builtin .max, args, .. } | .call { callee := .builtin .copy, args, .. } => args.all (okArg TT)
  | _ => false

section
variable {st : Bool} {P : Program} {β : Rel} {TT : Nat → Bool} {E : TypeId → Bool} {a a' : Act}

theorem AR.arg (h : AR TT β a a') {x : Operand} (hx : okArg TT x = true) : one β (a.eval x) (a'.eval x) := by
  cases x with
  | tmp t => exact h.tmp t (by simpa [okArg] using hx)
  | const v => exact one_shut hx
  | global g => exact absurd hx (by simp [okArg])
  | func f => exact ⟨rfl, rfl, rfl, rfl, rfl⟩

theorem AR.opt (h : AR TT β a a') {x : Option Operand} (hx : okOpt TT x = true) : oone β (x.map a.eval) (x.map a'.eval) := by
  cases x with
  | none => exact trivial
  | some x => exact h.arg hx

theorem AR.parts (h : AR TT β a a') : ∀ {ps : List (Nat × Operand)}, (∀ p ∈ ps, okArg TT p.2 = true) → Tw.parts β (ps.map fun (i, x) => (i, a.eval x)) (ps.map fun (i, x) => (i, a'.eval x))
  | [], _ => trivial
  | p :: ps, hp => ⟨rfl, h.arg (hp p (by simp)), AR.parts h fun q hq => hp q (by simp [hq])⟩

theorem AR.args (h : AR TT β a a') {xs : Array Operand} (hx : xs.all (okArg TT) = true) : arr (one β) (xs.map a.eval) (xs.map a'.eval) := by
  refine ⟨by simp, fun i x y ha hb => ?_⟩
  simp only [Array.getElem?_map, Option.map_eq_some_iff] at ha hb
  obtain ⟨p, hp, rfl⟩ := ha
  obtain ⟨q, hq, rfl⟩ := hb
  rw [hp] at hq
  cases hq
  simp only [Array.all_eq_true_iff_forall_mem] at hx
  exact h.arg (hx p (Array.mem_of_getElem? hp))

theorem SR.eqGuard {op : BinOp} {t : TypeId} {x y : Operand} {u u' v v' : Value} (hu : one β u u') (hv : one β v v') (h : (op = .eql ∨ op = .neq) → P.eqGuardType P.depth t = false) :
    SR st P (fun _ _ _ => True) β (Go.eqGuard op t x y u v) (Go.eqGuard op t x y u' v') := by
  have hag : ∀ (op : BinOp), (op = .eql ∨ op = .neq) → P.eqGuardType P.depth t = false → SR st P (fun _ _ _ => True) β (Go.eqGuard op t x y u v) (Go.eqGuard op t x y u' v') := by
    intro op ho hg
    rcases one_kinds hu with ⟨b, rfl, rfl⟩ | ⟨k, n, rfl, rfl⟩ | ⟨s, rfl, rfl⟩ | ⟨a, a', rfl, rfl, ha⟩ | ⟨a, a', n, c, rfl, rfl, ha⟩ | ⟨f, rfl, rfl⟩ | ⟨rfl, rfl⟩ | ⟨a, a', rfl, rfl, ha⟩
    all_goals first
      | (rcases ho with rfl | rfl <;> exact trivial)
      | skip
    rcases one_kinds hv with ⟨b2, rfl, rfl⟩ | ⟨k2, n2, rfl, rfl⟩ | ⟨s2, rfl, rfl⟩ | ⟨c2, c2', rfl, rfl, hc⟩ | ⟨c2, c2', n2, d2, rfl, rfl, hc⟩ | ⟨f2, rfl, rfl⟩ | ⟨rfl, rfl⟩ | ⟨c2, c2', rfl, rfl, hc⟩
    all_goals first
      | (rcases ho with rfl | rfl <;> exact trivial)
      | skip
    rcases ho with rfl | rfl <;>
    · show SR st P _ β (if (!P.eqGuardType P.depth t) = true then _ else _) (if (!P.eqGuardType P.depth t) = true then _ else _)
      rw [hg]
      exact trivial
  cases op <;> first | exact trivial | exact hag _ (.inl rfl) (h (.inl rfl)) | exact hag _ (.inr rfl) (h (.inr rfl))

theorem okZero_spec {t : TypeId} (h : okZero P t = true) : ∀ z, zero? P t = some z → shut z = true := by
  intro z hz
  unfold okZero at h
  rw [hz] at h
  exact h

theorem okElem_spec {t : TypeId} (h : okElem P t = true) : ∀ e z, P.underlying t = some (.slice e) → zero? P e = some z → shut z = true ∧ z.cells.size ≠ 0 := by
  intro e z he hz
  unfold okElem at h
  rw [he] at h
  dsimp only at h
  rw [hz] at h
  simpa using h

theorem okField_spec {s : TypeId} {i : Nat} (h : okField P s i = true) : ∀ fs f d, P.underlying s = some (.struct fs) → fs[i]? = some f → P.info? f.type = some d → d.size ≠ 0 := by
  intro fs f d h1 h2 h3
  unfold okField at h
  rw [h1] at h
  dsimp only at h
  rw [h2] at h
  dsimp only at h
  rw [h3] at h
  simpa using h

theorem noPlace_spec {x : Operand} (h : noPlace x = true) : ∀ c, a.eval x ≠ .pointer (some c) := by
  intro c e
  cases x with
  | const v =>
    have e' : v = .pointer (some c) := e
    subst e'
    exact absurd h (by simp [noPlace])
  | _ => exact absurd h (by simp [noPlace])

theorem okEq_spec {op : BinOp} {t : TypeId} {x y : Operand} (hE : ∀ t, E t = true → EqOk P t) (h : okEq P E op t x y = true) :
    EqFit P op t (a.eval x) (a.eval y) ∧ ((op = .eql ∨ op = .neq) → P.eqGuardType P.depth t = false) := by
  have hh : (op = .eql ∨ op = .neq) → noCC P t = true ∧ P.eqGuardType P.depth t = false ∧ (match P.underlying t with
    | some (.struct _) | some (.array _ _) => E t
    | some (.interface _) => false
    | some d => plainKind d || (noPlace x || noPlace y)
    | none => true) = true := by
    intro ho
    unfold okEq at h
    have : (op == .eql || op == .neq) = true := by rcases ho with rfl | rfl <;> rfl
    rw [this] at h
    simp only [Bool.not_true, Bool.false_or, Bool.and_eq_true, Bool.not_eq_true'] at h
    exact ⟨h.1.1, h.1.2, h.2⟩
  refine ⟨⟨fun ho hp c d hcd => ?_, fun ho hs => ?_, fun ho => (hh ho).1⟩, fun ho => (hh ho).2.1⟩
  · have h3 := (hh ho).2.2
    have h4 : (noPlace x || noPlace y) = true := by
      unfold ptrLike at hp
      cases hu : P.underlying t with
      | none => rw [hu] at hp; exact absurd hp (by simp)
      | some d => rw [hu] at hp h3; cases d <;> first | (refine absurd hp ?_; simp [plainKind]; done) | exact h3
    simp only [Bool.or_eq_true] at h4
    rcases h4 with h4 | h4
    · exact noPlace_spec h4 c hcd.1
    · exact noPlace_spec h4 d hcd.2
  · have h3 := (hh ho).2.2
    rcases hs with ⟨fs, hs⟩ | ⟨n, e, hs⟩ <;> (rw [hs] at h3; exact hE t h3)

theorem okConv_spec {src dst : TypeId} (h : okConv P src dst = true) : ((∃ k, P.underlying dst = some (.int k)) ∨ P.underlying dst = some .string) ∧
    (∀ e, P.underlying src = some (.slice e) → P.underlying e = some (.int .u8)) ∧ (∀ d, P.underlying src = some d → plainKind d = true ∨ ∃ e, d = .pointer e) := by
  unfold okConv at h
  simp only [Bool.and_eq_true] at h
  obtain ⟨h1, h2⟩ := h
  refine ⟨?_, fun e he => ?_, fun d he => ?_⟩
  · split at h1 <;> first | exact .inl ⟨_, by assumption⟩ | exact .inr (by assumption) | exact absurd h1 (by simp)
  · rw [he] at h2
    dsimp only at h2
    split at h2
    · assumption
    · exact absurd h2 (by simp)
  · rw [he] at h2
    cases d <;> first | exact .inl rfl | exact .inr ⟨_, rfl⟩ | (refine absurd h2 ?_; simp [plainKind]; done)

theorem SR.pick {c c' x x' y y' : Value} (hc : one β c c') (hx : one β x x') (hy : one β y y') : SR st P nxt β (do pure (Next.value (if ← asBool c then x else y))) (do pure (Next.value (if ← asBool c' then x' else y'))) := by
  rcases one_kinds hc with ⟨b, rfl, rfl⟩ | ⟨k, n, rfl, rfl⟩ | ⟨s, rfl, rfl⟩ | ⟨a, a', rfl, rfl, ha⟩ | ⟨a, a', n, c, rfl, rfl, ha⟩ | ⟨f, rfl, rfl⟩ | ⟨rfl, rfl⟩ | ⟨a, a', rfl, rfl, ha⟩
  all_goals first | exact SR.dead rfl rfl | skip
  cases b
  · exact hy
  · exact hx

/-- Whether an operation may store. -/
def storing (o : Oper) : Bool := match o.op with
  | .store .. => true
  | .call { callee := .builtin .copy, .. } => true
  | .next .. => true
  | _ => false

theorem SR.range_ {t : TypeId} {x x' : Value} (ht : P.underlying t = some .string) (hx : one β x x') : SR st P one β (Instr.range t x) (Instr.range t x') := by
  refine SR.under fun d hd => ?_
  rw [ht] at hd
  cases hd
  rcases one_kinds hx with ⟨b, rfl, rfl⟩ | ⟨k, n, rfl, rfl⟩ | ⟨s, rfl, rfl⟩ | ⟨a, a', rfl, rfl, ha⟩ | ⟨a, a', n, c, rfl, rfl, ha⟩ | ⟨f, rfl, rfl⟩ | ⟨rfl, rfl⟩ | ⟨a, a', rfl, rfl, ha⟩ <;> first | exact SR.dead rfl rfl | skip
  exact ⟨⟨rfl, rfl⟩, fun β' r r' hl hr hp => ⟨hr, rfl, rfl, hp⟩⟩

theorem SR.next_ {x x' : Value} {ty : TypeId} (hx : one β x x') : SR true P val β (Instr.next x true ty) (Instr.next x' true ty) := by
  rcases one_kinds hx with ⟨b, rfl, rfl⟩ | ⟨k, n, rfl, rfl⟩ | ⟨s, rfl, rfl⟩ | ⟨_ | a, _ | a', rfl, rfl, ha⟩ | ⟨a, a', n, c, rfl, rfl, ha⟩ | ⟨f, rfl, rfl⟩ | ⟨rfl, rfl⟩ | ⟨a, a', rfl, rfl, ha⟩ <;> first | exact SR.dead rfl rfl | exact ha.elim | skip
  obtain ⟨r, off, spot⟩ := a
  obtain ⟨r', off', spot'⟩ := a'
  obtain ⟨h1, h2, h3, h4⟩ := ha
  dsimp only at h1 h2 h3 h4
  subst h2 h3
  cases off with
  | succ n => exact SR.dead rfl rfl
  | zero =>
    refine ⟨h1, fun o o' ho => ?_⟩
    cases o <;> cases o' <;> first | (exfalso; simp [obj] at ho; done) | exact SR.dead rfl rfl | skip
    obtain ⟨e1, e2⟩ : _ = _ ∧ _ = _ := ho
    subst e1 e2
    rename_i s p
    show SR true P val β (if p < s.size then _ else _) (if p < s.size then _ else _)
    split
    · refine ⟨rfl, h1, ⟨rfl, rfl⟩, ?_⟩
      refine ⟨rfl, fun i u v hu hv => ?_⟩
      rw [hu] at hv
      cases hv
      match i, hu with
      | 0, hu => cases hu; exact rfl
      | 1, hu => cases hu; exact ⟨rfl, rfl⟩
      | 2, hu => cases hu; exact ⟨rfl, rfl⟩
    · refine ⟨rfl, fun i u v hu hv => ?_⟩
      rw [hu] at hv
      cases hv
      match i, hu with
      | 0, hu => cases hu; exact rfl

theorem SR.exec {o : Oper} (hG : P.globals.size ≤ 1) (hE : ∀ t, E t = true → EqOk P t) (hok : okOp P TT E o = true) (h : AR TT β a a') : SR (storing o) P nxt β (execOp a.eval o) (execOp a'.eval o) := by
  obtain ⟨dst, op, type, pos, after, guard⟩ := o
  cases op with
  | move x => exact h.arg hok
  | assign x => exact h.arg hok
  | pick c x y =>
    simp only [okOp, Bool.and_eq_true] at hok
    exact SR.pick (h.arg hok.1.1) (h.arg hok.1.2) (h.arg hok.2)
  | alloc t => exact SR.v (SR.alloc (okZero_spec hok))
  | box t x => exact SR.v (SR.box (h.arg hok))
  | build t ps =>
    simp only [okOp, Bool.and_eq_true, Array.all_eq_true_iff_forall_mem] at hok
    refine SR.v (SR.build ?_ (okZero_spec hok.1))
    rw [Array.toList_map, Array.toList_map]
    exact h.parts fun p hp => hok.2 p (by simpa using hp)
  | buildSlice t n ps =>
    simp only [okOp, Bool.and_eq_true, Array.all_eq_true_iff_forall_mem] at hok
    refine SR.v (SR.buildSlice ?_ (okElem_spec hok.1))
    rw [Array.toList_map, Array.toList_map]
    exact h.parts fun p hp => hok.2 p (by simpa using hp)
  | load t x => exact SR.v (SR.loadAt (h.arg hok))
  | store t x y =>
    simp only [okOp, Bool.and_eq_true] at hok
    exact SR.u (SR.storeAt (h.arg hok.1) (h.arg hok.2))
  | nilCheck x =>
    have hx := h.arg hok
    show SR false P nxt β (match a.eval x with | .pointer none | .nilIface | .nilFunc => runtimePanic .nilDeref | .func (.method name) first captured => _ | x => pure (.value x)) (match a'.eval x with | .pointer none | .nilIface | .nilFunc => runtimePanic .nilDeref | .func (.method name) first captured => _ | x => pure (.value x))
    rcases one_kinds hx with ⟨b, e, e'⟩ | ⟨k, n, e, e'⟩ | ⟨s, e, e'⟩ | ⟨c, c', e, e', hc⟩ | ⟨c, c', n, d, e, e', hc⟩ | ⟨f, e, e'⟩ | ⟨e, e'⟩ | ⟨c, c', e, e', hc⟩ <;> rw [e, e'] at hx ⊢
    all_goals first
      | exact hx
      | (cases c <;> cases c' <;> first | exact hc.elim | exact SR.pan _ _ rfl rfl | exact hx)
      | (cases f <;> exact hx)
  | binOp op t x y yt =>
    simp only [okOp, Bool.and_eq_true] at hok
    obtain ⟨h1, h2⟩ := okEq_spec (a := a) hE hok.2
    refine SR.v ?_
    refine SR.bind' (SR.eqGuard (h.arg hok.1.1) (h.arg hok.1.2) h2) fun β' _ _ hle _ => ?_
    exact SR.binOp hG (one.mono hle (h.arg hok.1.1)) (one.mono hle (h.arg hok.1.2)) h1
  | unOp op t x => exact SR.v (SR.unary (h.arg hok))
  | convert s d x =>
    simp only [okOp, Bool.and_eq_true] at hok
    obtain ⟨h1, h2, h3⟩ := okConv_spec hok.2
    exact SR.v (SR.convert (h.arg hok.1) h1 h2 h3)
  | makeSlice t l c =>
    simp only [okOp, Bool.and_eq_true] at hok
    exact SR.v (SR.makeSlice (h.arg hok.1.1) (h.arg hok.1.2) (okElem_spec hok.2))
  | slice t x l hh m =>
    simp only [okOp, Bool.and_eq_true] at hok
    obtain ⟨⟨⟨⟨h1, h2⟩, h3⟩, h4⟩, h5⟩ := hok
    refine SR.v ?_
    refine SR.under fun d hd => ?_
    have hp : ∀ e, P.underlying t ≠ some (.pointer e) := by
      intro e he
      rw [okSlice, he] at h5
      exact absurd h5 (by simp)
    have hr := SR.slice (st := false) (P := P) (t := t) (h.arg h1) (h.opt h2) (h.opt h3) (h.opt h4) hp
    cases d <;> first
      | exact hr
      | (exfalso; rw [okSlice, hd] at h5; simp at h5; done)
      | (refine SR.sure (h.arg h1) fun b b' hb => ?_
         refine SR.bind' (SR.sliceBounds (h.opt h2) (h.opt h3) (h.opt h4)) ?_
         rintro β' ⟨p, q, r⟩ _ hle rfl
         refine SR.size fun k => ?_
         refine ⟨?_, rfl, rfl⟩
         have h9 := adr.mono hle hb
         show adr _ (if _ then _ else _) (if _ then _ else _)
         split
         · exact h9
         · exact h9.add _)
  | fieldAddr s x i =>
    simp only [okOp, Bool.and_eq_true] at hok
    exact SR.v (SR.fieldAt (h.arg hok.1) (okField_spec hok.2))
  | field t x i => exact SR.v (SR.field (h.arg hok))
  | indexAddr t x i =>
    simp only [okOp, Bool.and_eq_true] at hok
    exact SR.v (SR.indexAt (h.arg hok.1) (h.arg hok.2))
  | index t x i =>
    simp only [okOp, Bool.and_eq_true] at hok
    exact SR.v (SR.index (h.arg hok.1) (h.arg hok.2))
  | range t x =>
    simp only [okOp, Bool.and_eq_true] at hok
    refine SR.v (SR.range_ ?_ (h.arg hok.1))
    cases hu : P.underlying t with
    | none => have := hok.2; rw [hu] at this; exact absurd this (by simp)
    | some d => have := hok.2; rw [hu] at this; cases d <;> first | (exfalso; simp at this; done) | rfl
  | extract x i =>
    cases x <;> first | (exfalso; simp [okOp] at hok; done) | exact SR.v (SR.extract (h.tup _))
  | call c =>
    obtain ⟨callee, args, ts⟩ := c
    cases callee with
    | value f =>
      cases f <;> first | (exfalso; simp [okOp] at hok; done) | skip
      rename_i f
      simp only [okOp, Bool.and_eq_true] at hok
      obtain ⟨h1, h2⟩ := hok
      cases hf : P.funcs[f]? with
      | none => rw [hf] at h2; exact absurd h2 (by simp)
      | some fn =>
        rw [hf] at h2
        simp only [Bool.and_eq_true, bne_iff_ne, ne_eq] at h2
        have e : ∀ xs : Array Value, SR false P nxt β (callFunc f xs) (callFunc f xs) ↔ SR false P nxt β (callFunc f xs) (callFunc f xs) := fun _ => Iff.rfl
        have hn : (fn.name == "runtime.NumGoroutine") = false := by simpa using h2.2
        have hb : fn.body.isNone = false := by
          cases hbb : fn.body with
          | none => rw [hbb] at h2; exact absurd h2.1 (by simp)
          | some b => rfl
        have hc : ∀ xs ys : Array Value, arr (one β) xs ys → SR false P nxt β (callFunc f xs) (callFunc f ys) := by
          intro xs ys hxy
          show SR false P nxt β (match P.funcs[f]? with | none => _ | some fn => _) (match P.funcs[f]? with | none => _ | some fn => _)
          rw [hf]
          dsimp only
          rw [hn, hb]
          exact ⟨rfl, hxy⟩
        have := h.args h1
        refine hc (#[] ++ args.map a.eval ++ #[]) (#[] ++ args.map a'.eval ++ #[]) ?_
        simpa using this
    | invoke r m => exact absurd hok (by simp [okOp])
    | builtin b =>
      cases b <;> first | (exfalso; simp [okOp] at hok; done) | skip
      · exact SR.v (SR.copy_ (h.args hok))
      · exact SR.v (SR.len_ (h.args hok))
      · exact SR.v (SR.max_ (h.args hok))
      · exact SR.v (SR.min_ (h.args hok))
  | _ => exact absurd hok (by simp [okOp])
end

/-- A move of what a call with several results has given. -/
def tupMove (TT : Nat → Bool) (o : Oper) : Bool := match o.op with
  | .move (.tmp t) | .assign (.tmp t) => TT t
  | .next x true => okArg TT x
  | _ => false

def okOp2 (P : Program) (TT : Nat → Bool) (E : TypeId → Bool) (o : Oper) : Bool := okOp P TT E o || tupMove TT o

/-- What comes of an operation, alike; 'b': it may be a row of results. -/
def nxt2 (b : Bool) (β : Rel) : Next → Next → Prop
  | .value v, .value v' => val β v v' ∧ (b = false → one β v v')
  | .skip, .skip => True
  | .enter f xs, .enter g ys => f = g ∧ arr (one β) xs ys
  | _, _ => False

theorem nxt.two {β : Rel} {b : Bool} {n n' : Next} (h : nxt β n n') : nxt2 b β n n' := by
  cases n <;> cases n' <;> first | exact h | exact ⟨one.val h, fun _ => h⟩

theorem tupMove_inv {TT : Nat → Bool} {o : Oper} (h : tupMove TT o = true) : (∃ t, TT t = true ∧ (o.op = .move (.tmp t) ∨ o.op = .assign (.tmp t))) ∨ ∃ x, okArg TT x = true ∧ o.op = .next x true := by
  unfold tupMove at h
  split at h
  · exact .inl ⟨_, h, .inl (by assumption)⟩
  · exact .inl ⟨_, h, .inr (by assumption)⟩
  · exact .inr ⟨_, h, by assumption⟩
  · exact absurd h (by simp)

theorem SR.exec2 {P : Program} {β : Rel} {TT : Nat → Bool} {E : TypeId → Bool} {a a' : Act} {o : Oper} (hG : P.globals.size ≤ 1) (hE : ∀ t, E t = true → EqOk P t) (hok : okOp2 P TT E o = true) (h : AR TT β a a') :
    SR (storing o) P (nxt2 (tupMove TT o)) β (execOp a.eval o) (execOp a'.eval o) := by
  cases ht : tupMove TT o with
  | false =>
    have hk : okOp P TT E o = true := by simpa [okOp2, ht] using hok
    exact SR.mono (SR.exec hG hE hk h) fun β' x y _ hx => nxt.two hx
  | true =>
    obtain ⟨dst, op, type, pos, after, guard⟩ := o
    rcases tupMove_inv ht with ⟨t, _, hop⟩ | ⟨x, hx, hop⟩
    · rcases hop with rfl | rfl <;> exact ⟨h.tup t, fun hf => absurd hf (by simp)⟩
    · dsimp only at hop
      subst hop
      exact SR.bind' (SR.next_ (h.arg hx)) fun β' v v' _ hv => ⟨hv, fun hf => absurd hf (by simp)⟩
end Go.Tw
