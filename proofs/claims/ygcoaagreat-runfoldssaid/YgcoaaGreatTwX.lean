/-
  Two runs of one text: addresses of memory of one's own.
-/
import Derived.Test.YgcoaaGreatTwI
set_option linter.unusedVariables false
set_option linter.unusedSimpArgs false
namespace Go.Tw

/-- If the value is a place, it lies at or above this block. -/
def above (base : Nat) : Value → Prop
  | .pointer (some a) => base ≤ a.block
  | .slice (some a) _ _ => base ≤ a.block
  | _ => True

def Fresh (FT : Nat → Bool) (base : Nat) (a : Act) : Prop := ∀ t, FT t = true → above base (a.tmps.getD t undef)

/-- It stores nothing, and what it gives is so. -/
def Gives (P : Program) (base : Nat) {α : Type} (Q : α → Prop) : Sem α → Prop
  | .pure a => Q a
  | .halt _ => True
  | .load _ _ k => ∀ v, Gives P base Q (k v)
  | .new _ k => ∀ r, base ≤ r → Gives P base Q (k r)
  | .shape _ k => ∀ s, Gives P base Q (k s)
  | .frozen _ k => ∀ s, Gives P base Q (k s)
  | .getObj _ k => ∀ s, Gives P base Q (k s)
  | .choose _ k => ∀ s, Gives P base Q (k s)
  | .program k => Gives P base Q (k P)
  | .mark _ k => Gives P base Q k
  | _ => False

section
variable {P : Program} {base : Nat} {α γ : Type}

theorem Gives.run {Q : α → Prop} {s : Sem α} (h : Gives P base Q s) {w w1 : World} {x : α} (hb : base ≤ w.heap.size) (hr : s.run P w = .ok x w1) : Q x := by
  induction s generalizing w with
  | pure y => simp only [Sem.run, Result.ok.injEq] at hr; rw [← hr.1]; exact h
  | halt e => simp only [Sem.run] at hr; exact absurd hr (by simp)
  | load m a k ih =>
    simp only [Sem.run] at hr
    split at hr
    · exact ih _ (h _) hb hr
    · split at hr
      · exact ih _ (h _) hb hr
      · exact absurd hr (by simp)
  | new o k ih =>
    simp only [Sem.run] at hr
    exact ih _ (h _ hb) (by simp; omega) hr
  | shape r k ih => simp only [Sem.run] at hr; exact ih _ (h _) hb hr
  | frozen r k ih => simp only [Sem.run] at hr; exact ih _ (h _) hb hr
  | getObj r k ih =>
    simp only [Sem.run] at hr
    split at hr
    · exact absurd hr (by simp)
    · exact ih _ (h _) hb hr
    · exact absurd hr (by simp)
  | choose q k ih =>
    simp only [Sem.run] at hr
    split at hr
    · exact ih _ (h _) hb hr
    · have q := ih _ (h _) (w := { w with drawn := w.drawn + 1 }) hb hr
      exact q
  | program k ih => simp only [Sem.run] at hr; exact ih _ h hb hr
  | mark m k ih => simp only [Sem.run] at hr; exact ih h hb hr
  | _ => exact h.elim

theorem Gives.bind {Q1 : α → Prop} {Q2 : γ → Prop} {s : Sem α} {f : α → Sem γ} (h : Gives P base Q1 s) (hf : ∀ x, Q1 x → Gives P base Q2 (f x)) : Gives P base Q2 (s >>= f) := by
  show Gives P base Q2 (s.bind f)
  induction s with
  | pure y => exact hf y h
  | halt e => exact trivial
  | load m a k ih => exact fun v => ih v (h v)
  | new o k ih => exact fun r hr => ih r (h r hr)
  | shape r k ih => exact fun v => ih v (h v)
  | frozen r k ih => exact fun v => ih v (h v)
  | getObj r k ih => exact fun v => ih v (h v)
  | choose q k ih => exact fun v => ih v (h v)
  | program k ih => exact ih _ h
  | mark m k ih => exact ih h
  | _ => exact h.elim

theorem Gives.pb {Q : γ → Prop} {a : α} {f : α → Sem γ} (h : Gives P base Q (f a)) : Gives P base Q (pure a >>= f) := h

theorem Gives.ite {Q : α → Prop} {c : Prop} [Decidable c] {s t : Sem α} (h1 : Gives P base Q s) (h2 : Gives P base Q t) : Gives P base Q (if c then s else t) := by
  split
  · exact h1
  · exact h2

theorem gives_info (t : TypeId) : Gives P base (fun _ => True) (typeInfo t) := by
  show Gives P base _ (match P.info? t with | some i => pure i | none => stuck "no such type")
  cases P.info? t <;> exact trivial
theorem gives_under (t : TypeId) : Gives P base (fun _ => True) (underlying t) := by
  show Gives P base _ (match P.underlying t with | some i => pure i | none => stuck "no such type")
  cases P.underlying t <;> exact trivial
theorem gives_size (t : TypeId) : Gives P base (fun _ => True) (sizeOf t) := Gives.bind (gives_info t) fun _ _ => trivial
theorem gives_zero (t : TypeId) : Gives P base (fun _ => True) (zeroValue t) := Gives.bind (gives_info t) fun i _ => by cases i.zero <;> exact trivial
theorem gives_newRow (t : TypeId) (xs : Array Value) : Gives P base (fun a => base ≤ a.block) (newRow t xs) := fun r hr => hr
theorem gives_int (v : Value) : Gives P base (fun _ => True) (asIntOf v) := by
  cases v <;> first | exact trivial | skip
  rename_i a
  cases a <;> exact trivial
theorem gives_pan {Q : α → Prop} (e : RuntimeError) (he : simpleErr e = true) : Gives P base Q (runtimePanic e) := by
  cases e <;> first | exact trivial | (exfalso; simp [simpleErr] at he; done)
theorem gives_bounds {Q : α → Prop} (k : IntKind) (x y : Int) (c : BoundsCode) : Gives P base Q (boundsPanic k x y c) := by
  unfold boundsPanic
  split
  · exact fun s => trivial
  · exact gives_pan (.bounds _ _ _ _) rfl

theorem gives_alloc (t : TypeId) : Gives P base (above base) (Instr.alloc t true (.tuple #[])) := Gives.bind (gives_zero t) fun z _ => Gives.bind (gives_newRow t z.cells) fun a ha => ha
theorem gives_box (t : TypeId) (v : Value) : Gives P base (above base) (Instr.box t v) := Gives.bind (gives_newRow t v.cells) fun a ha => ha

theorem above_add {a : Addr} {n : Nat} (h : base ≤ a.block) : base ≤ (a.add n).block := by
  unfold Addr.add
  split <;> exact h

theorem gives_sure {v : Value} (h : above base v) : Gives P base (fun a => base ≤ a.block) (Instr.sureAddr v) := by
  cases v <;> first | exact trivial | skip
  rename_i a
  cases a <;> first | exact trivial | exact h

theorem gives_view (r : Nat) : Gives P base (fun _ => True) (viewAt r) := by
  intro s
  cases s with
  | some s => exact trivial
  | none => intro o; cases o <;> exact trivial
theorem gives_byteOf (a : Addr) : Gives P base (fun _ => True) (byteOf a) := by
  obtain ⟨b, o, s⟩ := a
  cases s with
  | some s => exact trivial
  | none =>
    refine Gives.bind (Q1 := fun _ => True) (s := noView _) (Gives.bind (gives_view _) fun v _ => by cases v <;> exact trivial) fun _ _ => ?_
    intro s
    cases s with
    | none => exact trivial
    | some s =>
      obtain ⟨e, c⟩ := s
      show Gives P base _ (if P.cellsOf e = 0 then _ else _)
      refine Gives.ite trivial ?_
      split <;> exact trivial

theorem gives_fieldAt {s : TypeId} {v : Value} {i : Nat} (h : above base v) : Gives P base (above base) (Instr.fieldAt s v i) := by
  refine Gives.bind (gives_under s) fun d _ => ?_
  cases d <;> first | exact trivial | skip
  rename_i fs
  dsimp only
  cases fs[i]? with
  | none => exact trivial
  | some f =>
    refine Gives.bind (gives_sure h) fun a ha => ?_
    refine Gives.bind (Q1 := fun a : Addr => base ≤ a.block) ?_ fun b hb => hb
    refine Gives.bind (gives_size _) fun n _ => ?_
    refine Gives.ite ?_ (above_add ha)
    refine Gives.bind (gives_byteOf _) fun n _ => ?_
    refine Gives.bind (gives_byteOf _) fun m _ => ?_
    show base ≤ Addr.block (if _ then _ else _)
    split <;> exact ha

theorem gives_indexAt {t : TypeId} {x i : Value} (h : above base x) : Gives P base (above base) (Instr.indexAt t x i) := by
  refine Gives.bind (gives_int i) fun p _ => ?_
  obtain ⟨k, n⟩ := p
  refine Gives.bind (gives_under t) fun d _ => ?_
  have rest : ∀ (u : Unsupported) (a : Option Addr) (len : Nat) (e : TypeId), (∀ b, a = some b → base ≤ b.block) → Gives P base (above base) (do
      let tiny := len ≤ 1 && (match ← underlying t with | .array .. => true | _ => false)
      match a with
      | some a =>
        if 0 ≤ n ∧ n < len then pure (.pointer (some (a.add (n.toNat * (← sizeOf e)))))
        else if tiny then unsupported u
        else boundsPanic k n len .index
      | none => boundsPanic k n 0 .index) := by
    intro u a len e ha
    refine Gives.bind (gives_under t) fun d _ => ?_
    cases a with
    | none => exact gives_bounds _ _ _ _
    | some a =>
      refine Gives.ite (Gives.bind (gives_size e) fun m _ => above_add (ha a rfl)) (Gives.ite trivial (gives_bounds _ _ _ _))
  cases d <;> first | exact trivial | skip
  · cases x <;> first | exact trivial | skip
    rename_i a _ _
    exact rest _ a _ _ fun b hb => by subst hb; exact h
  · exact Gives.bind (gives_sure h) fun a ha => rest _ (some a) _ _ fun b hb => by cases hb; exact ha

theorem gives_bound (v : Value) (y : Nat) (c : BoundsCode) : Gives P base (fun _ => True) (Instr.sliceBound v y c) :=
  Gives.bind (gives_int v) fun p _ => Gives.ite trivial (gives_bounds _ _ _ _)

theorem gives_sliceBounds (b : Bool) (len cap : Nat) (l h m : Option Value) : Gives P base (fun _ => True) (Instr.sliceBounds b len cap l h m) := by
  cases m <;> cases h <;> cases l
  all_goals
    unfold Instr.sliceBounds
    dsimp only
    repeat (first
      | exact trivial
      | refine Gives.bind (gives_bound _ _ _) (fun _ _ => ?_)
      | refine Gives.pb ?_)

theorem gives_addr (v : Value) (h : above base v) : Gives P base (fun a => base ≤ a.block) (asAddr v) := by
  cases v <;> first | exact trivial | skip
  rename_i a
  cases a <;> first | exact h | exact trivial

theorem gives_slice {t : TypeId} {x : Value} {l hh m : Option Value} (h : above base x) : Gives P base (above base) (Instr.slice t x l hh m) := by
  refine Gives.bind (gives_under t) fun d _ => ?_
  cases d <;> first | exact trivial | skip
  · cases x <;> first | exact trivial | skip
    refine Gives.ite trivial ?_
    exact Gives.bind (gives_sliceBounds _ _ _ _ _ _) fun p _ => trivial
  · refine Gives.bind (gives_addr x h) fun a ha => ?_
    refine Gives.bind (gives_under _) fun d2 _ => ?_
    cases d2 <;> first | exact trivial | skip
    refine Gives.bind (gives_sliceBounds _ _ _ _ _ _) fun p _ => ?_
    refine Gives.bind (gives_size _) fun n _ => ?_
    show base ≤ Addr.block (if _ then _ else _)
    split
    · exact ha
    · exact above_add ha
  · cases x <;> first | exact trivial | skip
    rename_i a _ _
    refine Gives.bind (gives_sliceBounds _ _ _ _ _ _) fun p _ => ?_
    refine Gives.bind (gives_size _) fun n _ => ?_
    show above base (.slice (if _ then _ else _) _ _)
    cases a with
    | none => split <;> exact trivial
    | some a =>
      split
      · exact h
      · exact above_add h

theorem gives_panB {Q : γ → Prop} {f : α → Sem γ} (e : RuntimeError) (he : simpleErr e = true) : Gives P base Q (runtimePanic e >>= f) :=
  Gives.bind (Q1 := fun _ => False) (gives_pan e he) fun _ h => h.elim
theorem gives_asInt (v : Value) : Gives P base (fun _ => True) (asInt v) := Gives.bind (gives_int v) fun _ _ => trivial
theorem gives_room {Q : γ → Prop} {f : Unit → Sem γ} {n : Nat} (h : Gives P base Q (f ())) : Gives P base Q (askRoom n >>= f) := by
  unfold askRoom
  split <;> exact h

theorem gives_makeSlice (t : TypeId) (l c : Value) : Gives P base (above base) (Instr.makeSlice t l c) := by
  refine Gives.bind (gives_under t) fun d _ => ?_
  cases d <;> first | exact trivial | skip
  refine Gives.bind (gives_asInt l) fun n _ => ?_
  refine Gives.bind (gives_asInt c) fun m _ => ?_
  refine Gives.bind (gives_info _) fun i _ => ?_
  refine Gives.ite (Gives.ite (gives_panB _ rfl) (Gives.ite (gives_panB _ rfl) (Gives.bind (Q1 := fun _ => True) (s := choose _) (fun _ => trivial) fun _ _ => gives_panB _ rfl))) ?_
  refine gives_room ?_
  refine Gives.bind (gives_size _) fun k _ => ?_
  refine Gives.ite ?_ ?_
  · exact Gives.pb (Gives.bind (gives_newRow _ _) fun a ha => ha)
  · exact Gives.bind (gives_zero _) fun z _ => Gives.pb (Gives.bind (gives_newRow _ _) fun a ha => ha)

theorem gives_buildSlice (t : TypeId) (n : Nat) (ps : Array (Nat × Value)) : Gives P base (above base) (Instr.buildSlice t n ps) := by
  refine Gives.bind (gives_under t) fun d _ => ?_
  cases d <;> first | exact trivial | skip
  refine Gives.bind (gives_size _) fun k _ => ?_
  refine Gives.ite trivial ?_
  have rest : ∀ (m : String) (e : TypeId) (o : Option (Array Value)), Gives P base (above base) (match o with | some cells => (do pure (.slice (some (← newRow e cells)) n n)) | _ => stuck m) := by
    intro m e o
    cases o with
    | none => exact trivial
    | some c => exact Gives.bind (gives_newRow _ _) fun a ha => ha
  refine Gives.ite ?_ ?_
  · exact Gives.pb (rest _ _ _)
  · exact Gives.bind (gives_zero _) fun z _ => Gives.pb (rest _ _ _)

theorem gives_range (t : TypeId) (x : Value) : Gives P base (above base) (Instr.range t x) := by
  refine Gives.bind (gives_under t) fun d _ => ?_
  have new : ∀ s : Sem Obj, Gives P base (fun _ => True) s → Gives P base (above base) (do let it ← s; pure (.pointer (some ⟨← newObj it, 0, none⟩))) := by
    intro s hs
    exact Gives.bind hs fun it _ => fun r hr => hr
  cases d <;> first | exact trivial | skip
  · cases x <;> first | exact trivial | exact new (pure _) trivial
  · cases x <;> first | exact trivial | skip
    rename_i m
    cases m with
    | none => exact new (pure _) trivial
    | some m =>
      intro o
      cases o <;> first | exact trivial | exact fun r hr => hr

/-- It stores at or above this block alone. -/
def Puts (P : Program) (base : Nat) : Sem α → Prop
  | .pure _ | .halt _ => True
  | .load _ _ k => ∀ v, Puts P base (k v)
  | .store _ a _ k => base ≤ a.block ∧ Puts P base k
  | .new _ k => ∀ r, Puts P base (k r)
  | .shape _ k => ∀ r, Puts P base (k r)
  | .frozen _ k => ∀ r, Puts P base (k r)
  | .getObj _ k => ∀ r, Puts P base (k r)
  | .setObj r _ k => base ≤ r ∧ Puts P base k
  | .choose _ k => ∀ r, Puts P base (k r)
  | .program k => Puts P base (k P)
  | .mark _ k => Puts P base k
  | _ => False

theorem Puts.bind {s : Sem α} {f : α → Sem γ} (h : Puts P base s) (hf : ∀ x, Puts P base (f x)) : Puts P base (s >>= f) := by
  show Puts P base (s.bind f)
  induction s with
  | setObj r o k ih => exact ⟨h.1, ih h.2⟩
  | pure y => exact hf y
  | halt e => exact trivial
  | load m a k ih => exact fun v => ih v (h v)
  | store m a v k ih => exact ⟨h.1, ih h.2⟩
  | new o k ih => exact fun r => ih r (h r)
  | shape r k ih => exact fun v => ih v (h v)
  | frozen r k ih => exact fun v => ih v (h v)
  | getObj r k ih => exact fun v => ih v (h v)
  | choose q k ih => exact fun v => ih v (h v)
  | program k ih => exact ih _ h
  | mark m k ih => exact ih h
  | _ => exact h.elim

theorem Gives.puts {Q : α → Prop} {s : Sem α} (h : Gives P 0 Q s) : Puts P base s := by
  induction s with
  | pure y => exact trivial
  | halt e => exact trivial
  | load m a k ih => exact fun v => ih v (h v)
  | new o k ih => exact fun r => ih r (h r (Nat.zero_le _))
  | shape r k ih => exact fun v => ih v (h v)
  | frozen r k ih => exact fun v => ih v (h v)
  | getObj r k ih => exact fun v => ih v (h v)
  | choose q k ih => exact fun v => ih v (h v)
  | program k ih => exact ih _ h
  | mark m k ih => exact ih h
  | _ => exact h.elim

theorem Puts.run {st : Bool} {R : Rel → α → α → Prop} {s t : Sem α} {β : Rel} {w w' : World} (h : SR st P R β s t) (hp : Puts P base s) (hw : W β w w') (hb : base ≤ w.heap.size) {x : α} {w1 : World} (hr : s.run P w = .ok x w1) :
    w.heap.size ≤ w1.heap.size ∧ ∀ b, b < base → w1.heap[b]? = w.heap[b]? := by
  induction s generalizing t β w w' with
  | pure y =>
    simp only [Sem.run, Result.ok.injEq] at hr
    rw [← hr.2]
    exact ⟨Nat.le_refl _, fun _ _ => rfl⟩
  | load m y k ih =>
    cases t <;> try (exfalso; simp [SR] at h; done)
    obtain ⟨rfl, ha, hk⟩ := h
    simp only [Sem.run] at hr
    cases hc : w.cell? y with
    | none =>
      rw [hc] at hr
      obtain ⟨e, he⟩ := hw.noCell ha P (m == .atomic)
      simp only [he] at hr
      exact absurd hr (by simp)
    | some v =>
      rw [hc] at hr
      obtain ⟨v', hv', hvv⟩ := hw.cell ha hc
      exact ih v (hk v v' hvv) (hp v) hw hb hr
  | store m y v k ih =>
    by_cases hone : (∃ c, v = .agg c) ∨ (∃ c, v = .tuple c)
    · rcases hone with ⟨c, rfl⟩ | ⟨c, rfl⟩ <;> exact absurd hr (by simp [Sem.run])
    have h' : ∃ m' x' v' k', t = .store m' x' v' k' ∧ st = true ∧ adr β y x' ∧ cel β v v' ∧ SR st P R β k k' := by
      cases t <;> cases v <;> first
        | (exfalso; simp [SR] at h; done)
        | exact absurd (.inl ⟨_, rfl⟩) hone
        | exact absurd (.inr ⟨_, rfl⟩) hone
        | exact ⟨_, _, _, _, rfl, h⟩
    obtain ⟨m', x', v', k', rfl, hst, ha, hv, hk⟩ := h'
    obtain ⟨z, hn⟩ : ∃ z, (Sem.store m y v k).run P w = (match w.cell? y with
      | some _ => if w.frozen? y then .halt z w else k.run P (w.setCell y v)
      | none => match w.farStore P y v (m == .atomic) with
        | .ok (w, _) => k.run P w
        | .error h => .halt h w) := by
      cases v <;> first | exact ⟨_, rfl⟩ | exact absurd (.inl ⟨_, rfl⟩) hone | exact absurd (.inr ⟨_, rfl⟩) hone
    rw [hn] at hr
    cases hc : w.cell? y with
    | none =>
      obtain ⟨e, he⟩ := hw.noCellS ha P v (m == .atomic)
      simp only [hc, he] at hr
      exact absurd hr (by simp)
    | some u =>
      simp only [hc] at hr
      split at hr
      · exact absurd hr (by simp)
      · obtain ⟨h1, h2⟩ := hw.store ha hv
        have e : (w.setCell y v).heap.size = w.heap.size := by simp [World.setCell]
        obtain ⟨q1, q2⟩ := ih hk hp.2 h1 (by rw [e]; exact hb) hr
        refine ⟨by omega, fun b hlt => ?_⟩
        rw [q2 b hlt]
        unfold World.setCell
        dsimp only
        rw [Array.getElem?_modify, if_neg]
        intro e2
        have := hp.1
        omega
  | new o k ih =>
    cases t <;> try (exfalso; simp [SR] at h; done)
    obtain ⟨ho, hk⟩ := h
    simp only [Sem.run] at hr
    obtain ⟨h1, h2⟩ := hw.new ho
    have e : ({ w with heap := w.heap.push o } : World).heap.size = w.heap.size + 1 := by simp
    obtain ⟨q1, q2⟩ := ih _ (hk _ _ _ h2.le (.inr ⟨rfl, rfl⟩) hw.pos) (hp _) h1 (by omega) hr
    refine ⟨by omega, fun b hlt => ?_⟩
    rw [q2 b hlt]
    show (w.heap.push o)[b]? = _
    rw [Array.getElem?_push, if_neg (by omega)]
  | shape r k ih =>
    cases t <;> try (exfalso; simp [SR] at h; done)
    simp only [Sem.run] at hr
    exact ih _ (h.2 _) (hp _) hw hb hr
  | freeze y n k ih => exact hp.elim
  | frozen y k ih =>
    cases t <;> try (exfalso; simp [SR] at h; done)
    simp only [Sem.run] at hr
    exact ih _ (h.2 _) (hp _) hw hb hr
  | getObj r k ih =>
    cases t <;> try (exfalso; simp [SR] at h; done)
    obtain ⟨hr0, hk⟩ := h
    simp only [Sem.run] at hr
    rcases hw.row hr0 with ⟨xs, ys, e, f, h1, h2, h3⟩ | ⟨o, o', h1, h2, ho, d1, d2⟩
    · rw [h1] at hr
      exact absurd hr (by simp)
    · rw [h1] at hr
      have q := hk o o' ho
      cases o <;> cases o' <;> first
        | (exfalso; simp [odd] at d1; done)
        | (exfalso; simp [odd] at d2; done)
        | exact ih _ q (hp _) hw hb hr
  | setObj r o k ih =>
    cases t <;> try (exfalso; simp [SR] at h; done)
    obtain ⟨hst, hr0, ho, hk⟩ := h
    simp only [Sem.run] at hr
    rcases hw.row hr0 with ⟨xs, ys, e, f, h1, h2, h3⟩ | ⟨p, p', h1, h2, hpp, d1, d2⟩
    · rw [h1] at hr
      exact absurd hr (by simp)
    · obtain ⟨g1, g2⟩ := hw.setObj hr0 ho
      have hsame : w.heap.size ≤ ({ w with heap := w.heap.setIfInBounds r o } : World).heap.size := by simp
      rw [h1] at hr
      have fin : k.run P { w with heap := w.heap.setIfInBounds r o } = .ok x w1 → w.heap.size ≤ w1.heap.size ∧ ∀ b, b < base → w1.heap[b]? = w.heap[b]? := by
        intro hr
        obtain ⟨q1, q2⟩ := ih hk hp.2 g1 (by simpa using hb) hr
        refine ⟨Nat.le_trans hsame q1, fun b hlt => (q2 b hlt).trans ?_⟩
        show (w.heap.setIfInBounds r o)[b]? = _
        rw [Array.getElem?_setIfInBounds, if_neg]
        have := hp.1
        omega
      cases p <;> first
        | (exfalso; simp [odd] at d1; done)
        | exact fin hr
  | choose q k ih =>
    cases t <;> try (exfalso; simp [SR] at h; done)
    obtain ⟨hq, hk⟩ := h
    simp only [Sem.run] at hr
    split at hr
    · exact ih _ (hk _ 0) (hp _) hw hb hr
    · have q := ih _ (hk _ 0) (hp _) (hw.heap (v := { w with drawn := w.drawn + 1 }) (v' := w') rfl rfl) hb hr
      exact q
  | sys c k ih => exact hp.elim
  | program k ih =>
    cases t <;> try (exfalso; simp [SR] at h; done)
    simp only [Sem.run] at hr
    exact ih _ h hp hw hb hr
  | mark m k ih =>
    cases t <;> try (exfalso; simp [SR] at h; done)
    simp only [Sem.run] at hr
    exact ih h hp hw hb hr
  | halt hh =>
    simp only [Sem.run] at hr
    exact absurd hr (by simp)

theorem puts_storeCells {a : Addr} (h : base ≤ a.block) : ∀ (xs : List Value) (i : Nat), Puts P base (Go.storeCells a xs i)
  | [], i => trivial
  | x :: xs, i => ⟨above_add h, puts_storeCells h xs (i + 1)⟩

theorem puts_storeAt {t : TypeId} {v x : Value} (h : above base v) : Puts P base (Instr.storeAt t v x) := by
  cases v <;> first | exact trivial | skip
  rename_i a
  cases a with
  | none => exact trivial
  | some a =>
    show Puts P base (Go.storeVar t a x)
    refine Puts.bind (Gives.puts (gives_size t)) fun n => ?_
    split
    · exact trivial
    · exact puts_storeCells h _ 0

theorem puts_next {x : Value} {t : TypeId} (h : above base x) : Puts P base (Instr.next x true t) := by
  cases x <;> first | exact trivial | skip
  rename_i a
  cases a with
  | none => exact trivial
  | some a =>
    obtain ⟨r, off, spot⟩ := a
    cases off with
    | succ n => exact trivial
    | zero =>
      intro o
      cases o <;> first | exact trivial | (rename_i m _ _ _; cases m <;> exact trivial) | skip
      rename_i s p
      show Puts P base (if p < s.size then _ else _)
      split
      · exact ⟨h, trivial⟩
      · exact trivial

theorem puts_copy {ts : Array TypeId} {t : TypeId} {xs : Array Value} (h : above base (xs.getD 0 undef)) : Puts P base (Builtin.copy_ ts t xs) := by
  unfold Builtin.copy_
  cases ht : ts[0]? with
  | none => exact trivial
  | some t0 =>
    cases hx : xs[0]? with
    | none => exact trivial
    | some x =>
      have hx' : above base x := by rw [Array.getD_eq_getD_getElem?, hx] at h; exact h
      cases hx1 : xs[1]? with
      | none => exact trivial
      | some x1 =>
        refine Puts.bind (Gives.puts (gives_under _)) fun d => ?_
        cases d <;> first | exact trivial | skip
        cases x <;> first | exact trivial | skip
        rename_i a _ _
        refine Puts.bind ?_ fun n => ?_
        · cases x1 <;> exact trivial
        refine Puts.bind (Gives.puts (gives_size _)) fun k => ?_
        refine Puts.bind ?_ fun cs => ?_
        · cases x1 <;> first | exact trivial | skip
          rename_i a1 _ _
          cases a1 with
          | none => exact trivial
          | some a1 =>
            show Puts P base (loadCellsFrom _ 0 _ #[])
            generalize (#[] : Array Value) = acc
            generalize 0 = i
            generalize _ * k = m
            induction m generalizing i acc with
            | zero => exact trivial
            | succ m ih => intro v; exact ih _ _
        · cases a with
          | none => exact trivial
          | some a => exact Puts.bind (puts_storeCells hx' _ 0) fun _ => trivial

/-- A slot of one's own memory, or a literal that is no place. -/
def isFT (FT : Nat → Bool) : Operand → Bool
  | .tmp t => FT t
  | .const (.pointer (some _)) => false
  | .const (.slice (some _) _ _) => false
  | .const _ => true
  | _ => false

/-- An operation that yields a place of one's own. -/
def yieldsFT (FT : Nat → Bool) : Op → Bool
  | .alloc _ | .box .. | .makeSlice .. | .buildSlice .. | .range .. => true
  | .move x | .assign x => isFT FT x
  | .pick _ x y => isFT FT x && isFT FT y
  | .fieldAddr _ x _ | .indexAddr _ x _ => isFT FT x
  | .slice _ x _ _ _ => isFT FT x
  | .nilCheck x => isFT FT x
  | _ => false

/-- A call that hands back a place of one's own where it is handed places of one's own. -/
def callFT (P : Program) (GT : FuncId → Nat → Bool) (FT : Nat → Bool) : Op → Bool
  | .call { callee := .value (.func g), args, .. } => (match P.funcs[g]? with | some fn => (match fn.results.toList with | [.tmp r] => GT g r | _ => false) | none => false) &&
      (List.range args.size).all fun i => !GT g i || (match args[i]? with | some x => isFT FT x | none => true)
  | _ => false

/-- Stores go to one's own memory; FG: the parameters through which a function stores. -/
def okKeep (P : Program) (GT : FuncId → Nat → Bool) (FT : Nat → Bool) (FG : FuncId → Nat → Bool) (o : Oper) : Bool :=
  (match o.dst with | some d => !FT d || yieldsFT FT o.op || callFT P GT FT o.op | none => true) &&
  (match o.op with
    | .store _ x _ => isFT FT x
    | .next x _ => isFT FT x
    | .call { callee := .builtin .copy, args, .. } => (match args[0]? with | some x => isFT FT x | none => true)
    | .call { callee := .value (.func g), args, .. } => (List.range args.size).all fun i => !FG g i || (match args[i]? with | some x => isFT FT x | none => true)
    | _ => true)

theorem isFT_spec {FT : Nat → Bool} {a : Act} (hf : Fresh FT base a) {x : Operand} (h : isFT FT x = true) : above base (a.eval x) := by
  cases x with
  | tmp t => exact hf t h
  | const v =>
    show above base v
    cases v <;> first | exact trivial | skip
    · rename_i c; cases c <;> first | exact trivial | (exfalso; simp [isFT] at h; done)
    · rename_i c _ _; cases c <;> first | exact trivial | (exfalso; simp [isFT] at h; done)
  | global g => exact absurd h (by simp [isFT])
  | func f => exact trivial

theorem run_val_inv {s : Sem Value} {w w1 : World} {x : Value} (h : (do pure (Next.value (← s)) : Sem Next).run P w = .ok (.value x) w1) : s.run P w = .ok x w1 := by
  rw [Sem.run_bind] at h
  cases hs : s.run P w with
  | ok y w2 =>
    rw [hs] at h
    simp only [Result.andThen_ok, Sem.run_pure, Result.ok.injEq, Next.value.injEq] at h
    rw [h.1, h.2]
  | halt e w2 => rw [hs] at h; exact absurd h (by simp)

theorem yields_above {FT : Nat → Bool} {a : Act} {o : Oper} {w w1 : World} {x : Value} (hf : Fresh FT base a) (hb : base ≤ w.heap.size) (hy : yieldsFT FT o.op = true) (hnf : ∀ y, o.op = .nilCheck y → ∀ f b c, a.eval y = .func f b c → b = #[]) (hr : (execOp a.eval o).run P w = .ok (.value x) w1) : above base x := by
  obtain ⟨dst, op, type, pos, after, guard⟩ := o
  cases op <;> first | (exfalso; simp [yieldsFT] at hy; done) | skip
  · -- move
    cases hr
    exact isFT_spec hf hy
  · cases hr
    exact isFT_spec hf hy
  · -- pick
    simp only [yieldsFT, Bool.and_eq_true] at hy
    rename_i c p q
    have : Gives P base (fun n => ∀ x, n = Next.value x → above base x) (do pure (Next.value (if ← asBool (a.eval c) then a.eval p else a.eval q)) : Sem Next) := by
      refine Gives.bind (Q1 := fun _ => True) ?_ fun t _ => ?_
      · cases a.eval c <;> exact trivial
      · intro x hx
        cases hx
        split
        · exact isFT_spec hf hy.1
        · exact isFT_spec hf hy.2
    exact Gives.run this hb hr x rfl
  · exact Gives.run (gives_alloc _) hb (run_val_inv hr)
  · exact Gives.run (gives_box _ _) hb (run_val_inv hr)
  · exact Gives.run (gives_buildSlice _ _ _) hb (run_val_inv hr)
  · -- nilCheck
    rename_i y
    have hy' := isFT_spec hf (x := y) hy
    have hn := hnf y rfl
    revert hr
    show (match a.eval y with | .pointer none | .nilIface | .nilFunc => runtimePanic .nilDeref | .func (.method name) first captured => _ | x => pure (.value x) : Sem Next).run P w = _ → _
    revert hy' hn
    generalize a.eval y = v
    intro hy' hn hr
    cases v <;> first
      | (cases hr; exact hy')
      | (rename_i c; cases c <;> first | (exfalso; cases hr; done) | (cases hr; exact hy'))
      | (exfalso; cases hr; done)
      | (rename_i c d e
         have e1 := hn c d e rfl
         subst e1
         cases c <;> (cases hr; exact trivial))
  · exact Gives.run (gives_makeSlice _ _ _) hb (run_val_inv hr)
  · -- slice
    rename_i t y l h m
    have hy' := isFT_spec hf (x := y) hy
    have := run_val_inv hr
    refine Gives.run (Q := above base) ?_ hb this
    refine Gives.bind (gives_under _) fun d _ => ?_
    cases d <;> first
      | exact gives_slice hy'
      | (refine Gives.bind (gives_sure hy') fun b hb => ?_
         refine Gives.bind (gives_sliceBounds _ _ _ _ _ _) fun p _ => ?_
         refine Gives.bind (gives_size _) fun n _ => ?_
         show base ≤ Addr.block (if _ then _ else _)
         split
         · exact hb
         · exact above_add hb)
  · exact Gives.run (gives_fieldAt (isFT_spec hf hy)) hb (run_val_inv hr)
  · exact Gives.run (gives_indexAt (isFT_spec hf hy)) hb (run_val_inv hr)
  · exact Gives.run (gives_range _ _) hb (run_val_inv hr)
end

/-- What an operation leaves alone. -/
theorem op_keeps {P : Program} {TT : Nat → Bool} {E : TypeId → Bool} {FT : Nat → Bool} {FG GT : FuncId → Nat → Bool} {a a' : Act} {β : Rel} {w w' w1 : World} {o : Oper} {n : Next} {base : Nat} (hG : P.globals.size ≤ 1) (hE : ∀ t, E t = true → EqOk P t)
    (hok : okOp2 P TT E o = true) (hk : okKeep P GT FT FG o = true) (ha : AR TT β a a') (hw : W β w w') (hf : Fresh FT base a) (hb : base ≤ w.heap.size) (hr : (execOp a.eval o).run P w = .ok n w1) :
    w.heap.size ≤ w1.heap.size ∧ (∀ b, b < base → w1.heap[b]? = w.heap[b]?) ∧ (∀ x d, n = .value x → o.dst = some d → FT d = true → above base x) := by
  have hsr := SR.exec2 hG hE hok ha
  simp only [okKeep, Bool.and_eq_true] at hk
  obtain ⟨k1, k2⟩ := hk
  have h3 : ∀ x d, n = .value x → o.dst = some d → FT d = true → above base x := by
    intro x d hn hd ht
    subst hn
    rw [hd] at k1
    simp only [ht, Bool.not_true, Bool.false_or, Bool.or_eq_true] at k1
    rcases k1 with k1 | k1
    · refine yields_above hf hb k1 ?_ hr
      intro y hy f b c hv
      have hok1 : okArg TT y = true := by
        obtain ⟨dst, op, type, pos, after, guard⟩ := o
        dsimp only at hy
        subst hy
        simpa [okOp2, okOp, tupMove] using hok
      rcases one_kinds (ha.arg hok1) with ⟨b, e, e'⟩ | ⟨k, n, e, e'⟩ | ⟨s, e, e'⟩ | ⟨c, c', e, e', hc⟩ | ⟨c, c', n, d, e, e', hc⟩ | ⟨f, e, e'⟩ | ⟨e, e'⟩ | ⟨c, c', e, e', hc⟩ <;> rw [hv] at e <;> cases e
      rfl
    · exfalso
      obtain ⟨dst, op, type, pos, after, guard⟩ := o
      cases op <;> first | (exfalso; simp [callFT] at k1; done) | skip
      rename_i c
      obtain ⟨callee, args, ts⟩ := c
      cases callee <;> first | (exfalso; simp [callFT] at k1; done) | skip
      rename_i g
      cases g <;> first | (exfalso; simp [callFT] at k1; done) | skip
      rename_i g
      have hcc : okOp P TT E { dst := dst, op := .call { callee := .value (.func g), args := args, argTypes := ts }, type := type, pos := pos, after := after, guard := guard } = true := by simpa [okOp2, tupMove] using hok
      simp only [okOp, Bool.and_eq_true] at hcc
      obtain ⟨h1, h2⟩ := hcc
      cases hfn : P.funcs[g]? with
      | none => rw [hfn] at h2; exact absurd h2 (by simp)
      | some fn =>
        rw [hfn] at h2
        simp only [Bool.and_eq_true, bne_iff_ne, ne_eq] at h2
        have hn : (fn.name == "runtime.NumGoroutine") = false := by simpa using h2.2
        have hb : fn.body.isNone = false := by
          cases hbb : fn.body with
          | none => rw [hbb] at h2; exact absurd h2.1 (by simp)
          | some b => rfl
        have hc : ∀ xs : Array Value, (callFunc g xs).run P w = .ok (.enter g xs) w := by
          intro xs
          show (match P.funcs[g]? with | none => _ | some fn => _ : Sem Next).run P w = _
          rw [hfn]
          dsimp only
          rw [hn, hb]
          rfl
        have e : (execOp a.eval { dst := dst, op := .call { callee := .value (.func g), args := args, argTypes := ts }, type := type, pos := pos, after := after, guard := guard }).run P w = .ok (.enter g (#[] ++ args.map a.eval ++ #[])) w := hc _
        rw [e] at hr
        cases hr
  by_cases hst : storing o = true
  · have hp : Puts P base (execOp a.eval o) := by
      obtain ⟨dst, op, type, pos, after, guard⟩ := o
      cases op <;> first | (exfalso; simp [storing] at hst; done) | skip
      · exact Puts.bind (puts_storeAt (isFT_spec hf k2)) fun _ => trivial
      · rename_i x isS
        cases isS with
        | false => exact absurd hok (by simp [okOp2, okOp, tupMove])
        | true => exact Puts.bind (puts_next (isFT_spec hf k2)) fun _ => trivial
      · rename_i c
        obtain ⟨callee, args, ts⟩ := c
        cases callee <;> first | (exfalso; simp [storing] at hst; done) | skip
        rename_i bt
        cases bt <;> first | (exfalso; simp [storing] at hst; done) | skip
        show Puts P base (Builtin.copy_ ts type (args.map a.eval) >>= fun x => pure (Next.value x))
        refine Puts.bind (puts_copy ?_) fun _ => trivial
        rw [Array.getD_eq_getD_getElem?, Array.getElem?_map]
        dsimp only at k2
        cases hx : args[0]? with
        | none => exact trivial
        | some x =>
          rw [hx] at k2
          exact isFT_spec hf k2
    obtain ⟨q1, q2⟩ := Puts.run hsr hp hw hb hr
    exact ⟨q1, q2, h3⟩
  · have e : storing o = false := by simpa using hst
    rw [e] at hsr
    obtain ⟨q1, q2⟩ := SR.still hsr hw hr
    exact ⟨q1, fun b hlt => q2 b (by omega), h3⟩
end Go.Tw
