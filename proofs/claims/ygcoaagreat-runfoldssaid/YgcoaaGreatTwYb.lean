/-
  Two runs of one text: operations that do not look at one block.
-/
import Derived.Test.YgcoaaGreatTwY
set_option linter.unusedVariables false
set_option linter.unusedSimpArgs false
namespace Go.Tw

/-- It leaves memory alone and loads nothing from this block. -/
def Away (P : Program) (B : Nat) {α : Type} : Sem α → Prop
  | .pure _ => True
  | .halt _ => True
  | .load _ a k => a.block ≠ B ∧ ∀ v, Away P B (k v)
  | .shape _ k => ∀ s, Away P B (k s)
  | .frozen _ k => ∀ s, Away P B (k s)
  | .getObj _ k => ∀ s, Away P B (k s)
  | .choose _ k => ∀ n, Gives P 0 (fun _ => False) (k n)
  | .program k => Away P B (k P)
  | .mark _ k => Away P B k
  | _ => False

/-- Two memories that differ in the cells of one block at most. -/
structure Diff (B : Nat) (w w2 : World) : Prop where
  size : w2.heap.size = w.heap.size
  other : ∀ b : Nat, b ≠ B → w2.heap[b]? = w.heap[b]?
  row : w2.heap[B]? = w.heap[B]? ∨ ∃ c c' e f, w.heap[B]? = some (.cells c e f) ∧ w2.heap[B]? = some (.cells c' e f) ∧ c.size = c'.size

section
variable {P : Program} {B : Nat} {α γ : Type}

theorem Diff.cell {w w2 : World} (h : Diff B w w2) {a : Addr} (ha : a.block ≠ B) : w2.cell? a = w.cell? a := by
  unfold World.cell?
  rw [h.other _ ha]

theorem Diff.shape {w w2 : World} (h : Diff B w w2) (r : Nat) : w2.shape? r = w.shape? r := by
  unfold World.shape?
  by_cases e : r = B
  · subst e
    rcases h.row with h0 | ⟨c, c', e, f, h1, h2, h3⟩
    · rw [h0]
    · rw [h1, h2]
      simp [h3]
  · rw [h.other _ e]

theorem Diff.frozen {w w2 : World} (h : Diff B w w2) (a : Addr) : w2.frozen? a = w.frozen? a := by
  unfold World.frozen?
  by_cases e : a.block = B
  · rcases h.row with h0 | ⟨c, c', e', f, h1, h2, h3⟩
    · rw [e, h0]
    · rw [e, h1, h2]
  · rw [h.other _ e]

theorem Diff.refl (B : Nat) (w : World) : Diff B w w := ⟨rfl, fun _ _ => rfl, .inl rfl⟩

theorem Diff.trans {w w2 w3 : World} (h : Diff B w w2) (h' : Diff B w2 w3) : Diff B w w3 := by
  refine ⟨h'.size.trans h.size, fun b hb => (h'.other b hb).trans (h.other b hb), ?_⟩
  rcases h.row with h0 | ⟨c, c', e, f, h1, h2, h3⟩
  · rcases h'.row with g0 | ⟨c, c', e, f, g1, g2, g3⟩
    · exact .inl (g0.trans h0)
    · exact .inr ⟨c, c', e, f, by rw [← h0]; exact g1, g2, g3⟩
  · rcases h'.row with g0 | ⟨d, d', e', f', g1, g2, g3⟩
    · exact .inr ⟨c, c', e, f, h1, by rw [g0]; exact h2, h3⟩
    · rw [h2] at g1
      cases g1
      exact .inr ⟨c, d', e, f, h1, g2, h3.trans g3⟩

theorem Diff.setCell {w : World} {a : Addr} (ha : a.block = B) (v : Value) : Diff B w (w.setCell a v) := by
  unfold World.setCell
  refine ⟨by simp, fun b hb => ?_, ?_⟩
  · show (w.heap.modify a.block _)[b]? = _
    rw [Array.getElem?_modify, if_neg (by rw [ha]; exact Ne.symm hb)]
  · show (w.heap.modify a.block _)[B]? = _ ∨ _
    rw [Array.getElem?_modify, if_pos ha]
    cases hx : w.heap[B]? with
    | none => exact .inl rfl
    | some o =>
      cases o with
      | cells c e f =>
        refine .inr ⟨c, _, e, f, rfl, rfl, ?_⟩
        split <;> simp
      | _ => exact .inl rfl

/-- It stores in this block alone. -/
def Only (P : Program) (B : Nat) {α : Type} : Sem α → Prop
  | .pure _ => True
  | .halt _ => True
  | .load _ a k => ∀ v, Only P B (k v)
  | .store _ a _ k => a.block = B ∧ Only P B k
  | .program k => Only P B (k P)
  | .mark _ k => Only P B k
  | _ => False

theorem Only.run {st : Bool} {R : Rel → α → α → Prop} {s t : Sem α} {β : Rel} {w w' : World} (h : SR st P R β s t) (ho : Only P B t) (hw : W β w w') {x : α} {w1 : World} (hr : s.run P w = .ok x w1) :
    ∃ y w1', t.run P w' = .ok y w1' ∧ Diff B w' w1' := by
  induction s generalizing t w w' with
  | pure y =>
    cases t <;> try (exfalso; simp [SR] at h; done)
    exact ⟨_, _, rfl, Diff.refl _ _⟩
  | load m y k ih =>
    cases t <;> try (exfalso; simp [SR] at h; done)
    obtain ⟨rfl, hadr, hk⟩ := h
    simp only [Sem.run] at hr ⊢
    cases hc : w.cell? y with
    | none =>
      rw [hc] at hr
      obtain ⟨e, he⟩ := hw.noCell hadr P (m == .atomic)
      simp only [he] at hr
      exact absurd hr (by simp)
    | some v =>
      rw [hc] at hr
      obtain ⟨v', hv', hvv⟩ := hw.cell hadr hc
      rw [hv']
      exact ih v (hk v v' hvv) (ho _) hw hr
  | store m x v k ih =>
    by_cases hone : (∃ c, v = .agg c) ∨ (∃ c, v = .tuple c)
    · rcases hone with ⟨c, rfl⟩ | ⟨c, rfl⟩ <;> exact absurd hr (by simp [Sem.run])
    have h' : ∃ m' x' v' k', t = .store m' x' v' k' ∧ st = true ∧ adr β x x' ∧ cel β v v' ∧ SR st P R β k k' := by
      cases t <;> cases v <;> first
        | (exfalso; simp [SR] at h; done)
        | exact absurd (.inl ⟨_, rfl⟩) hone
        | exact absurd (.inr ⟨_, rfl⟩) hone
        | exact ⟨_, _, _, _, rfl, h⟩
    obtain ⟨m', x', v', k', rfl, hst, ha, hv, hk⟩ := h'
    obtain ⟨z, hn⟩ : ∃ z, (Sem.store m x v k).run P w = (match w.cell? x with
      | some _ => if w.frozen? x then .halt z w else k.run P (w.setCell x v)
      | none => match w.farStore P x v (m == .atomic) with
        | .ok (w, _) => k.run P w
        | .error h => .halt h w) := by
      cases v <;> first | exact ⟨_, rfl⟩ | exact absurd (.inl ⟨_, rfl⟩) hone | exact absurd (.inr ⟨_, rfl⟩) hone
    obtain ⟨z', hn'⟩ : ∃ z', (Sem.store m' x' v' k').run P w' = (match w'.cell? x' with
      | some _ => if w'.frozen? x' then .halt z' w' else k'.run P (w'.setCell x' v')
      | none => match w'.farStore P x' v' (m' == .atomic) with
        | .ok (w, _) => k'.run P w
        | .error h => .halt h w') := by
      cases v' <;> first | exact ⟨_, rfl⟩ | (exfalso; revert hv; cases v <;> first | exact absurd (.inr ⟨_, rfl⟩) hone | simp [cel])
    rw [hn] at hr
    rw [hn']
    cases hc : w.cell? x with
    | none =>
      obtain ⟨e, he⟩ := hw.noCellS ha P v (m == .atomic)
      simp only [hc, he] at hr
      exact absurd hr (by simp)
    | some u =>
      obtain ⟨u', hu', _⟩ := hw.cell ha hc
      simp only [hc] at hr
      simp only [hu', hw.frozen ha]
      split at hr
      · exact absurd hr (by simp)
      · rename_i hf
        simp only [hf]
        obtain ⟨h1, h2⟩ := hw.store ha hv
        obtain ⟨y, w1', r1, r2⟩ := ih hk ho.2 h1 hr
        exact ⟨y, w1', r1, (Diff.setCell ho.1 v').trans r2⟩
  | program k ih =>
    cases t <;> try (exfalso; simp [SR] at h; done)
    simp only [Sem.run] at hr ⊢
    exact ih _ h ho hw hr
  | mark m k ih =>
    cases t <;> try (exfalso; simp [SR] at h; done)
    simp only [Sem.run] at hr ⊢
    exact ih h ho hw hr
  | halt hh =>
    simp only [Sem.run] at hr
    exact absurd hr (by simp)
  | sys c k ih => (exfalso; cases t <;> simp [SR] at h)
  | _ => cases t <;> first | (exfalso; simp [SR] at h; done) | exact ho.elim

theorem Only.bind {s : Sem α} {f : α → Sem γ} (h : Only P B s) (hf : ∀ x, Only P B (f x)) : Only P B (s >>= f) := by
  show Only P B (s.bind f)
  induction s with
  | pure y => exact hf y
  | halt e => exact trivial
  | load m a k ih => exact fun v => ih v (h v)
  | store m a v k ih => exact ⟨h.1, ih h.2⟩
  | program k ih => exact ih _ h
  | mark m k ih => exact ih h
  | _ => exact h.elim

theorem only_cells {a : Addr} (ha : a.block = B) : ∀ (vs : List Value) (i : Nat), Only P B (storeCells a vs i)
  | [], _ => trivial
  | v :: vs, i => ⟨by rw [blk_add]; exact ha, only_cells ha vs (i + 1)⟩

theorem only_storeAt {t : TypeId} {x : Value} {a : Addr} (ha : a.block = B) : Only P B (Instr.storeAt t (.pointer (some a)) x) := by
  show Only P B (storeVar t a x)
  refine Only.bind (Only.bind (?_ : Only P B (typeInfo t)) fun _ => trivial) fun n => ?_
  · show Only P B (match P.info? t with | some i => pure i | none => stuck "no such type")
    cases P.info? t <;> exact trivial
  · dsimp only
    split
    · exact trivial
    · exact only_cells ha _ 0

theorem Away.run {st : Bool} {R : Rel → α → α → Prop} {s t : Sem α} {β : Rel} {w w' w2 : World} (h : SR st P R β s t) (ha : Away P B t) (hw : W β w w') (hd : Diff B w' w2) {x : α} {w1 : World} (hr : s.run P w = .ok x w1) :
    w1 = w ∧ ∃ y, t.run P w' = .ok y w' ∧ t.run P w2 = .ok y w2 ∧ R β x y := by
  induction s generalizing t with
  | pure y =>
    cases t <;> try (exfalso; simp [SR] at h; done)
    simp only [Sem.run, Result.ok.injEq] at hr
    obtain ⟨rfl, rfl⟩ := hr
    exact ⟨rfl, _, rfl, rfl, h⟩
  | load m y k ih =>
    cases t <;> try (exfalso; simp [SR] at h; done)
    obtain ⟨rfl, hadr, hk⟩ := h
    simp only [Sem.run] at hr ⊢
    cases hc : w.cell? y with
    | none =>
      rw [hc] at hr
      obtain ⟨e, he⟩ := hw.noCell hadr P (m == .atomic)
      simp only [he] at hr
      exact absurd hr (by simp)
    | some v =>
      rw [hc] at hr
      obtain ⟨v', hv', hvv⟩ := hw.cell hadr hc
      rw [hd.cell ha.1, hv']
      exact ih v (hk v v' hvv) (ha.2 _) hr
  | store m y v k ih =>
    by_cases hone : (∃ c, v = .agg c) ∨ (∃ c, v = .tuple c)
    · rcases hone with ⟨c, rfl⟩ | ⟨c, rfl⟩ <;> exact absurd hr (by simp [Sem.run])
    · exfalso
      cases t <;> cases v <;> first
        | (simp [SR] at h; done)
        | exact ha
        | exact absurd (.inl ⟨_, rfl⟩) hone
        | exact absurd (.inr ⟨_, rfl⟩) hone
  | new o k ih =>
    cases t <;> first | (exfalso; simp [SR] at h; done) | exact ha.elim
  | shape r k ih =>
    cases t <;> try (exfalso; simp [SR] at h; done)
    simp only [Sem.run] at hr ⊢
    rw [hd.shape, hw.shape h.1]
    exact ih _ (h.2 _) (ha _) hr
  | freeze y n k ih => cases t <;> first | (exfalso; simp [SR] at h; done) | exact ha.elim
  | frozen y k ih =>
    cases t <;> try (exfalso; simp [SR] at h; done)
    simp only [Sem.run] at hr ⊢
    rw [hd.frozen, hw.frozen h.1]
    exact ih _ (h.2 _) (ha _) hr
  | getObj r k ih =>
    cases t <;> try (exfalso; simp [SR] at h; done)
    rename_i r' k'
    obtain ⟨hr0, hk⟩ := h
    simp only [Sem.run] at hr ⊢
    rcases hw.row hr0 with ⟨xs, ys, e, f, h1, h2, h3⟩ | ⟨o, o', h1, h2, ho, d1, d2⟩
    · rw [h1] at hr
      exact absurd hr (by simp)
    · have hne : w2.heap[r']? = w'.heap[r']? := by
        by_cases e : r' = B
        · subst e
          rcases hd.row with g0 | ⟨c, c', e', f, g1, _, _⟩
          · exact g0
          · rw [h2] at g1
            cases g1
            exact absurd d2 (by simp [odd])
        · exact hd.other _ e
      rw [h1] at hr
      rw [hne, h2]
      have q := hk o o' ho
      have q2 := ha o'
      cases o <;> cases o' <;> first
        | (exfalso; simp [odd] at d1; done)
        | (exfalso; simp [odd] at d2; done)
        | exact ih _ q q2 hr
  | setObj r o k ih => cases t <;> first | (exfalso; simp [SR] at h; done) | exact ha.elim
  | choose q k ih =>
    cases t <;> try (exfalso; simp [SR] at h; done)
    obtain ⟨hq, hk⟩ := h
    exfalso
    have dead : ∀ n, ∀ v v1 : World, ∀ y, v.heap = w.heap → (k n).run P v = .ok y v1 → False := by
      intro n v v1 y hv hy
      obtain ⟨β', b, w1', r1, _, _, _⟩ := SR.run (hk n 0) (hw.heap (v := v) (v' := w') hv rfl) hy
      exact Gives.run (ha 0) (Nat.zero_le _) r1
    simp only [Sem.run] at hr
    split at hr
    · exact dead _ _ _ _ rfl hr
    · exact dead _ { w with drawn := w.drawn + 1 } _ _ rfl hr
  | sys c k ih => (exfalso; cases t <;> simp [SR] at h)
  | program k ih =>
    cases t <;> try (exfalso; simp [SR] at h; done)
    simp only [Sem.run] at hr ⊢
    exact ih _ h ha hr
  | mark m k ih =>
    cases t <;> try (exfalso; simp [SR] at h; done)
    simp only [Sem.run] at hr ⊢
    exact ih h ha hr
  | halt hh =>
    simp only [Sem.run] at hr
    exact absurd hr (by simp)

theorem Away.bind {s : Sem α} {f : α → Sem γ} (h : Away P B s) (hf : ∀ x, Away P B (f x)) : Away P B (s >>= f) := by
  show Away P B (s.bind f)
  induction s with
  | pure y => exact hf y
  | halt e => exact trivial
  | load m a k ih => exact ⟨h.1, fun v => ih v (h.2 v)⟩
  | shape r k ih => exact fun v => ih v (h v)
  | frozen r k ih => exact fun v => ih v (h v)
  | getObj r k ih => exact fun v => ih v (h v)
  | choose q k ih =>
    intro n
    exact Gives.bind (Q1 := fun _ => False) (h n) fun _ hh => hh.elim
  | program k ih => exact ih _ h
  | mark m k ih => exact ih h
  | _ => exact h.elim

/-- What it gives, too. -/
theorem Away.bind' {Q : α → Prop} {s : Sem α} {f : α → Sem γ} (h : Away P B s) (hq : Gives P 0 Q s) (hf : ∀ x, Q x → Away P B (f x)) : Away P B (s >>= f) := by
  show Away P B (s.bind f)
  induction s with
  | pure y => exact hf y hq
  | halt e => exact trivial
  | load m a k ih => exact ⟨h.1, fun v => ih v (h.2 v) (hq v)⟩
  | shape r k ih => exact fun v => ih v (h v) (hq v)
  | frozen r k ih => exact fun v => ih v (h v) (hq v)
  | getObj r k ih => exact fun v => ih v (h v) (hq v)
  | choose q k ih =>
    intro n
    exact Gives.bind (Q1 := fun _ => False) (h n) fun _ hh => hh.elim
  | program k ih => exact ih _ h hq
  | mark m k ih => exact ih h hq
  | _ => exact h.elim

theorem Away.ite {c : Prop} [Decidable c] {s t : Sem α} (h1 : Away P B s) (h2 : Away P B t) : Away P B (if c then s else t) := by
  split
  · exact h1
  · exact h2

theorem aw_info (t : TypeId) : Away P B (typeInfo t) := by
  show Away P B (match P.info? t with | some i => pure i | none => stuck "no such type")
  cases P.info? t <;> exact trivial
theorem aw_under (t : TypeId) : Away P B (underlying t) := by
  show Away P B (match P.underlying t with | some i => pure i | none => stuck "no such type")
  cases P.underlying t <;> exact trivial
theorem aw_size (t : TypeId) : Away P B (sizeOf t) := Away.bind (aw_info t) fun _ => trivial
theorem aw_int (v : Value) : Away P B (asIntOf v) := by
  cases v <;> first | exact trivial | skip
  rename_i a
  cases a <;> exact trivial
theorem aw_pan (e : RuntimeError) (he : simpleErr e = true) : Away P B (runtimePanic e : Sem α) := by
  cases e <;> first | exact trivial | (exfalso; simp [simpleErr] at he; done)
theorem aw_bounds (k : IntKind) (x y : Int) (c : BoundsCode) : Away P B (boundsPanic k x y c : Sem α) := by
  unfold boundsPanic
  split
  · exact fun s => gives_pan (.bounds _ _ _ _) rfl
  · exact aw_pan (.bounds _ _ _ _) rfl
theorem aw_sure (v : Value) : Away P B (Instr.sureAddr v) := by
  cases v <;> first | exact trivial | skip
  rename_i a
  cases a <;> exact trivial
theorem aw_view (r : Nat) : Away P B (viewAt r) := by
  intro s
  cases s with
  | some s => exact trivial
  | none => intro o; cases o <;> exact trivial
theorem aw_byteOf (a : Addr) : Away P B (byteOf a) := by
  obtain ⟨b, o, s⟩ := a
  cases s with
  | some s => exact trivial
  | none =>
    refine Away.bind (s := noView _) (Away.bind (aw_view _) fun v => by cases v <;> exact trivial) fun _ => ?_
    intro s
    cases s with
    | none => exact trivial
    | some s =>
      obtain ⟨e, c⟩ := s
      show Away P B (if P.cellsOf e = 0 then _ else _)
      refine Away.ite trivial ?_
      split <;> exact trivial
theorem aw_number (r : Nat) : Away P B (numberAt r) := by
  intro s
  cases s with
  | some s => exact trivial
  | none => intro o; cases o <;> exact trivial
theorem aw_behind (a : Addr) : Away P B (behindNumber a) := Away.bind (aw_number _) fun _ => trivial

theorem aw_fieldAt {s : TypeId} {v : Value} {i : Nat} : Away P B (Instr.fieldAt s v i) := by
  refine Away.bind (aw_under s) fun d => ?_
  cases d <;> first | exact trivial | skip
  rename_i fs
  dsimp only
  cases fs[i]? with
  | none => exact trivial
  | some f =>
    refine Away.bind (aw_sure v) fun a => ?_
    refine Away.bind ?_ fun b => trivial
    refine Away.bind (aw_size _) fun n => ?_
    refine Away.ite ?_ trivial
    refine Away.bind (aw_byteOf _) fun n => ?_
    exact Away.bind (aw_byteOf _) fun m => trivial

theorem aw_indexAt {t : TypeId} {x i : Value} : Away P B (Instr.indexAt t x i) := by
  refine Away.bind (aw_int i) fun p => ?_
  obtain ⟨k, n⟩ := p
  refine Away.bind (aw_under t) fun d => ?_
  have rest : ∀ (u : Unsupported) (a : Option Addr) (len : Nat) (e : TypeId), Away P B (do
      let tiny := len ≤ 1 && (match ← underlying t with | .array .. => true | _ => false)
      match a with
      | some a =>
        if 0 ≤ n ∧ n < len then pure (.pointer (some (a.add (n.toNat * (← sizeOf e)))))
        else if tiny then unsupported u
        else boundsPanic k n len .index
      | none => boundsPanic k n 0 .index : Sem Value) := by
    intro u a len e
    refine Away.bind (aw_under t) fun d => ?_
    cases a with
    | none => exact aw_bounds _ _ _ _
    | some a => exact Away.ite (Away.bind (aw_size e) fun m => trivial) (Away.ite trivial (aw_bounds _ _ _ _))
  cases d <;> first | exact trivial | skip
  · cases x <;> first | exact trivial | skip
    rename_i a _ _
    exact rest _ a _ _
  · exact Away.bind (aw_sure x) fun a => rest _ (some a) _ _

theorem aw_loadFrom {a : Addr} (ha : a.block ≠ B) : ∀ (n i : Nat) (acc : Array Value), Away P B (loadCellsFrom a i n acc)
  | 0, i, acc => trivial
  | n + 1, i, acc => ⟨by rw [blk_add]; exact ha, fun v => aw_loadFrom ha n (i + 1) _⟩

theorem aw_loadAt {t : TypeId} {v : Value} (hv : blk v ≠ some B) : Away P B (Instr.loadAt t v) := by
  refine Away.bind' (aw_sure v) (near_sure v) fun a ha => ?_
  have hne : a.block ≠ B := fun e => hv (by rw [ha, e])
  refine Away.bind (Away.bind (aw_under t) fun d => by cases d <;> exact trivial) fun b => ?_
  cases b with
  | true => exact Away.bind (aw_size t) fun n => Away.bind (aw_loadFrom hne n 0 _) fun _ => trivial
  | false => exact ⟨hne, fun _ => trivial⟩

/-- An operation that can be told not to look at the block of colour q. -/
def blindOp (P : Program) (C : Nat → Nat) (q : Nat) (o : Oper) : Bool :=
  match o.op with
  | .move _ | .assign _ | .pick .. | .nilCheck _ | .extract (.tmp _) _ | .fieldAddr .. | .indexAddr .. => true
  | .load _ (.tmp x) => C x != 0 && C x != q && q != 0
  | .binOp .lss _ _ (.const (.int _ _)) _ => true
  | .binOp .eql t _ _ _ => (match P.underlying t with | some (.int _) => true | _ => false) && !P.eqGuardType P.depth t
  | _ => false

theorem aw_eqInt {t : TypeId} {k : IntKind} {x x' y y' : Value} {β : Rel} (hx : one β x x') (hy : one β y y') (ht : P.underlying t = some (.int k)) : Away P B (Op.equal t x' y') := by
  show Away P B (Op.equalIn (9999 + 1) t x' y')
  unfold Op.equalIn
  show Away P B (underlying t >>= _)
  have hu : ∀ (f : TypeDesc → Sem Bool), Away P B (f (.int k)) → Away P B (underlying t >>= f) := by
    intro f hf
    show Away P B ((match P.underlying t with | some i => pure i | none => stuck "no such type" : Sem TypeDesc) >>= f)
    rw [ht]
    exact hf
  refine hu _ ?_
  have ptr : ∀ a b : Addr, Away P B (do
      let (a, b) := ((← behindNumber a).1, (← behindNumber b).1)
      if a.block == b.block && a.block < (← program).globals.size then return (← byteOf a) == (← byteOf b)
      let .named "sync.copyChecker" _ := (← typeInfo t).desc | unsupported .addressObserved
      if a == b then pure true else unsupported .addressObserved : Sem Bool) := by
    intro a b
    refine Away.bind (aw_behind _) fun p => ?_
    refine Away.bind (aw_behind _) fun q => ?_
    refine Away.ite (Away.bind (aw_byteOf _) fun _ => Away.bind (aw_byteOf _) fun _ => trivial) ?_
    refine Away.bind (aw_info _) fun i => ?_
    split
    · split <;> exact trivial
    · exact trivial
  rcases one_kinds hx with ⟨b, rfl, rfl⟩ | ⟨k, (_ | n) | n, rfl, rfl⟩ | ⟨s, rfl, rfl⟩ | ⟨a, _ | a', rfl, rfl, ha⟩ | ⟨a, a', n, c, rfl, rfl, ha⟩ | ⟨f, rfl, rfl⟩ | ⟨rfl, rfl⟩ | ⟨a, a', rfl, rfl, ha⟩ <;>
  rcases one_kinds hy with ⟨b2, rfl, rfl⟩ | ⟨k2, (_ | n2) | n2, rfl, rfl⟩ | ⟨s2, rfl, rfl⟩ | ⟨c2, _ | c2', rfl, rfl, hc⟩ | ⟨c2, c2', n2, d2, rfl, rfl, hc⟩ | ⟨f2, rfl, rfl⟩ | ⟨rfl, rfl⟩ | ⟨c2, c2', rfl, rfl, hc⟩
  all_goals first
    | exact trivial
    | exact Away.ite trivial trivial
    | exact ptr _ _

/-- An operation that is blind to a block. -/
theorem blind_away {TT : Nat → Bool} {E : TypeId → Bool} {C : Nat → Nat} {q : Nat} {a a' : Act} {β : Rel} {o : Oper} (hok : okOp2 P TT E o = true) (hbl : blindOp P C q o = true) (h : AR TT β a a') (hld : ∀ t x, o.op = .load t (.tmp x) → blk (a'.tmps.getD x undef) ≠ some B) : Away P B (execOp a'.eval o) := by
  obtain ⟨dst, op, type, pos, after, guard⟩ := o
  have hv : ∀ s : Sem Value, Away P B s → Away P B (do pure (Next.value (← s)) : Sem Next) := fun s hs => Away.bind hs fun _ => trivial
  cases op <;> first | (exfalso; simp [blindOp] at hbl; done) | exact trivial | skip
  · -- pick
    rename_i c x y
    refine Away.bind ?_ fun t => trivial
    cases a'.eval c <;> exact trivial
  · -- load
    rename_i t x
    cases x <;> first | (exfalso; simp [blindOp] at hbl; done) | skip
    exact hv _ (aw_loadAt (hld t _ rfl))
  · -- nilCheck
    rename_i y
    have hok1 : okArg TT y = true := by simpa [okOp2, okOp, tupMove] using hok
    have h1 := h.arg hok1
    show Away P B (match a'.eval y with | .pointer none | .nilIface | .nilFunc => runtimePanic .nilDeref | .func (.method name) first captured => _ | x => pure (.value x) : Sem Next)
    rcases one_kinds h1 with ⟨b, _, e⟩ | ⟨k, n, _, e⟩ | ⟨s, _, e⟩ | ⟨c, _ | c', _, e, _⟩ | ⟨c, c', n, d, _, e, _⟩ | ⟨f, _, e⟩ | ⟨_, e⟩ | ⟨c, c', _, e, _⟩ <;> rw [e] <;> first | exact trivial | skip
    cases f <;> exact trivial
  · -- binOp
    rename_i op t x y z
    have hok1 : (okArg TT x = true ∧ okArg TT y = true) ∧ okEq P E op t x y = true := by simpa [okOp2, okOp, tupMove] using hok
    have hx := h.arg hok1.1.1
    have hy := h.arg hok1.1.2
    refine hv _ ?_
    cases op <;> first | (exfalso; simp [blindOp] at hbl; done) | skip
    · -- eql
      simp only [blindOp, Bool.and_eq_true, Bool.not_eq_true'] at hbl
      obtain ⟨hb1, hb2⟩ := hbl
      cases hu : P.underlying t with
      | none => rw [hu] at hb1; exact absurd hb1 (by simp)
      | some d =>
        rw [hu] at hb1
        cases d <;> first | (exfalso; simp at hb1; done) | skip
        refine Away.bind ?_ fun _ => ?_
        · rcases one_kinds hx with ⟨b, _, e⟩ | ⟨k, n, _, e⟩ | ⟨s, _, e⟩ | ⟨c, c', _, e, _⟩ | ⟨c, c', n, d, _, e, _⟩ | ⟨f, _, e⟩ | ⟨_, e⟩ | ⟨c, c', _, e, _⟩ <;> rw [e] <;> first | exact trivial | skip
          rcases one_kinds hy with ⟨b, _, e⟩ | ⟨k, n, _, e⟩ | ⟨s, _, e⟩ | ⟨c, c', _, e, _⟩ | ⟨c, c', n, d, _, e, _⟩ | ⟨f, _, e⟩ | ⟨_, e⟩ | ⟨c, c', _, e, _⟩ <;> rw [e] <;> first | exact trivial | skip
          show Away P B (if !(P.eqGuardType P.depth t) then _ else _)
          rw [hb2]
          exact trivial
        · have eq := aw_eqInt (B := B) hx hy hu
          revert eq
          rcases one_kinds hx with ⟨b, _, e⟩ | ⟨k, n, _, e⟩ | ⟨s, _, e⟩ | ⟨c, c', _, e, _⟩ | ⟨c, c', n, d, _, e, _⟩ | ⟨f, _, e⟩ | ⟨_, e⟩ | ⟨c, c', _, e, _⟩ <;>
          rcases one_kinds hy with ⟨b2, _, e2⟩ | ⟨k2, n2, _, e2⟩ | ⟨s2, _, e2⟩ | ⟨c2, c2', _, e2, _⟩ | ⟨c2, c2', n2, d2, _, e2, _⟩ | ⟨f2, _, e2⟩ | ⟨_, e2⟩ | ⟨c2, c2', _, e2, _⟩ <;> rw [e, e2] <;> intro eq <;> first
            | exact trivial
            | exact Away.ite trivial trivial
            | exact Away.bind eq fun _ => trivial
    · -- lss
      cases y <;> first | (exfalso; simp [blindOp] at hbl; done) | skip
      rename_i cv
      cases cv <;> first | (exfalso; simp [blindOp] at hbl; done) | skip
      refine Away.bind trivial fun _ => ?_
      rcases one_kinds hx with ⟨b, _, e⟩ | ⟨k, n, _, e⟩ | ⟨s, _, e⟩ | ⟨c, _ | c', _, e, _⟩ | ⟨c, c', n, d, _, e, _⟩ | ⟨f, _, e⟩ | ⟨_, e⟩ | ⟨c, c', _, e, _⟩ <;> rw [e] <;> first | exact trivial | exact Away.ite trivial trivial
  · exact hv _ aw_fieldAt
  · exact hv _ aw_indexAt
  · -- extract
    rename_i x i
    cases x <;> first | (exfalso; simp [blindOp] at hbl; done) | skip
    rename_i t
    refine hv _ ?_
    show Away P B (Instr.extract (a'.eval (.tmp t)) i)
    unfold Instr.extract
    split
    · split <;> exact trivial
    · exact trivial
end
end Go.Tw
