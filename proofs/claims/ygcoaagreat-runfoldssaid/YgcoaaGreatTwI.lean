/-
  Two runs of one text: the ways to stop.
-/
import Derived.Test.YgcoaaGreatTwH
set_option linter.unusedVariables false
set_option linter.unusedSimpArgs false
namespace Go.Tw

theorem noCell_ok (w : World) (a : Addr) (s : String) {o : Obj} (h : w.heap[a.block]? = some o) (ho : ∀ c e, o ≠ .pending c e) : okHalt (w.noCell a s) = true := by
  unfold World.noCell
  rw [h]
  cases o <;> first | rfl | exact absurd rfl (ho _ _)

theorem SR.runHalt {st : Bool} {α : Type} {R : Rel → α → α → Prop} {P : Program} {s t : Sem α} {β : Rel} {w w' : World} (h : SR st P R β s t) (hw : W β w w') {e : Halt} {w1 : World} (hr : s.run P w = .halt e w1) : okHalt e = true := by
  induction s generalizing t β w w' with
  | pure x => exact absurd hr (by simp [Sem.run])
  | load m x k ih =>
    cases t <;> try (exfalso; simp [SR] at h; done)
    obtain ⟨rfl, ha, hk⟩ := h
    simp only [Sem.run] at hr
    cases hc : w.cell? x with
    | none =>
      rw [hc] at hr
      have : ∃ e, w.farLoad P x (m == .atomic) = .error e ∧ okHalt e = true := by
        unfold World.farLoad
        rcases hw.row ha.1 with ⟨xs, ys, e, f, h1, h2, h3⟩ | ⟨o, o', h1, h2, ho, d1, d2⟩ <;> rw [h1]
        · exact ⟨_, rfl, noCell_ok _ _ _ h1 (by simp)⟩
        · cases o <;> first | (exfalso; simp [odd] at d1; done) | exact ⟨_, rfl, noCell_ok _ _ _ h1 (by simp)⟩
      obtain ⟨e', he, ho⟩ := this
      simp only [he] at hr
      cases hr
      exact ho
    | some v =>
      rw [hc] at hr
      obtain ⟨v', hv', hvv⟩ := hw.cell ha hc
      exact ih v (hk v v' hvv) hw hr
  | store m x v k ih =>
    by_cases hone : (∃ c, v = .agg c) ∨ (∃ c, v = .tuple c)
    · rcases hone with ⟨c, rfl⟩ | ⟨c, rfl⟩ <;> (simp only [Sem.run] at hr; cases hr; rfl)
    have h' : ∃ m' x' v' k', t = .store m' x' v' k' ∧ st = true ∧ adr β x x' ∧ cel β v v' ∧ SR st P R β k k' := by
      cases t <;> cases v <;> first
        | (exfalso; simp [SR] at h; done)
        | exact absurd (.inl ⟨_, rfl⟩) hone
        | exact absurd (.inr ⟨_, rfl⟩) hone
        | exact ⟨_, _, _, _, rfl, h⟩
    obtain ⟨m', x', v', k', rfl, hst, ha, hv, hk⟩ := h'
    obtain ⟨z, hz, hn⟩ : ∃ z, okHalt z = true ∧ (Sem.store m x v k).run P w = (match w.cell? x with
      | some _ => if w.frozen? x then .halt z w else k.run P (w.setCell x v)
      | none => match w.farStore P x v (m == .atomic) with
        | .ok (w, _) => k.run P w
        | .error h => .halt h w) := by
      cases v <;> first | exact ⟨_, by rfl, rfl⟩ | exact absurd (.inl ⟨_, rfl⟩) hone | exact absurd (.inr ⟨_, rfl⟩) hone
    rw [hn] at hr
    cases hc : w.cell? x with
    | none =>
      have : ∃ e, w.farStore P x v (m == .atomic) = .error e ∧ okHalt e = true := by
        unfold World.farStore
        rcases hw.row ha.1 with ⟨xs, ys, e, f, h1, h2, h3⟩ | ⟨o, o', h1, h2, ho, d1, d2⟩ <;> rw [h1]
        · exact ⟨_, rfl, noCell_ok _ _ _ h1 (by simp)⟩
        · cases o <;> first | (exfalso; simp [odd] at d1; done) | exact ⟨_, rfl, noCell_ok _ _ _ h1 (by simp)⟩
      obtain ⟨e', he, ho⟩ := this
      simp only [hc, he] at hr
      cases hr
      exact ho
    | some u =>
      simp only [hc] at hr
      split at hr
      · cases hr; exact hz
      · obtain ⟨h1, h2⟩ := hw.store ha hv
        exact ih hk h1 hr
  | new o k ih =>
    cases t <;> try (exfalso; simp [SR] at h; done)
    obtain ⟨ho, hk⟩ := h
    simp only [Sem.run] at hr
    obtain ⟨h1, h2⟩ := hw.new ho
    exact ih _ (hk _ _ _ h2.le (.inr ⟨rfl, rfl⟩) hw.pos) h1 hr
  | shape r k ih =>
    cases t <;> try (exfalso; simp [SR] at h; done)
    obtain ⟨ha, hk⟩ := h
    simp only [Sem.run] at hr
    exact ih _ (hk _) hw hr
  | freeze x n k ih =>
    cases t <;> try (exfalso; simp [SR] at h; done)
    obtain ⟨hst, ha, rfl, hk⟩ := h
    simp only [Sem.run] at hr
    exact ih hk (hw.freeze ha n).1 hr
  | frozen x k ih =>
    cases t <;> try (exfalso; simp [SR] at h; done)
    obtain ⟨ha, hk⟩ := h
    simp only [Sem.run] at hr
    exact ih _ (hk _) hw hr
  | getObj r k ih =>
    cases t <;> try (exfalso; simp [SR] at h; done)
    obtain ⟨hr0, hk⟩ := h
    simp only [Sem.run] at hr
    rcases hw.row hr0 with ⟨xs, ys, e, f, h1, h2, h3⟩ | ⟨o, o', h1, h2, ho, d1, d2⟩
    · rw [h1] at hr
      cases hr; rfl
    · rw [h1] at hr
      have q := hk o o' ho
      cases o <;> cases o' <;> first
        | (exfalso; simp [odd] at d1; done)
        | (exfalso; simp [odd] at d2; done)
        | exact ih _ q hw hr
  | setObj r o k ih =>
    cases t <;> try (exfalso; simp [SR] at h; done)
    obtain ⟨hst, hr0, ho, hk⟩ := h
    simp only [Sem.run] at hr
    rcases hw.row hr0 with ⟨xs, ys, e, f, h1, h2, h3⟩ | ⟨p, p', h1, h2, hp, d1, d2⟩
    · rw [h1] at hr
      cases hr; rfl
    · obtain ⟨g1, g2⟩ := hw.setObj hr0 ho
      rw [h1] at hr
      cases p <;> cases p' <;> first
        | (exfalso; simp [odd] at d1; done)
        | (exfalso; simp [odd] at d2; done)
        | exact ih hk g1 hr
  | choose q k ih =>
    cases t <;> try (exfalso; simp [SR] at h; done)
    rename_i q' k'
    obtain ⟨hq, hk⟩ := h
    simp only [Sem.run] at hr
    split at hr
    · exact ih _ (hk _ 0) hw hr
    · exact ih _ (hk _ 0) (hw.heap (v := { w with drawn := w.drawn + 1 }) (v' := w') rfl rfl) hr
  | sys c k ih => (exfalso; cases t <;> simp [SR] at h)
  | program k ih =>
    cases t <;> try (exfalso; simp [SR] at h; done)
    simp only [Sem.run] at hr
    exact ih _ h hw hr
  | mark m k ih =>
    cases t <;> try (exfalso; simp [SR] at h; done)
    simp only [Sem.run] at hr
    exact ih h hw hr
  | halt hh =>
    simp only [Sem.run] at hr
    cases hr
    cases t <;> exact h

/-- What stores nothing leaves the old blocks alone. -/
theorem SR.still {α : Type} {R : Rel → α → α → Prop} {P : Program} {s t : Sem α} {β : Rel} {w w' : World} (h : SR false P R β s t) (hw : W β w w') {x : α} {w1 : World} (hr : s.run P w = .ok x w1) :
    w.heap.size ≤ w1.heap.size ∧ ∀ b, b < w.heap.size → w1.heap[b]? = w.heap[b]? := by
  induction s generalizing t β w w' with
  | pure y =>
    simp only [Sem.run, Result.ok.injEq] at hr
    rw [← hr.2]
    exact ⟨Nat.le_refl _, fun _ _ => rfl⟩
  | load m y k ih =>
    cases t <;> try (exfalso; simp [SR] at h; done)
    obtain ⟨rfl, ha, hk⟩ := h
    simp only [Sem.run] at hr
    cases hc : w.cell? y with
    | none =>
      rw [hc] at hr
      obtain ⟨e, he⟩ := hw.noCell ha P (m == .atomic)
      simp only [he] at hr
      exact absurd hr (by simp)
    | some v =>
      rw [hc] at hr
      obtain ⟨v', hv', hvv⟩ := hw.cell ha hc
      exact ih v (hk v v' hvv) hw hr
  | store m y v k ih =>
    by_cases hone : (∃ c, v = .agg c) ∨ (∃ c, v = .tuple c)
    · rcases hone with ⟨c, rfl⟩ | ⟨c, rfl⟩ <;> exact absurd hr (by simp [Sem.run])
    · exfalso
      cases t <;> cases v <;> first
        | (simp [SR] at h; done)
        | exact absurd (.inl ⟨_, rfl⟩) hone
        | exact absurd (.inr ⟨_, rfl⟩) hone
  | new o k ih =>
    cases t <;> try (exfalso; simp [SR] at h; done)
    obtain ⟨ho, hk⟩ := h
    simp only [Sem.run] at hr
    obtain ⟨h1, h2⟩ := hw.new ho
    obtain ⟨q1, q2⟩ := ih _ (hk _ _ _ h2.le (.inr ⟨rfl, rfl⟩) hw.pos) h1 hr
    have e : ({ w with heap := w.heap.push o } : World).heap.size = w.heap.size + 1 := by simp
    refine ⟨by omega, fun b hb => ?_⟩
    rw [q2 b (by omega)]
    show (w.heap.push o)[b]? = _
    rw [Array.getElem?_push, if_neg (by omega)]
  | shape r k ih =>
    cases t <;> try (exfalso; simp [SR] at h; done)
    simp only [Sem.run] at hr
    exact ih _ (h.2 _) hw hr
  | freeze y n k ih => (exfalso; cases t <;> simp [SR] at h)
  | frozen y k ih =>
    cases t <;> try (exfalso; simp [SR] at h; done)
    simp only [Sem.run] at hr
    exact ih _ (h.2 _) hw hr
  | getObj r k ih =>
    cases t <;> try (exfalso; simp [SR] at h; done)
    obtain ⟨hr0, hk⟩ := h
    simp only [Sem.run] at hr
    rcases hw.row hr0 with ⟨xs, ys, e, f, h1, h2, h3⟩ | ⟨o, o', h1, h2, ho, d1, d2⟩
    · rw [h1] at hr
      exact absurd hr (by simp)
    · rw [h1] at hr
      have q := hk o o' ho
      cases o <;> cases o' <;> first
        | (exfalso; simp [odd] at d1; done)
        | (exfalso; simp [odd] at d2; done)
        | exact ih _ q hw hr
  | setObj r o k ih => (exfalso; cases t <;> simp [SR] at h)
  | choose q k ih =>
    cases t <;> try (exfalso; simp [SR] at h; done)
    obtain ⟨hq, hk⟩ := h
    simp only [Sem.run] at hr
    split at hr
    · exact ih _ (hk _ 0) hw hr
    · have q := ih _ (hk _ 0) (hw.heap (v := { w with drawn := w.drawn + 1 }) (v' := w') rfl rfl) hr
      exact q
  | sys c k ih => (exfalso; cases t <;> simp [SR] at h)
  | program k ih =>
    cases t <;> try (exfalso; simp [SR] at h; done)
    simp only [Sem.run] at hr
    exact ih _ h hw hr
  | mark m k ih =>
    cases t <;> try (exfalso; simp [SR] at h; done)
    simp only [Sem.run] at hr
    exact ih h hw hr
  | halt hh =>
    simp only [Sem.run] at hr
    exact absurd hr (by simp)
end Go.Tw
