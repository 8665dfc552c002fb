/-
  Two runs of one text: what is alike stays alike as each step of the monad is run.
-/
import Derived.Test.YgcoaaGreatTwA
set_option linter.unusedVariables false
namespace Go.Tw

def Le (β β' : Rel) : Prop := ∀ b c, β b c → β' b c

theorem Le.refl (β : Rel) : Le β β := fun _ _ h => h
theorem Le.trans {β β' β'' : Rel} (h : Le β β') (h' : Le β' β'') : Le β β'' := fun b c x => h' b c (h b c x)

theorem adr.mono {β β' : Rel} (h : Le β β') {a b : Addr} (x : adr β a b) : adr β' a b := ⟨h _ _ x.1, x.2⟩
theorem oadr.mono {β β' : Rel} (h : Le β β') {a b : Option Addr} (x : oadr β a b) : oadr β' a b := by
  cases a <;> cases b <;> first | exact x | exact adr.mono h x
theorem cel.mono {β β' : Rel} (h : Le β β') {a b : Value} (x : cel β a b) : cel β' a b := by
  cases a <;> cases b <;> simp only [cel] at x ⊢ <;> first | exact x | exact oadr.mono h x | exact ⟨oadr.mono h x.1, x.2⟩
theorem arr.mono {R R' : Value → Value → Prop} (h : ∀ a b, R a b → R' a b) {xs ys : Array Value} (x : arr R xs ys) : arr R' xs ys :=
  ⟨x.1, fun i a b ha hb => h a b (x.2 i a b ha hb)⟩
theorem one.mono {β β' : Rel} (h : Le β β') {a b : Value} (x : one β a b) : one β' a b := by
  cases a <;> cases b <;> simp only [one] at x ⊢ <;> first | exact cel.mono h x | exact arr.mono (fun _ _ => cel.mono h) x
theorem val.mono {β β' : Rel} (h : Le β β') {a b : Value} (x : val β a b) : val β' a b := by
  cases a <;> cases b <;> simp only [val] at x ⊢ <;> first | exact one.mono h x | exact arr.mono (fun _ _ => one.mono h) x
theorem obj.mono {β β' : Rel} (h : Le β β') {a b : Obj} (x : obj β a b) : obj β' a b := by
  cases a <;> cases b <;> first | exact x | exact ⟨arr.mono (fun _ _ => cel.mono h) x.1, x.2⟩ | exact ⟨adr.mono h x.1, x.2⟩

theorem W.size {β : Rel} {w w' : World} (h : W β w w') {b c : Nat} (hb : β b c) : b < w.heap.size ∧ c < w'.heap.size := by
  obtain ⟨x, y, hx, hy, _⟩ := h.blk b c hb
  exact ⟨(Array.getElem?_eq_some_iff.1 hx).1, (Array.getElem?_eq_some_iff.1 hy).1⟩

theorem Ext.refl {β : Rel} {w w' : World} : Ext β β w w' w w' := ⟨fun _ _ h => h, fun _ _ h => .inl h, Nat.le_refl _, Nat.le_refl _, fun _ _ _ => rfl, fun _ _ _ => rfl, ⟨rfl, rfl, rfl, rfl⟩⟩

theorem Same.trans {w w' w1 w1' w2 w2' : World} (h : Same w w' w1 w1') (h' : Same w1 w1' w2 w2') : Same w w' w2 w2' := ⟨h'.1.trans h.1, h'.2.1.trans h.2.1, h'.2.2.1.trans h.2.2.1, h'.2.2.2.trans h.2.2.2⟩

theorem Ext.trans {β β' β'' : Rel} {w w' w1 w1' w2 w2' : World} (h : Ext β β' w w' w1 w1') (h' : Ext β' β'' w1 w1' w2 w2') : Ext β β'' w w' w2 w2' where
  le b c x := h'.le b c (h.le b c x)
  new b c x := by
    rcases h'.new b c x with y | ⟨y1, y2⟩
    · exact h.new b c y
    · exact .inr ⟨Nat.le_trans h.szA y1, Nat.le_trans h.szB y2⟩
  szA := Nat.le_trans h.szA h'.szA
  szB := Nat.le_trans h.szB h'.szB
  frA b hb hn := by
    rw [h'.frA b (Nat.lt_of_lt_of_le hb h.szA) fun c x => ?_, h.frA b hb hn]
    rcases h.new b c x with y | ⟨y, _⟩
    · exact hn c y
    · omega
  frB c hc hn := by
    rw [h'.frB c (Nat.lt_of_lt_of_le hc h.szB) fun b x => ?_, h.frB c hc hn]
    rcases h.new b c x with y | ⟨_, y⟩
    · exact hn b y
    · omega
  sys := h.sys.trans h'.sys

/-- The draws apart. -/
theorem W.heap {β : Rel} {w w' v v' : World} (h : W β w w') (e : v.heap = w.heap) (e' : v'.heap = w'.heap) : W β v v' :=
  ⟨by rw [e, e']; exact h.blk, h.fn, h.inj, by rw [e, e']; exact h.pos⟩

theorem arr.get {R : Value → Value → Prop} {xs ys : Array Value} (h : arr R xs ys) {i : Nat} {x : Value} (hx : xs[i]? = some x) : ∃ y, ys[i]? = some y ∧ R x y := by
  have hi := (Array.getElem?_eq_some_iff.1 hx).1
  have hj : i < ys.size := by rw [← h.1]; exact hi
  exact ⟨ys[i], Array.getElem?_eq_getElem hj, h.2 i _ _ hx (Array.getElem?_eq_getElem hj)⟩

theorem arr.none {R : Value → Value → Prop} {xs ys : Array Value} (h : arr R xs ys) {i : Nat} (hx : xs[i]? = Option.none) : ys[i]? = Option.none := by
  rw [Array.getElem?_eq_none_iff] at hx ⊢
  rw [← h.1]; exact hx

/-- No row of cells, and no view. -/
def odd : Obj → Bool
  | .stringIter .. | .number .. => true
  | _ => false

/-- A block that is alike: its cells, or something else. -/
theorem W.row {β : Rel} {w w' : World} (h : W β w w') {b c : Nat} (hb : β b c) : (∃ xs ys e f, w.heap[b]? = some (.cells xs e f) ∧ w'.heap[c]? = some (.cells ys e f) ∧ arr (cel β) xs ys) ∨ (∃ o o', w.heap[b]? = some o ∧ w'.heap[c]? = some o' ∧ obj β o o' ∧ odd o = true ∧ odd o' = true) := by
  obtain ⟨x, y, hx, hy, ho⟩ := h.blk b c hb
  cases x <;> cases y <;> try (exfalso; simp [obj] at ho; done)
  · obtain ⟨h1, rfl, rfl⟩ := ho
    exact .inl ⟨_, _, _, _, hx, hy, h1⟩
  · exact .inr ⟨_, _, hx, hy, ho, rfl, rfl⟩
  · exact .inr ⟨_, _, hx, hy, ho, rfl, rfl⟩

theorem W.cell {β : Rel} {w w' : World} (h : W β w w') {a a' : Addr} (ha : adr β a a') {v : Value} (hv : w.cell? a = some v) : ∃ v', w'.cell? a' = some v' ∧ cel β v v' := by
  rcases h.row ha.1 with ⟨xs, ys, e, f, h1, h2, h3⟩ | ⟨o, o', h1, h2, ho, d1, d2⟩
  · obtain ⟨_, e1, e2, _⟩ := ha
    unfold World.cell? at hv ⊢
    rw [h1] at hv
    rw [h2]
    simp only [← e1, ← e2] at hv ⊢
    split at hv
    · exact absurd hv (by simp)
    · rename_i hs
      rw [if_neg hs]
      exact h3.get hv
  · unfold World.cell? at hv
    rw [h1] at hv
    cases o <;> first | (exfalso; simp [odd] at d1; done) | exact absurd hv (by simp)

theorem W.noCell {β : Rel} {w w' : World} (h : W β w w') {a a' : Addr} (ha : adr β a a') (p : Program) (m : Bool) : ∃ e, w.farLoad p a m = .error e := by
  unfold World.farLoad
  rcases h.row ha.1 with ⟨xs, ys, e, f, h1, h2, h3⟩ | ⟨o, o', h1, h2, ho, d1, d2⟩ <;> rw [h1]
  · exact ⟨_, rfl⟩
  · cases o <;> first | exact ⟨_, rfl⟩ | (exfalso; simp [odd] at d1; done)

theorem W.noCellS {β : Rel} {w w' : World} (h : W β w w') {a a' : Addr} (ha : adr β a a') (p : Program) (v : Value) (m : Bool) : ∃ e, w.farStore p a v m = .error e := by
  unfold World.farStore
  rcases h.row ha.1 with ⟨xs, ys, e, f, h1, h2, h3⟩ | ⟨o, o', h1, h2, ho, d1, d2⟩ <;> rw [h1]
  · exact ⟨_, rfl⟩
  · cases o <;> first | exact ⟨_, rfl⟩ | (exfalso; simp [odd] at d1; done)

theorem W.frozen {β : Rel} {w w' : World} (h : W β w w') {a a' : Addr} (ha : adr β a a') : w'.frozen? a' = w.frozen? a := by
  obtain ⟨hb, e1, e2, _⟩ := ha
  unfold World.frozen?
  rcases h.row hb with ⟨xs, ys, e, f, h1, h2, h3⟩ | ⟨o, o', h1, h2, ho, d1, d2⟩ <;> rw [h1, h2]
  · rw [e1]
  · cases o <;> cases o' <;> first | rfl | (exfalso; simp [odd] at d1; done) | (exfalso; simp [odd] at d2; done)

theorem W.shape {β : Rel} {w w' : World} (h : W β w w') {r r' : Nat} (ha : β r r') : w'.shape? r' = w.shape? r := by
  unfold World.shape?
  rcases h.row ha with ⟨xs, ys, e, f, h1, h2, h3⟩ | ⟨o, o', h1, h2, ho, d1, d2⟩ <;> rw [h1, h2]
  · show some (e, ys.size) = some (e, xs.size)
    rw [h3.1]
  · cases o <;> cases o' <;> first | rfl | (exfalso; simp [odd] at d1; done) | (exfalso; simp [odd] at d2; done)

/-- A block of each is turned, both alike. -/
theorem W.mod {β : Rel} {w w' v v' : World} (h : W β w w') {b c : Nat} (hb : β b c) {f g : Obj → Obj} (e : v.heap = w.heap.modify b f) (e' : v'.heap = w'.heap.modify c g) (hsys : Same w w' v v')
    (hf : ∀ x y, obj β x y → obj β (f x) (g y)) : W β v v' ∧ Ext β β w w' v v' := by
  have hsA : v.heap.size = w.heap.size := by rw [e]; simp
  have hsB : v'.heap.size = w'.heap.size := by rw [e']; simp
  refine ⟨⟨fun b1 c1 h1 => ?_, h.fn, h.inj, by rw [hsA, hsB]; exact h.pos⟩, ⟨fun _ _ x => x, fun _ _ x => .inl x, by omega, by omega, fun b1 hb1 hn => ?_, fun c1 hc1 hn => ?_, hsys⟩⟩
  · obtain ⟨x, y, hx, hy, ho⟩ := h.blk b1 c1 h1
    by_cases eb : b1 = b
    · subst eb
      have ec := h.fn _ _ _ h1 hb
      subst ec
      refine ⟨f x, g y, ?_, ?_, hf _ _ ho⟩
      · rw [e, Array.getElem?_modify]; simp [hx]
      · rw [e', Array.getElem?_modify]; simp [hy]
    · have ec : c1 ≠ c := fun z => eb (h.inj _ _ _ (z ▸ h1) hb)
      refine ⟨x, y, ?_, ?_, ho⟩
      · rw [e, Array.getElem?_modify]; simp [hx, Ne.symm eb]
      · rw [e', Array.getElem?_modify]; simp [hy, Ne.symm ec]
  · have : b1 ≠ b := fun z => hn c (z ▸ hb)
    rw [e, Array.getElem?_modify]; simp [Ne.symm this]
  · have : c1 ≠ c := fun z => hn b (z ▸ hb)
    rw [e', Array.getElem?_modify]; simp [Ne.symm this]

theorem arr.set {R : Value → Value → Prop} {xs ys : Array Value} (h : arr R xs ys) {i : Nat} {x y : Value} (hxy : R x y) : arr R (xs.setIfInBounds i x) (ys.setIfInBounds i y) := by
  refine ⟨by simp [h.1], fun j a b ha hb => ?_⟩
  rw [Array.getElem?_setIfInBounds] at ha hb
  by_cases e : i = j
  · rw [if_pos e] at ha hb
    split at ha
    · rw [if_pos (by rw [← h.1]; assumption)] at hb
      cases ha; cases hb; exact hxy
    · exact absurd ha (by simp)
  · rw [if_neg e] at ha hb
    exact h.2 j a b ha hb

theorem W.store {β : Rel} {w w' : World} (h : W β w w') {a a' : Addr} (ha : adr β a a') {v v' : Value} (hv : cel β v v') : W β (w.setCell a v) (w'.setCell a' v') ∧ Ext β β w w' (w.setCell a v) (w'.setCell a' v') := by
  refine h.mod ha.1 (f := fun | .cells c elem frozen => .cells (if a.spot.isSome then c else c.setIfInBounds a.off v) elem frozen | o => o) (g := fun | .cells c elem frozen => .cells (if a'.spot.isSome then c else c.setIfInBounds a'.off v') elem frozen | o => o) rfl rfl ⟨rfl, rfl, rfl, rfl⟩ ?_
  intro x y hxy
  cases x <;> cases y <;> first | exact hxy | skip
  obtain ⟨h1, rfl, rfl⟩ := hxy
  refine ⟨?_, rfl, rfl⟩
  rw [← ha.2.1, ← ha.2.2.1]
  split
  · exact h1
  · exact h1.set hv

theorem W.freeze {β : Rel} {w w' : World} (h : W β w w') {a a' : Addr} (ha : adr β a a') (n : Nat) : W β (w.freeze a n) (w'.freeze a' n) ∧ Ext β β w w' (w.freeze a n) (w'.freeze a' n) := by
  unfold World.freeze
  split
  · exact ⟨h, Ext.refl⟩
  · refine h.mod ha.1 (f := fun | .cells c elem (lo, hi) => .cells c elem (if lo == hi then (a.off, a.off + n) else (min lo a.off, max hi (a.off + n))) | o => o) (g := fun | .cells c elem (lo, hi) => .cells c elem (if lo == hi then (a'.off, a'.off + n) else (min lo a'.off, max hi (a'.off + n))) | o => o) rfl rfl ⟨rfl, rfl, rfl, rfl⟩ ?_
    intro x y hxy
    cases x <;> cases y <;> first | exact hxy | skip
    obtain ⟨h1, rfl, rfl⟩ := hxy
    exact ⟨h1, rfl, by rw [ha.2.1]⟩

theorem set_mod (h : Array Obj) (r : Nat) (o : Obj) : h.setIfInBounds r o = h.modify r fun _ => o := by
  apply Array.ext_getElem?
  intro i
  rw [Array.getElem?_setIfInBounds, Array.getElem?_modify]
  by_cases e : r = i
  · subst e
    by_cases hl : r < h.size
    · simp [hl]
    · simp [hl]
  · simp [e]

theorem W.setObj {β : Rel} {w w' : World} (h : W β w w') {r r' : Nat} (hr : β r r') {o o' : Obj} (ho : obj β o o') :
    W β { w with heap := w.heap.setIfInBounds r o } { w' with heap := w'.heap.setIfInBounds r' o' } ∧ Ext β β w w' { w with heap := w.heap.setIfInBounds r o } { w' with heap := w'.heap.setIfInBounds r' o' } := by
  refine h.mod hr (f := fun _ => o) (g := fun _ => o') ?_ ?_ ⟨rfl, rfl, rfl, rfl⟩ (fun _ _ _ => ho)
  · exact set_mod _ _ _
  · exact set_mod _ _ _

/-- A new block of each. -/
def add (β : Rel) (r r' : Nat) : Rel := fun b c => β b c ∨ (b = r ∧ c = r')

theorem W.new {β : Rel} {w w' : World} (h : W β w w') {o o' : Obj} (ho : obj β o o') :
    W (add β w.heap.size w'.heap.size) { w with heap := w.heap.push o } { w' with heap := w'.heap.push o' } ∧
    Ext β (add β w.heap.size w'.heap.size) w w' { w with heap := w.heap.push o } { w' with heap := w'.heap.push o' } := by
  have hle : Le β (add β w.heap.size w'.heap.size) := fun b c x => .inl x
  refine ⟨⟨fun b c hb => ?_, fun b c c' h1 h2 => ?_, fun b b' c h1 h2 => ?_, by simp⟩, ⟨hle, fun b c x => ?_, by simp, by simp, fun b hb _ => ?_, fun c hc _ => ?_, ⟨rfl, rfl, rfl, rfl⟩⟩⟩
  · rcases hb with hb | ⟨rfl, rfl⟩
    · obtain ⟨x, y, hx, hy, hxy⟩ := h.blk b c hb
      have hs := h.size hb
      refine ⟨x, y, ?_, ?_, hxy.mono hle⟩
      · show (w.heap.push o)[b]? = _
        rw [Array.getElem?_push, if_neg (by omega)]; exact hx
      · show (w'.heap.push o')[c]? = _
        rw [Array.getElem?_push, if_neg (by omega)]; exact hy
    · refine ⟨o, o', ?_, ?_, ho.mono hle⟩ <;> simp
  · rcases h1 with h1 | ⟨e1, e2⟩ <;> rcases h2 with h2 | ⟨e3, e4⟩
    · exact h.fn _ _ _ h1 h2
    · have := (h.size h1).1; omega
    · have := (h.size h2).1; omega
    · rw [e2, e4]
  · rcases h1 with h1 | ⟨e1, e2⟩ <;> rcases h2 with h2 | ⟨e3, e4⟩
    · exact h.inj _ _ _ h1 h2
    · have := (h.size h1).2; omega
    · have := (h.size h2).2; omega
    · rw [e1, e3]
  · rcases x with x | ⟨e1, e2⟩
    · exact .inl x
    · exact .inr ⟨by omega, by omega⟩
  · show (w.heap.push o)[b]? = _
    rw [Array.getElem?_push, if_neg (by omega)]
  · show (w'.heap.push o')[c]? = _
    rw [Array.getElem?_push, if_neg (by omega)]

theorem SR.run {st : Bool} {α : Type} {R : Rel → α → α → Prop} {P : Program} {s t : Sem α} {β : Rel} {w w' : World} (h : SR st P R β s t) (hw : W β w w') {a : α} {w1 : World} (hr : s.run P w = .ok a w1) :
    ∃ β' b w1', t.run P w' = .ok b w1' ∧ Ext β β' w w' w1 w1' ∧ W β' w1 w1' ∧ R β' a b := by
  induction s generalizing t β w w' with
  | pure x =>
    cases t <;> try (exfalso; simp [SR] at h; done)
    simp only [Sem.run, Result.ok.injEq] at hr
    obtain ⟨rfl, rfl⟩ := hr
    exact ⟨β, _, w', rfl, Ext.refl, hw, h⟩
  | load m x k ih =>
    cases t <;> try (exfalso; simp [SR] at h; done)
    obtain ⟨rfl, ha, hk⟩ := h
    simp only [Sem.run] at hr ⊢
    cases hc : w.cell? x with
    | none =>
      rw [hc] at hr
      obtain ⟨e, he⟩ := hw.noCell ha P (m == .atomic)
      simp only [he] at hr
      exact absurd hr (by simp)
    | some v =>
      rw [hc] at hr
      obtain ⟨v', hv', hvv⟩ := hw.cell ha hc
      simp only [hv']
      exact ih v (hk v v' hvv) hw hr
  | store m x v k ih =>
    by_cases hone : (∃ c, v = .agg c) ∨ (∃ c, v = .tuple c)
    · rcases hone with ⟨c, rfl⟩ | ⟨c, rfl⟩ <;> exact absurd hr (by simp [Sem.run])
    have h' : ∃ m' x' v' k', t = .store m' x' v' k' ∧ st = true ∧ adr β x x' ∧ cel β v v' ∧ SR st P R β k k' := by
      cases t <;> cases v <;> first
        | (exfalso; simp [SR] at h; done)
        | exact absurd (.inl ⟨_, rfl⟩) hone
        | exact absurd (.inr ⟨_, rfl⟩) hone
        | exact ⟨_, _, _, _, rfl, h⟩
    obtain ⟨m', x', v', k', rfl, hst, ha, hv, hk⟩ := h'
    obtain ⟨z, hn⟩ : ∃ z, (Sem.store m x v k).run P w = (match w.cell? x with
      | some _ => if w.frozen? x then .halt z w else k.run P (w.setCell x v)
      | none => match w.farStore P x v (m == .atomic) with
        | .ok (w, _) => k.run P w
        | .error h => .halt h w) := by
      cases v <;> first | exact ⟨_, rfl⟩ | exact absurd (.inl ⟨_, rfl⟩) hone | exact absurd (.inr ⟨_, rfl⟩) hone
    obtain ⟨z', hn'⟩ : ∃ z', (Sem.store m' x' v' k').run P w' = (match w'.cell? x' with
      | some _ => if w'.frozen? x' then .halt z' w' else k'.run P (w'.setCell x' v')
      | none => match w'.farStore P x' v' (m' == .atomic) with
        | .ok (w, _) => k'.run P w
        | .error h => .halt h w') := by
      cases v' <;> first | exact ⟨_, rfl⟩ | (exfalso; revert hv; cases v <;> first | exact absurd (.inr ⟨_, rfl⟩) hone | simp [cel])
    rw [hn] at hr
    rw [hn']
    cases hc : w.cell? x with
    | none =>
      obtain ⟨e, he⟩ := hw.noCellS ha P v (m == .atomic)
      simp only [hc, he] at hr
      exact absurd hr (by simp)
    | some u =>
      obtain ⟨u', hu', _⟩ := hw.cell ha hc
      simp only [hc] at hr
      simp only [hu', hw.frozen ha]
      split at hr
      · exact absurd hr (by simp)
      · rename_i hf
        simp only [hf]
        obtain ⟨h1, h2⟩ := hw.store ha hv
        obtain ⟨β', b, w1', r1, r2, r3, r4⟩ := ih hk h1 hr
        exact ⟨β', b, w1', r1, h2.trans r2, r3, r4⟩
  | new o k ih =>
    cases t <;> try (exfalso; simp [SR] at h; done)
    obtain ⟨ho, hk⟩ := h
    simp only [Sem.run] at hr ⊢
    obtain ⟨h1, h2⟩ := hw.new ho
    obtain ⟨β', b, w1', r1, r2, r3, r4⟩ := ih _ (hk _ _ _ h2.le (.inr ⟨rfl, rfl⟩) hw.pos) h1 hr
    exact ⟨β', b, w1', r1, h2.trans r2, r3, r4⟩
  | shape r k ih =>
    cases t <;> try (exfalso; simp [SR] at h; done)
    obtain ⟨ha, hk⟩ := h
    simp only [Sem.run] at hr ⊢
    rw [hw.shape ha]
    exact ih _ (hk _) hw hr
  | freeze x n k ih =>
    cases t <;> try (exfalso; simp [SR] at h; done)
    obtain ⟨hst, ha, rfl, hk⟩ := h
    simp only [Sem.run] at hr ⊢
    obtain ⟨h1, h2⟩ := hw.freeze ha n
    obtain ⟨β', b, w1', r1, r2, r3, r4⟩ := ih hk h1 hr
    exact ⟨β', b, w1', r1, h2.trans r2, r3, r4⟩
  | frozen x k ih =>
    cases t <;> try (exfalso; simp [SR] at h; done)
    obtain ⟨ha, hk⟩ := h
    simp only [Sem.run] at hr ⊢
    rw [hw.frozen ha]
    exact ih _ (hk _) hw hr
  | getObj r k ih =>
    cases t <;> try (exfalso; simp [SR] at h; done)
    obtain ⟨hr0, hk⟩ := h
    simp only [Sem.run] at hr ⊢
    rcases hw.row hr0 with ⟨xs, ys, e, f, h1, h2, h3⟩ | ⟨o, o', h1, h2, ho, d1, d2⟩
    · rw [h1] at hr
      exact absurd hr (by simp)
    · rw [h1] at hr
      rw [h2]
      have q := hk o o' ho
      cases o <;> cases o' <;> first
        | (exfalso; simp [odd] at d1; done)
        | (exfalso; simp [odd] at d2; done)
        | exact ih _ q hw hr
  | setObj r o k ih =>
    cases t <;> try (exfalso; simp [SR] at h; done)
    obtain ⟨hst, hr0, ho, hk⟩ := h
    simp only [Sem.run] at hr ⊢
    rcases hw.row hr0 with ⟨xs, ys, e, f, h1, h2, h3⟩ | ⟨p, p', h1, h2, hp, d1, d2⟩
    · rw [h1] at hr
      exact absurd hr (by simp)
    · obtain ⟨g1, g2⟩ := hw.setObj hr0 ho
      rw [h1] at hr
      rw [h2]
      cases p <;> cases p' <;> first
        | (exfalso; simp [odd] at d1; done)
        | (exfalso; simp [odd] at d2; done)
        | (obtain ⟨β', b, w1', r1, r2, r3, r4⟩ := ih hk g1 hr
           exact ⟨β', b, w1', r1, g2.trans r2, r3, r4⟩)
  | choose q k ih =>
    cases t <;> try (exfalso; simp [SR] at h; done)
    rename_i q' k'
    obtain ⟨hq, hk⟩ := h
    simp only [Sem.run] at hr ⊢
    rw [← hq]
    split at hr
    · rename_i hf
      simp only [hf, if_true]
      exact ih _ (hk _ _) hw hr
    · rename_i hf
      simp only [hf]
      obtain ⟨β', b, w1', r1, r2, r3, r4⟩ := ih _ (hk _ (q'.cut (w'.tape w'.drawn q'))) (hw.heap (v := { w with drawn := w.drawn + 1 }) (v' := { w' with drawn := w'.drawn + 1 }) rfl rfl) hr
      exact ⟨β', b, w1', r1, ⟨r2.le, r2.new, r2.szA, r2.szB, r2.frA, r2.frB, r2.sys⟩, r3, r4⟩
  | sys c k ih => (exfalso; cases t <;> simp [SR] at h)
  | program k ih =>
    cases t <;> try (exfalso; simp [SR] at h; done)
    simp only [Sem.run] at hr ⊢
    exact ih _ h hw hr
  | mark m k ih =>
    cases t <;> try (exfalso; simp [SR] at h; done)
    simp only [Sem.run] at hr ⊢
    exact ih h hw hr
  | halt hh =>
    simp only [Sem.run] at hr
    exact absurd hr (by simp)

theorem SR.bind {st : Bool} {P : Program} {α γ : Type} {R : Rel → α → α → Prop} {S : Rel → γ → γ → Prop} {s t : Sem α} {f g : α → Sem γ} {β : Rel} (h : SR st P R β s t)
    (hf : ∀ (β' : Rel) a b, Le β β' → R β' a b → SR st P S β' (f a) (g b)) : SR st P S β (s.bind f) (t.bind g) := by
  induction s generalizing t β with
  | pure x => cases t <;> first | exact hf β _ _ (Le.refl β) h | (exfalso; simp [SR] at h; done)
  | load m x k ih =>
    cases t <;> try (exfalso; simp [SR] at h; done)
    exact ⟨h.1, h.2.1, fun v v' hv => ih v (h.2.2 v v' hv) hf⟩
  | store m x v k ih =>
    cases v <;> cases t <;> first
      | exact trivial
      | (exfalso; simp [SR] at h; done)
      | exact ⟨h.1, h.2.1, h.2.2.1, ih h.2.2.2 hf⟩
  | new o k ih =>
    cases t <;> try (exfalso; simp [SR] at h; done)
    exact ⟨h.1, fun β' r r' hl hr hp => ih r (h.2 β' r r' hl hr hp) fun β'' a b hl' => hf β'' a b (Le.trans hl hl')⟩
  | shape r k ih =>
    cases t <;> try (exfalso; simp [SR] at h; done)
    exact ⟨h.1, fun s => ih s (h.2 s) hf⟩
  | freeze x n k ih =>
    cases t <;> try (exfalso; simp [SR] at h; done)
    exact ⟨h.1, h.2.1, h.2.2.1, ih h.2.2.2 hf⟩
  | frozen x k ih =>
    cases t <;> try (exfalso; simp [SR] at h; done)
    exact ⟨h.1, fun s => ih s (h.2 s) hf⟩
  | getObj r k ih =>
    cases t <;> try (exfalso; simp [SR] at h; done)
    exact ⟨h.1, fun o o' ho => ih o (h.2 o o' ho) hf⟩
  | setObj r o k ih =>
    cases t <;> try (exfalso; simp [SR] at h; done)
    exact ⟨h.1, h.2.1, h.2.2.1, ih h.2.2.2 hf⟩
  | choose q k ih =>
    cases t <;> try (exfalso; simp [SR] at h; done)
    exact ⟨h.1, fun n n' => ih n (h.2 n n') hf⟩
  | sys c k ih => (exfalso; cases t <;> simp [SR] at h)
  | program k ih =>
    cases t <;> try (exfalso; simp [SR] at h; done)
    exact ih _ h hf
  | mark m k ih =>
    cases t <;> try (exfalso; simp [SR] at h; done)
    exact ih h hf
  | halt hh =>
    cases t <;> exact h

end Go.Tw
