/-
  Two runs of one text: the second run goes through a region's first operations in its own order.
-/
import Derived.Test.YgcoaaGreatTwQ
set_option linter.unusedVariables false
set_option linter.unusedSimpArgs false
namespace Go.Tw

/-- The relation on blocks below n. -/
def cut (β : Rel) (n : Nat) : Rel := fun b c => β b c ∧ b < n

theorem cut_le {β : Rel} {n : Nat} : Le (cut β n) β := fun _ _ h => h.1
theorem cut_mono {β : Rel} {n m : Nat} (h : n ≤ m) : Le (cut β n) (cut β m) := fun _ _ x => ⟨x.1, Nat.lt_of_lt_of_le x.2 h⟩
theorem cut_le2 {β β2 : Rel} {n : Nat} (h : Le β β2) : Le (cut β n) (cut β2 n) := fun b c x => ⟨h b c x.1, x.2⟩

theorem oadr_unique {β β' : Rel} (hl : Le β β') (hf : ∀ b c c', β' b c → β' b c' → c = c') {x y y' : Option Addr} (h : oadr β x y) (h' : oadr β' x y') : y = y' := by
  cases x <;> cases y <;> cases y' <;> first | rfl | exact h.elim | exact h'.elim | skip
  rename_i a b c
  have e := hf _ _ _ (hl _ _ h.1) h'.1
  obtain ⟨b1, b2, b3⟩ := b
  obtain ⟨c1, c2, c3⟩ := c
  obtain ⟨_, h2, h3, _⟩ := h
  obtain ⟨_, g2, g3, _⟩ := h'
  dsimp only at e h2 h3 g2 g3
  subst e
  rw [← h2, ← h3, ← g2, ← g3]

theorem cel_unique {β β' : Rel} (hl : Le β β') (hf : ∀ b c c', β' b c → β' b c' → c = c') {x y y' : Value} (h : cel β x y) (h' : cel β' x y') : y = y' := by
  cases x <;> cases y <;> first | (exfalso; simp [cel] at h; done) | skip
  all_goals cases y' <;> first | (exfalso; simp [cel] at h'; done) | skip
  · have e : _ = _ := h; have e' : _ = _ := h'; rw [← e, ← e']
  · obtain ⟨e1, e2⟩ : _ = _ ∧ _ = _ := h
    obtain ⟨g1, g2⟩ : _ = _ ∧ _ = _ := h'
    rw [← e1, ← e2, ← g1, ← g2]
  · have e : _ = _ := h; have e' : _ = _ := h'; rw [← e, ← e']
  · rw [oadr_unique hl hf h h']
  · obtain ⟨e0, e1, e2⟩ : oadr β _ _ ∧ _ = _ ∧ _ = _ := h
    obtain ⟨g0, g1, g2⟩ : oadr β' _ _ ∧ _ = _ ∧ _ = _ := h'
    rw [oadr_unique hl hf e0 g0, ← e1, ← e2, ← g1, ← g2]
  · obtain ⟨e1, e2, e3, e4, e5⟩ : _ = _ ∧ _ = _ ∧ _ = _ ∧ _ = _ ∧ _ = _ := h
    obtain ⟨g1, g2, g3, g4, g5⟩ : _ = _ ∧ _ = _ ∧ _ = _ ∧ _ = _ ∧ _ = _ := h'
    rw [← e1, ← g1, e4, e5, g4, g5]
  · obtain ⟨e1, e2⟩ : _ = _ ∧ _ = _ := h
    obtain ⟨g1, g2⟩ : _ = _ ∧ _ = _ := h'
    rw [e2, g2]

theorem arr_unique {R R' : Value → Value → Prop} (hu : ∀ x y y', R x y → R' x y' → y = y') {xs ys ys' : Array Value} (h : arr R xs ys) (h' : arr R' xs ys') : ys = ys' := by
  apply Array.ext_getElem?
  intro i
  cases hx : xs[i]? with
  | none => rw [h.none hx, h'.none hx]
  | some x =>
    obtain ⟨y, hy, r⟩ := h.get hx
    obtain ⟨y', hy', r'⟩ := h'.get hx
    rw [hy, hy', hu x y y' r r']

theorem obj_unique {β β' : Rel} (hl : Le β β') (hf : ∀ b c c', β' b c → β' b c' → c = c') {x y y' : Obj} (h : obj β x y) (h' : obj β' x y') : y = y' := by
  cases x <;> cases y <;> first | (exfalso; simp [obj] at h; done) | skip
  all_goals cases y' <;> first | (exfalso; simp [obj] at h'; done) | skip
  · obtain ⟨e0, e1, e2⟩ : arr (cel β) _ _ ∧ _ = _ ∧ _ = _ := h
    obtain ⟨g0, g1, g2⟩ : arr (cel β') _ _ ∧ _ = _ ∧ _ = _ := h'
    rw [arr_unique (R := cel β) (R' := cel β') (fun x y y' h h' => cel_unique hl hf h h') e0 g0, ← e1, ← e2, ← g1, ← g2]
  · obtain ⟨e0, e1⟩ : adr β _ _ ∧ _ = _ := h
    obtain ⟨g0, g1⟩ : adr β' _ _ ∧ _ = _ := h'
    have := oadr_unique (x := some _) (y := some _) (y' := some _) hl hf e0 g0
    cases this
    rw [← e1, ← g1]
  · obtain ⟨e0, e1⟩ : _ = _ ∧ _ = _ := h
    obtain ⟨g0, g1⟩ : _ = _ ∧ _ = _ := h'
    rw [← e0, ← e1, ← g0, ← g1]

/-- The first run's way through the first operations of a region. -/
structure Trace (V : Env) (f : FuncId) (ops : Array Oper) (n0 : Nat) (a0 : Act) (ws : World) (ah : Act) (av : Nat → Act) (pw qw : Nat → World) (xs : Nat → Value) : Prop where
  op : ∀ (i : Nat) o, i < n0 → ops[i]? = some o → Opered2 V f ops i o (av i) (pw i) (xs i) (qw i)
  ran : ∀ (i : Nat) o, i < n0 → ops[i]? = some o → notCall o = true → Ran V ops o (av i) (pw i) (xs i) (qw i)
  avsz : ∀ i, i < n0 → (av i).tmps.size = a0.tmps.size
  avput : ∀ (i : Nat) o t (j : Nat) oj, i < n0 → ops[i]? = some o → t ∈ o.looksAt ops → j < n0 → ops[j]? = some oj → oj.dst = some t → (∃ e ∈ o.after, Region.binds .any e = true ∧ e.on = j) → (av i).tmps.getD t undef = ah.tmps.getD t undef
  avold : ∀ (i : Nat) o t (j : Nat) oj, i < n0 → ops[i]? = some o → t ∈ o.looksAt ops → j < n0 → ops[j]? = some oj → oj.dst = some t → (∃ e ∈ oj.after, Region.binds .any e = true ∧ e.on = i) → (av i).tmps.getD t undef = a0.tmps.getD t undef
  avsame : ∀ (i : Nat) o t, i < n0 → ops[i]? = some o → t ∈ o.looksAt ops → (∀ (j : Nat) oj, j < n0 → ops[j]? = some oj → oj.dst ≠ some t) → (av i).tmps.getD t undef = a0.tmps.getD t undef
  size : ah.tmps.size = a0.tmps.size
  put : ∀ (i : Nat) o t, i < n0 → ops[i]? = some o → o.dst = some t → ah.tmps.getD t undef = if t < a0.tmps.size then xs i else undef
  same : ∀ t, (∀ (i : Nat) o, i < n0 → ops[i]? = some o → o.dst ≠ some t) → ah.tmps.getD t undef = a0.tmps.getD t undef
  still : ah.defers = []
  lo : ∀ i, i ≤ n0 → ws.heap.size ≤ (pw i).heap.size
  mid : ∀ i, i < n0 → (pw i).heap.size ≤ (qw i).heap.size ∧ (qw i).heap.size ≤ (pw n0).heap.size
  hi : ∀ i, i ≤ n0 → (pw i).heap.size ≤ (pw n0).heap.size
  apart : ∀ i j, i < n0 → j < n0 → i ≠ j → (qw i).heap.size ≤ (pw j).heap.size ∨ (qw j).heap.size ≤ (pw i).heap.size
  edge : ∀ (i : Nat) o t (j : Nat) oj, i < n0 → ops[i]? = some o → t ∈ o.looksAt ops → j < n0 → ops[j]? = some oj → oj.dst = some t → (∃ e ∈ o.after, Region.binds .any e = true ∧ e.on = j) → (qw j).heap.size ≤ (pw i).heap.size
  cohP : ∀ i k, i ≤ n0 → k ≤ n0 → ∀ b : Nat, b < (pw i).heap.size → b < (pw k).heap.size → (pw i).heap[b]? = (pw k).heap[b]?
  cohQ : ∀ i k, i < n0 → k ≤ n0 → ∀ b : Nat, b < (qw i).heap.size → b < (pw k).heap.size → (qw i).heap[b]? = (pw k).heap[b]?
  cohS : ∀ k, k ≤ n0 → ∀ b : Nat, b < ws.heap.size → (pw k).heap[b]? = ws.heap[b]?

/-- What an operation among the first looks at is written by its edges, each slot once. -/
structure Apart (ops : Array Oper) (n0 : Nat) : Prop where
  dist : ∀ (i j : Nat) oi oj t, i < n0 → j < n0 → ops[i]? = some oi → ops[j]? = some oj → oi.dst = some t → oj.dst = some t → i = j
  looks : ∀ (i : Nat) o t (j : Nat) oj, i < n0 → ops[i]? = some o → t ∈ o.looksAt ops → j < n0 → ops[j]? = some oj → oj.dst = some t → (∃ e ∈ o.after, Region.binds .any e = true ∧ e.on = j) ∨ (∃ e ∈ oj.after, Region.binds .any e = true ∧ e.on = i)

/-- The second run within the region. -/
structure InvB (V : Env) (f : FuncId) (ops : Array Oper) (n0 : Nat) (ah : Act) (pw qw : Nat → World) (β0 : Rel) (a0' : Act) (w0' : World) (listed : Array Bool) (a' : Act) (w' : World) (β : Rel) : Prop where
  w : ∀ k, k ≤ n0 → W (cut β (pw k).heap.size) (pw k) w'
  le : Le β0 β
  new : ∀ b c, β b c → β0 b c ∨ (w0'.heap.size ≤ c ∧ ∃ j, j < n0 ∧ listed.getD j false = true ∧ (pw j).heap.size ≤ b ∧ b < (qw j).heap.size)
  dom : ∀ b c, β b c → b < (pw n0).heap.size
  sz : w0'.heap.size ≤ w'.heap.size
  fr : ∀ c : Nat, c < w0'.heap.size → (∀ b, ¬ β0 b c) → w'.heap[c]? = w0'.heap[c]?
  sys : w'.tape = w0'.tape ∧ w'.os = w0'.os ∧ w'.output = w0'.output
  tsize : a'.tmps.size = a0'.tmps.size
  still : a'.defers = []
  keep : ∀ t, (∀ (j : Nat) o, j < n0 → listed.getD j false = true → ops[j]? = some o → o.dst ≠ some t) → a'.tmps.getD t undef = a0'.tmps.getD t undef
  done : ∀ (j : Nat) o t, j < n0 → listed.getD j false = true → ops[j]? = some o → o.dst = some t → val (cut β (qw j).heap.size) (ah.tmps.getD t undef) (a'.tmps.getD t undef) ∧ (V.TT f t = false → one (cut β (qw j).heap.size) (ah.tmps.getD t undef) (a'.tmps.getD t undef))

/-- A frame with what an operation looks at alone. -/
def cutAct (l : List Tmp) (a : Act) : Act := { tmps := (Array.range a.tmps.size).map fun t => if t ∈ l then a.tmps.getD t undef else undef, defers := [] }

theorem cutAct_size {l : List Tmp} {a : Act} : (cutAct l a).tmps.size = a.tmps.size := by simp [cutAct]
theorem cutAct_get {l : List Tmp} {a : Act} (t : Nat) : (cutAct l a).tmps.getD t undef = if t ∈ l then a.tmps.getD t undef else undef := by
  simp only [cutAct, Array.getD_eq_getD_getElem?, Array.getElem?_map]
  by_cases h : t < a.tmps.size
  · simp [h]
  · simp [h]


section
variable {V : Env} {f : FuncId} {ops : Array Oper} {n0 : Nat} {a0 ah : Act} {av : Nat → Act} {ws : World} {pw qw : Nat → World} {xs : Nat → Value} {β0 : Rel} {a0' : Act} {w0' : World}

/-- One more of the first operations, in the second run. -/
theorem step_B (tr : Trace V f ops n0 a0 ws ah av pw qw xs) (hap : Apart ops n0) (ha0 : AR (V.TT f) β0 a0 a0') (hw0 : W β0 ws w0') {i : Nat} {o : Oper} (hi : i < n0) (ho : ops[i]? = some o) {listed : Array Bool} (hsz : listed.size = ops.size) (hdown : Down ops listed)
    (hun : listed.getD i false = false) (hed : ∀ e ∈ o.after, Region.binds .any e = true → listed.getD e.on false = true) {a' : Act} {w' : World} {β : Rel} (hI : InvB V f ops n0 ah pw qw β0 a0' w0' listed a' w' β) {Q : Exit → Act → World → Prop} :
    wpOp V.P ops Q i (fun a1 w1 => ∃ β2, InvB V f ops n0 ah pw qw β0 a0' w0' (listed.setIfInBounds i true) a1 w1 β2) a' w' := by
  have hil : i < listed.size := by rw [hsz]; exact (Array.getElem?_eq_some_iff.1 ho).1
  have hWn := hI.w n0 (Nat.le_refl _)
  have hn0 : ∀ b c, β b c → cut β (pw n0).heap.size b c := fun b c h => ⟨h, hI.dom b c h⟩
  have d0 : ∀ b c, β0 b c → b < ws.heap.size ∧ c < w0'.heap.size := fun b c h => hw0.size h
  have hle0 : ∀ k, k ≤ n0 → Le β0 (cut β (pw k).heap.size) := fun k hk b c h => ⟨hI.le b c h, Nat.lt_of_lt_of_le (d0 b c h).1 (tr.lo k hk)⟩
  -- the two frames, cut down
  have hag1 : Agree ops o (cutAct (o.looksAt ops) (av i)) (av i) := ⟨cutAct_size, fun t ht => by rw [cutAct_get, if_pos ht]⟩
  have hag2 : Agree ops o a' (cutAct (o.looksAt ops) a') := ⟨cutAct_size.symm, fun t ht => by rw [cutAct_get, if_pos ht]⟩
  have hsize : ah.tmps.size = a'.tmps.size := by rw [tr.size, hI.tsize, ha0.size]
  have hvsize : (av i).tmps.size = a'.tmps.size := by rw [tr.avsz i hi, hI.tsize, ha0.size]
  have look : ∀ t, t ∈ o.looksAt ops → val (cut β (pw i).heap.size) ((av i).tmps.getD t undef) (a'.tmps.getD t undef) ∧ (V.TT f t = false → one (cut β (pw i).heap.size) ((av i).tmps.getD t undef) (a'.tmps.getD t undef)) := by
    intro t ht
    by_cases hd : ∃ j oj, j < n0 ∧ ops[j]? = some oj ∧ oj.dst = some t
    · obtain ⟨j, oj, hj, hoj, hdj⟩ := hd
      rcases hap.looks i o t j oj hi ho ht hj hoj hdj with hee | hee
      · have hee' := hee
        obtain ⟨e, he, hb, hon⟩ := hee
        have hlj : listed.getD j false = true := by rw [← hon]; exact hed e he hb
        obtain ⟨q1, q2⟩ := hI.done j oj t hj hlj hoj hdj
        have hl := cut_mono (β := β) (tr.edge i o t j oj hi ho ht hj hoj hdj hee')
        rw [tr.avput i o t j oj hi ho ht hj hoj hdj hee']
        exact ⟨val.mono hl q1, fun h => one.mono hl (q2 h)⟩
      · have h1 := tr.avold i o t j oj hi ho ht hj hoj hdj hee
        obtain ⟨e, he, hb, hon⟩ := hee
        have h2 := hI.keep t fun j2 oj2 hj2 hlj2 hoj2 hdj2 => by
          have := hap.dist j2 j oj2 oj t hj2 hj hoj2 hoj hdj2 hdj
          subst this
          have := hdown j2 oj hoj hlj2 e he hb
          rw [hon, hun] at this
          cases this
        rw [h1, h2]
        have hl := hle0 i (Nat.le_of_lt hi)
        exact ⟨val.mono hl (ha0.tup t), fun h => one.mono hl (ha0.tmp t h)⟩
    · have h1 := tr.avsame i o t hi ho ht fun j oj hj hoj hdj => hd ⟨j, oj, hj, hoj, hdj⟩
      have h2 := hI.keep t fun j oj hj _ hoj hdj => hd ⟨j, oj, hj, hoj, hdj⟩
      rw [h1, h2]
      have hl := hle0 i (Nat.le_of_lt hi)
      exact ⟨val.mono hl (ha0.tup t), fun h => one.mono hl (ha0.tmp t h)⟩
  have har : AR (V.TT f) (cut β (pw i).heap.size) (cutAct (o.looksAt ops) (av i)) (cutAct (o.looksAt ops) a') := by
    refine ⟨by rw [cutAct_size, cutAct_size]; exact hvsize, fun t ht => ?_, fun t => ?_, rfl, rfl⟩
    · rw [cutAct_get, cutAct_get]
      split
      · exact (look t ‹_›).2 ht
      · exact one_undef
    · rw [cutAct_get, cutAct_get]
      split
      · exact (look t ‹_›).1
      · exact one_undef.val
  refine tr.op i o hi ho _ _ a' w' _ hag1 hag2 har (hI.w i (Nat.le_of_lt hi)) Q _ ?_
  intro x' w1' β' hext hW' hx hx1
  -- the new relation
  let β2 : Rel := fun b c => β b c ∨ β' b c
  have hl2 : Le β β2 := fun b c h => .inl h
  have hl2' : Le β' β2 := fun b c h => .inr h
  have b' : ∀ b c, β' b c → b < (qw i).heap.size ∧ c < w1'.heap.size := fun b c h => hW'.size h
  have newp : ∀ b c, β' b c → β b c ∨ ((pw i).heap.size ≤ b ∧ w'.heap.size ≤ c) := by
    intro b c h
    rcases hext.new b c h with h1 | h1
    · exact .inl h1.1
    · exact .inr h1
  have cB : ∀ b c, β b c → c < w'.heap.size := fun b c h => (hWn.size (hn0 b c h)).2
  -- β has nothing in the operation's interval
  have none_in : ∀ b c, β b c → (pw i).heap.size ≤ b → b < (qw i).heap.size → False := by
    intro b c h h1 h2
    rcases hI.new b c h with h3 | ⟨_, j, hj, hlj, h4, h5⟩
    · have := (d0 b c h3).1
      have := tr.lo i (Nat.le_of_lt hi)
      omega
    · have hne : i ≠ j := fun e => by rw [← e, hun] at hlj; cases hlj
      rcases tr.apart i j hi hj hne with h6 | h6 <;> omega
  have f2 : ∀ b c c', β2 b c → β2 b c' → c = c' := by
    intro b c c' h h'
    rcases h with h | h <;> rcases h' with h' | h'
    · exact hWn.fn b c c' (hn0 b c h) (hn0 b c' h')
    · rcases newp b c' h' with g | g
      · exact hWn.fn b c c' (hn0 b c h) (hn0 b c' g)
      · exact (none_in b c h g.1 (b' b c' h').1).elim
    · rcases newp b c h with g | g
      · exact hWn.fn b c c' (hn0 b c g) (hn0 b c' h')
      · exact (none_in b c' h' g.1 (b' b c h).1).elim
    · exact hW'.fn b c c' h h'
  have i2 : ∀ b b1 c, β2 b c → β2 b1 c → b = b1 := by
    intro b b1 c h h'
    rcases h with h | h <;> rcases h' with h' | h'
    · exact hWn.inj b b1 c (hn0 b c h) (hn0 b1 c h')
    · rcases newp b1 c h' with g | g
      · exact hWn.inj b b1 c (hn0 b c h) (hn0 b1 c g)
      · have := cB b c h; omega
    · rcases newp b c h with g | g
      · exact hWn.inj b b1 c (hn0 b c g) (hn0 b1 c h')
      · have := cB b1 c h'; omega
    · exact hW'.inj b b1 c h h'
  -- a block of the second run that β knows stays as it is
  have stay : ∀ b c, β b c → w1'.heap[c]? = w'.heap[c]? := by
    intro b c h
    by_cases hb : b < (pw i).heap.size
    · have hc : cut β (pw i).heap.size b c := ⟨h, hb⟩
      obtain ⟨x, y, hx0, hy0, ho0⟩ := (hI.w i (Nat.le_of_lt hi)).blk b c hc
      obtain ⟨x1, y1, hx1, hy1, ho1⟩ := hW'.blk b c (hext.le b c hc)
      have e : (qw i).heap[b]? = (pw i).heap[b]? := tr.cohQ i i hi (Nat.le_of_lt hi) b (Nat.lt_of_lt_of_le hb (tr.mid i hi).1) hb
      rw [e, hx0] at hx1
      cases hx1
      rw [hy0, hy1, obj_unique hext.le hW'.fn ho0 ho1]
    · refine hext.frB c (cB b c h) fun b1 h1 => ?_
      have := hWn.inj b b1 c (hn0 b c h) (hn0 b1 c h1.1)
      subst this
      exact hb h1.2
  refine ⟨β2, ?_⟩
  have hmid := tr.mid i hi
  refine
    { w := fun k hk => ?_, le := fun b c h => .inl (hI.le b c h), new := fun b c h => ?_, dom := fun b c h => ?_, sz := Nat.le_trans hI.sz hext.szB, fr := fun c hc hn => ?_, sys := ⟨hext.sys.2.1.trans hI.sys.1, hext.sys.2.2.1.trans hI.sys.2.1, hext.sys.2.2.2.trans hI.sys.2.2⟩, tsize := ?_, still := ?_, keep := fun t ht => ?_, done := fun j oj t hj hlj hoj hdj => ?_ }
  · refine ⟨fun b c h => ?_, fun b c c' h h' => f2 b c c' h.1 h'.1, fun b b1 c h h' => i2 b b1 c h.1 h'.1, (hI.w k hk).pos.1, hW'.pos.2⟩
    obtain ⟨h, hb⟩ := h
    have old : β b c → ∃ x y, (pw k).heap[b]? = some x ∧ w1'.heap[c]? = some y ∧ obj (cut β2 (pw k).heap.size) x y := by
      intro h
      obtain ⟨x, y, hx0, hy0, ho0⟩ := (hI.w k hk).blk b c ⟨h, hb⟩
      exact ⟨x, y, hx0, by rw [stay b c h]; exact hy0, obj.mono (cut_le2 hl2) ho0⟩
    rcases h with h | h
    · exact old h
    · rcases newp b c h with g | g
      · exact old g
      · obtain ⟨x, y, hx0, hy0, ho0⟩ := hW'.blk b c h
        have hbq := (b' b c h).1
        have hq : (qw i).heap.size ≤ (pw k).heap.size := by
          by_cases hkn : k = n0
          · subst hkn; exact hmid.2
          · by_cases hki : i = k
            · subst hki; omega
            · have hk' : k < n0 := by omega
              rcases tr.apart i k hi hk' hki with h6 | h6
              · exact h6
              · have := (tr.mid k hk').1
                omega
        refine ⟨x, y, ?_, hy0, obj.mono (fun b1 c1 h1 => ⟨.inr h1, Nat.lt_of_lt_of_le (b' b1 c1 h1).1 hq⟩) ho0⟩
        rw [← tr.cohQ i k hi hk b hbq hb]
        exact hx0
  · have gl : ∀ j, listed.getD j false = true → (listed.setIfInBounds i true).getD j false = true := fun j hj => getD_set_true hj
    have old : β b c → β0 b c ∨ (w0'.heap.size ≤ c ∧ ∃ j, j < n0 ∧ (listed.setIfInBounds i true).getD j false = true ∧ (pw j).heap.size ≤ b ∧ b < (qw j).heap.size) := by
      intro h
      rcases hI.new b c h with h3 | ⟨h3, j, hj, hlj, h4⟩
      · exact .inl h3
      · exact .inr ⟨h3, j, hj, gl j hlj, h4⟩
    rcases h with h | h
    · exact old h
    · rcases newp b c h with g | g
      · exact old g
      · refine .inr ⟨Nat.le_trans hI.sz g.2, i, hi, ?_, g.1, (b' b c h).1⟩
        simp [hil]
  · rcases h with h | h
    · exact hI.dom b c h
    · exact Nat.lt_of_lt_of_le (b' b c h).1 hmid.2
  · rw [← hI.fr c hc hn]
    refine hext.frB c (Nat.lt_of_lt_of_le hc hI.sz) fun b h => ?_
    rcases hI.new b c h.1 with h3 | ⟨h3, _⟩
    · exact hn b h3
    · omega
  · cases o.dst with
    | none => exact hI.tsize
    | some d => simp [Act.put, hI.tsize]
  · cases o.dst <;> exact hI.still
  · have hnd : o.dst ≠ some t := ht i o hi (by simp [hil]) ho
    have : (a'.put o.dst x').tmps.getD t undef = a'.tmps.getD t undef := by
      cases hd : o.dst with
      | none => rfl
      | some d =>
        show (a'.tmps.setIfInBounds d x').getD t undef = _
        rw [getD_set, if_neg]
        rintro ⟨e, _⟩
        exact hnd (by rw [hd, e])
    rw [this]
    refine hI.keep t fun j oj hj hlj hoj => ht j oj hj (getD_set_true hlj) hoj
  · by_cases hji : i = j
    · subst hji
      rw [ho] at hoj
      cases hoj
      have hq : Le β' (cut β2 (qw i).heap.size) := fun b c h => ⟨.inr h, (b' b c h).1⟩
      have e1 : (a'.put o.dst x').tmps.getD t undef = if t < a'.tmps.size then x' else undef := by
        rw [hdj]
        show (a'.tmps.setIfInBounds t x').getD t undef = _
        rw [getD_set]
        by_cases hlt : t < a'.tmps.size
        · rw [if_pos ⟨rfl, hlt⟩, if_pos hlt]
        · rw [if_neg (fun h => hlt h.2), if_neg hlt, Array.getD_eq_getD_getElem?, Array.getElem?_eq_none (Nat.le_of_not_lt hlt)]
          rfl
      have e2 := tr.put i o t hi ho hdj
      have es : a0.tmps.size = a'.tmps.size := by rw [← tr.size]; exact hsize
      rw [e1, e2, es]
      split
      · exact ⟨val.mono hq hx, fun h => one.mono hq (hx1 t hdj h)⟩
      · exact ⟨one_undef.val, fun _ => one_undef⟩
    · rw [getD_set_ne false hji] at hlj
      have hne : o.dst ≠ some t := fun e => hji (hap.dist i j o oj t hi hj ho hoj e hdj)
      have : (a'.put o.dst x').tmps.getD t undef = a'.tmps.getD t undef := by
        cases hd : o.dst with
        | none => rfl
        | some d =>
          show (a'.tmps.setIfInBounds d x').getD t undef = _
          rw [getD_set, if_neg]
          rintro ⟨e, _⟩
          exact hne (by rw [hd, e])
      rw [this]
      obtain ⟨q1, q2⟩ := hI.done j oj t hj hlj hoj hdj
      exact ⟨val.mono (cut_le2 hl2) q1, fun h => one.mono (cut_le2 hl2) (q2 h)⟩
end
end Go.Tw
