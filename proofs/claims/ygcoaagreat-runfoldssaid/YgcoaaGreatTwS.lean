/-
  Two runs of one text: the first run's way through a region, and the law for such regions.
-/
import Derived.Test.YgcoaaGreatTwR
set_option linter.unusedVariables false
set_option linter.unusedSimpArgs false
namespace Go.Tw
open Go.Mix

/-- The first run within the region. -/
structure PT (V : Env) (f : FuncId) (ops : Array Oper) (n0 : Nat) (a0 : Act) (ws : World) (listed : Array Bool) (a : Act) (w : World) (av : Nat → Act) (pw qw : Nat → World) (xs : Nat → Value) : Prop where
  op : ∀ (i : Nat) o, i < n0 → listed.getD i false = true → ops[i]? = some o → Opered2 V f ops i o (av i) (pw i) (xs i) (qw i)
  ran : ∀ (i : Nat) o, i < n0 → listed.getD i false = true → ops[i]? = some o → notCall o = true → Ran V ops o (av i) (pw i) (xs i) (qw i)
  avsz : ∀ i, i < n0 → listed.getD i false = true → (av i).tmps.size = a0.tmps.size
  avput : ∀ (i : Nat) o t (j : Nat) oj, i < n0 → listed.getD i false = true → ops[i]? = some o → t ∈ o.looksAt ops → j < n0 → ops[j]? = some oj → oj.dst = some t → (∃ e ∈ o.after, Region.binds .any e = true ∧ e.on = j) → (av i).tmps.getD t undef = a.tmps.getD t undef
  avold : ∀ (i : Nat) o t (j : Nat) oj, i < n0 → listed.getD i false = true → ops[i]? = some o → t ∈ o.looksAt ops → j < n0 → ops[j]? = some oj → oj.dst = some t → (∃ e ∈ oj.after, Region.binds .any e = true ∧ e.on = i) → (av i).tmps.getD t undef = a0.tmps.getD t undef
  avsame : ∀ (i : Nat) o t, i < n0 → listed.getD i false = true → ops[i]? = some o → t ∈ o.looksAt ops → (∀ (j : Nat) oj, j < n0 → ops[j]? = some oj → oj.dst ≠ some t) → (av i).tmps.getD t undef = a0.tmps.getD t undef
  size : a.tmps.size = a0.tmps.size
  put : ∀ (i : Nat) o t, i < n0 → listed.getD i false = true → ops[i]? = some o → o.dst = some t → a.tmps.getD t undef = if t < a0.tmps.size then xs i else undef
  same : ∀ t, (∀ (i : Nat) o, i < n0 → listed.getD i false = true → ops[i]? = some o → o.dst ≠ some t) → a.tmps.getD t undef = a0.tmps.getD t undef
  still : a.defers = []
  lo : ∀ i, i < n0 → listed.getD i false = true → ws.heap.size ≤ (pw i).heap.size
  mid : ∀ i, i < n0 → listed.getD i false = true → (pw i).heap.size ≤ (qw i).heap.size ∧ (qw i).heap.size ≤ w.heap.size
  start : ws.heap.size ≤ w.heap.size
  apart : ∀ i j, i < n0 → j < n0 → listed.getD i false = true → listed.getD j false = true → i ≠ j → (qw i).heap.size ≤ (pw j).heap.size ∨ (qw j).heap.size ≤ (pw i).heap.size
  edge : ∀ (i : Nat) o t (j : Nat) oj, i < n0 → listed.getD i false = true → ops[i]? = some o → t ∈ o.looksAt ops → j < n0 → ops[j]? = some oj → oj.dst = some t → (∃ e ∈ o.after, Region.binds .any e = true ∧ e.on = j) → (qw j).heap.size ≤ (pw i).heap.size
  cP : ∀ i, i < n0 → listed.getD i false = true → ∀ b : Nat, b < (pw i).heap.size → (pw i).heap[b]? = w.heap[b]?
  cQ : ∀ i, i < n0 → listed.getD i false = true → ∀ b : Nat, b < (qw i).heap.size → (qw i).heap[b]? = w.heap[b]?
  cS : ∀ b : Nat, b < ws.heap.size → w.heap[b]? = ws.heap[b]?
  keeps : Keeps V f a0 ws a w

section
variable {V : Env} {f : FuncId} {ops : Array Oper} {n0 : Nat} {a0 : Act} {ws : World} {listed : Array Bool} {a : Act} {w : World} {av : Nat → Act} {pw qw : Nat → World} {xs : Nat → Value}

theorem PT.begin (hd : a0.defers = []) : PT V f ops n0 a0 ws (Array.replicate ops.size false) a0 ws av pw qw xs := by
  have hf : ∀ i, (Array.replicate ops.size false).getD i false = true → False := by
    intro i h
    simp only [Array.getD_eq_getD_getElem?, Array.getElem?_replicate] at h
    split at h <;> simp at h
  exact
    { op := fun i o _ hl _ => (hf i hl).elim, ran := fun i o _ hl _ _ => (hf i hl).elim, avsz := fun i _ hl => (hf i hl).elim, avput := fun i o t j oj _ hl _ _ _ _ _ _ => (hf i hl).elim, avold := fun i o t j oj _ hl _ _ _ _ _ _ => (hf i hl).elim, avsame := fun i o t _ hl _ _ _ => (hf i hl).elim, size := rfl, put := fun i o t _ hl _ _ => (hf i hl).elim, same := fun t _ => rfl, still := hd, lo := fun i _ hl => (hf i hl).elim, mid := fun i _ hl => (hf i hl).elim, start := Nat.le_refl _,
      apart := fun i j _ _ hl _ _ => (hf i hl).elim, edge := fun i o t j oj _ hl _ _ _ _ _ _ => (hf i hl).elim, cP := fun i _ hl => (hf i hl).elim, cQ := fun i _ hl => (hf i hl).elim, cS := fun _ _ => rfl, keeps := Keeps.refl }

theorem PT.step (hap : Apart ops n0) (h : PT V f ops n0 a0 ws listed a w av pw qw xs) (hdown : Down ops listed) (hsz : listed.size = ops.size) {i : Nat} {o : Oper} (hi : i < n0) (ho : ops[i]? = some o) (hun : listed.getD i false = false)
    (hed : ∀ e ∈ o.after, Region.binds .any e = true → listed.getD e.on false = true) {x : Value} {w1 : World} (hk : Keeps V f a w (a.put o.dst x) w1) (hst : ∀ b : Nat, b < w.heap.size → w1.heap[b]? = w.heap[b]?)
    (hop : Opered2 V f ops i o a w x w1) (hran : notCall o = true → Ran V ops o a w x w1) :
    PT V f ops n0 a0 ws (listed.setIfInBounds i true) (a.put o.dst x) w1 (fun j => if j = i then a else av j) (fun j => if j = i then w else pw j) (fun j => if j = i then w1 else qw j) (fun j => if j = i then x else xs j) := by
  have hil : i < listed.size := by rw [hsz]; exact (Array.getElem?_eq_some_iff.1 ho).1
  have hii : (listed.setIfInBounds i true).getD i false = true := by simp [hil]
  have back : ∀ j, j ≠ i → (listed.setIfInBounds i true).getD j false = true → listed.getD j false = true := fun j hj hl => by rwa [getD_set_ne false (Ne.symm hj)] at hl
  have hw1 : w.heap.size ≤ w1.heap.size := hk.1.1
  have getput : ∀ t, o.dst ≠ some t → (a.put o.dst x).tmps.getD t undef = a.tmps.getD t undef := by
    intro t hne
    cases hd : o.dst with
    | none => rfl
    | some d =>
      show (a.tmps.setIfInBounds d x).getD t undef = _
      rw [getD_set, if_neg]
      rintro ⟨e, _⟩
      exact hne (by rw [hd, e])
  have psize : (a.put o.dst x).tmps.size = a.tmps.size := by cases o.dst <;> simp [Act.put]
  have selfok : ∀ t ∈ o.looksAt ops, o.dst ≠ some t := by
    intro t ht hd
    rcases hap.looks i o t i o hi ho ht hi ho hd with ⟨e, he, hb, hon⟩ | ⟨e, he, hb, hon⟩ <;>
    · have := hed e he hb
      rw [hon, hun] at this
      cases this
  refine
    { op := fun j oj hj hl hoj => ?_, ran := fun j oj hj hl hoj hn => ?_, avsz := fun j hj hl => ?_, avput := fun j oj t l ol hj hlj hoj ht hl hol hd he => ?_, avold := fun j oj t l ol hj hlj hoj ht hl hol hd he => ?_, avsame := fun j oj t hj hlj hoj ht hno => ?_, size := by rw [psize]; exact h.size, put := fun j oj t hj hl hoj hd => ?_, same := fun t ht => ?_, still := by cases o.dst <;> exact h.still, lo := fun j hj hl => ?_, mid := fun j hj hl => ?_, start := Nat.le_trans h.start hw1,
      apart := fun j l hj hl hlj hll hne => ?_, edge := fun j oj t l ol hj hlj hoj ht hl hol hd hee => ?_, cP := fun j hj hl b hb => ?_, cQ := fun j hj hl b hb => ?_, cS := fun b hb => ?_, keeps := h.keeps.trans hk }
  · by_cases e : j = i
    · subst e
      rw [ho] at hoj
      cases hoj
      simp only [if_true]
      exact hop
    · simp only [e, if_false]
      exact h.op j oj hj (back j e hl) hoj
  · by_cases e : j = i
    · subst e
      rw [ho] at hoj
      cases hoj
      simp only [if_true]
      exact hran hn
    · simp only [e, if_false]
      exact h.ran j oj hj (back j e hl) hoj hn
  · by_cases e : j = i
    · subst e; simp only [if_true]; exact h.size
    · simp only [e, if_false]; exact h.avsz j hj (back j e hl)
  · -- avput
    by_cases e : j = i
    · subst e
      rw [ho] at hoj
      cases hoj
      simp only [if_true]
      exact (getput t (selfok t ht)).symm
    · simp only [e, if_false]
      rw [h.avput j oj t l ol hj (back j e hlj) hoj ht hl hol hd he]
      refine (getput t fun hd' => ?_).symm
      have := hap.dist l i ol o t hl hi hol ho hd hd'
      subst this
      obtain ⟨ed, hed1, hb, hon⟩ := he
      have := hdown j oj hoj (back j e hlj) ed hed1 hb
      rw [hon, hun] at this
      cases this
  · -- avold
    by_cases e : j = i
    · subst e
      rw [ho] at hoj
      cases hoj
      simp only [if_true]
      refine h.same t fun j2 oj2 hj2 hl2 hoj2 hd2 => ?_
      have := hap.dist j2 l oj2 ol t hj2 hl hoj2 hol hd2 hd
      subst this
      obtain ⟨ed, hed1, hb, hon⟩ := he
      have := hdown j2 ol hol hl2 ed hed1 hb
      rw [hon, hun] at this
      cases this
    · simp only [e, if_false]
      exact h.avold j oj t l ol hj (back j e hlj) hoj ht hl hol hd he
  · by_cases e : j = i
    · subst e
      simp only [if_true]
      exact h.same t fun j2 oj2 hj2 _ hoj2 => hno j2 oj2 hj2 hoj2
    · simp only [e, if_false]
      exact h.avsame j oj t hj (back j e hlj) hoj ht hno
  · by_cases e : j = i
    · subst e
      rw [ho] at hoj
      cases hoj
      simp only [if_true]
      rw [hd]
      show (a.tmps.setIfInBounds t x).getD t undef = _
      rw [getD_set, ← h.size]
      by_cases hlt : t < a.tmps.size
      · rw [if_pos ⟨rfl, hlt⟩, if_pos hlt]
      · rw [if_neg (fun h => hlt h.2), if_neg hlt, Array.getD_eq_getD_getElem?, Array.getElem?_eq_none (Nat.le_of_not_lt hlt)]
        rfl
    · simp only [e, if_false]
      rw [getput t fun hd' => e (hap.dist j i oj o t hj hi hoj ho hd hd')]
      exact h.put j oj t hj (back j e hl) hoj hd
  · rw [getput t (ht i o hi hii ho)]
    exact h.same t fun j oj hj hl hoj => ht j oj hj (getD_set_true hl) hoj
  · by_cases e : j = i
    · subst e; simp only [if_true]; exact h.start
    · simp only [e, if_false]; exact h.lo j hj (back j e hl)
  · by_cases e : j = i
    · subst e; simp only [if_true]; exact ⟨hw1, Nat.le_refl _⟩
    · simp only [e, if_false]
      have := h.mid j hj (back j e hl)
      exact ⟨this.1, Nat.le_trans this.2 hw1⟩
  · by_cases e : j = i
    · subst e
      have e2 : l ≠ j := fun h => hne h.symm
      simp only [if_true, e2, if_false]
      exact .inr (h.mid l hl (back l e2 hll)).2
    · by_cases e2 : l = i
      · subst e2
        simp only [e, if_false, if_true]
        exact .inl (h.mid j hj (back j e hlj)).2
      · simp only [e, e2, if_false]
        exact h.apart j l hj hl (back j e hlj) (back l e2 hll) hne
  · by_cases e2 : l = i
    · subst e2
      exfalso
      rw [ho] at hol
      cases hol
      obtain ⟨ed, he, hb, hon⟩ := hee
      by_cases e : j = l
      · subst e
        rw [ho] at hoj
        cases hoj
        exact selfok t ht hd
      · have := hdown j oj hoj (back j e hlj) ed he hb
        rw [hon, hun] at this
        cases this
    · by_cases e : j = i
      · subst e
        rw [ho] at hoj
        cases hoj
        simp only [if_true, e2, if_false]
        obtain ⟨ed, he, hb, hon⟩ := hee
        have := hed ed he hb
        rw [hon] at this
        exact (h.mid l hl this).2
      · simp only [e, e2, if_false]
        exact h.edge j oj t l ol hj (back j e hlj) hoj ht hl hol hd hee
  · by_cases e : j = i
    · subst e
      simp only [if_true] at hb ⊢
      exact (hst b hb).symm
    · simp only [e, if_false] at hb ⊢
      rw [h.cP j hj (back j e hl) b hb]
      have := h.mid j hj (back j e hl)
      exact (hst b (by omega)).symm
  · by_cases e : j = i
    · subst e; simp only [if_true]
    · simp only [e, if_false] at hb ⊢
      rw [h.cQ j hj (back j e hl) b hb]
      have := h.mid j hj (back j e hl)
      exact (hst b (by omega)).symm
  · rw [hst b (Nat.lt_of_lt_of_le hb h.start)]
    exact h.cS b hb

theorem PT.trace (h : PT V f ops n0 a0 ws (upto ops.size n0) a w av pw qw xs) (hle : n0 ≤ ops.size) : Trace V f ops n0 a0 ws a av (fun j => if j < n0 then pw j else w) qw xs := by
  have hl : ∀ i, i < n0 → (upto ops.size n0).getD i false = true := by
    intro i hi
    rw [Array.getD_eq_getD_getElem?, upto_get _ _ i hle (by omega)]
    simp [hi]
  have sz : ∀ i, i ≤ n0 → (if i < n0 then pw i else w).heap.size ≤ w.heap.size := by
    intro i hi
    split
    · rename_i h1
      have := h.mid i h1 (hl i h1)
      omega
    · exact Nat.le_refl _
  have ct : ∀ i, i ≤ n0 → ∀ b : Nat, b < (if i < n0 then pw i else w).heap.size → (if i < n0 then pw i else w).heap[b]? = w.heap[b]? := by
    intro i hi b hb
    split
    · rename_i h1
      rw [if_pos h1] at hb
      exact h.cP i h1 (hl i h1) b hb
    · rfl
  refine
    { op := fun i o hi ho => by simp only [hi, if_true]; exact h.op i o hi (hl i hi) ho, ran := fun i o hi ho hn => by simp only [hi, if_true]; exact h.ran i o hi (hl i hi) ho hn, avsz := fun i hi => h.avsz i hi (hl i hi), avput := fun i o t j oj hi ho ht hj hoj hd he => h.avput i o t j oj hi (hl i hi) ho ht hj hoj hd he, avold := fun i o t j oj hi ho ht hj hoj hd he => h.avold i o t j oj hi (hl i hi) ho ht hj hoj hd he, avsame := fun i o t hi ho ht hn => h.avsame i o t hi (hl i hi) ho ht hn, size := h.size, put := fun i o t hi ho hd => h.put i o t hi (hl i hi) ho hd, same := fun t ht => h.same t fun i o hi _ ho => ht i o hi ho, still := h.still,
      lo := fun i hi => ?_, mid := fun i hi => ?_, hi := fun i hi => ?_, apart := fun i j hi hj hne => ?_, edge := fun i o t j oj hi ho ht hj hoj hd he => ?_, cohP := fun i k hi hk b hb hb2 => ?_, cohQ := fun i k hi hk b hb hb2 => ?_, cohS := fun k hk b hb => ?_ }
  · split
    · exact h.lo i ‹_› (hl i ‹_›)
    · exact h.start
  · have := h.mid i hi (hl i hi)
    simp only [hi, if_true, Nat.lt_irrefl, if_false]
    exact this
  · simp only [Nat.lt_irrefl, if_false]
    exact sz i hi
  · simp only [hi, hj, if_true]
    exact h.apart i j hi hj (hl i hi) (hl j hj) hne
  · simp only [hi, if_true]
    exact h.edge i o t j oj hi (hl i hi) ho ht hj hoj hd he
  · rw [ct i hi b hb, ct k hk b hb2]
  · rw [h.cQ i hi (hl i hi) b hb, ct k hk b hb2]
  · rw [ct k hk b ?_]
    · exact h.cS b hb
    · split
      · exact Nat.lt_of_lt_of_le hb (h.lo k ‹_› (hl k ‹_›))
      · exact Nat.lt_of_lt_of_le hb h.start
end

/-- What a region that draws its order must be like. -/
structure DrOk (V : Env) (ops : Array Oper) (n0 : Nat) : Prop where
  shaped : Shaped ops n0
  apart : Apart ops n0
  head : ∀ (i : Nat) o, i < n0 → ops[i]? = some o → headOk V o = true

theorem go_tail {ops : Array Oper} {n0 : Nat} (hS : Shaped ops n0) : ∀ (fuel k t : Nat), n0 ≤ k → k ≤ ops.size → ops.size - k ≤ fuel → Region.linearise.go .any ops fuel t (upto ops.size k) [] = List.range' k (ops.size - k)
  | 0, k, t, h1, h2, h3 => by
    have : ops.size - k = 0 := by omega
    rw [this]
    rfl
  | fuel + 1, k, t, h1, h2, h3 => by
    have hr := hS.seq k h1 h2
    show (match (Region.ready .any ops (upto ops.size k))[t % (Region.ready .any ops (upto ops.size k)).length]? with
      | some i => Region.linearise.go .any ops fuel (t / (Region.ready .any ops (upto ops.size k)).length) ((upto ops.size k).setIfInBounds i true) [i]
      | none => [].reverse) = _
    rw [hr]
    by_cases hk : k < ops.size
    · simp only [hk, if_true, List.length_singleton, Nat.mod_one, List.getElem?_cons_zero, Nat.div_one]
      rw [linearise_go_acc, upto_succ hk, go_tail hS fuel (k + 1) t (by omega) hk (by omega)]
      have e : ops.size - k = (ops.size - (k + 1)) + 1 := by omega
      rw [e, List.range'_succ]
      rfl
    · have : ops.size - k = 0 := by omega
      simp [hk, this]

section
variable {V : Env} {dr : FuncId → Array Oper → Bool} {v : Value} {w0 : World} {N : Nat}

theorem head_A (hv : Given V dr) (ih : ∀ M, M < N → At V dr v w0 M) {ops : Array Oper} {n0 : Nat} (hok : DrOk V ops n0) {b : Frame} {k : List Item} {cs : List Frame} (hg : Good V.P cs) (hcs : cs ≠ [])
    (hops : ∀ (i : Nat) o, ops[i]? = some o → okOp2 V.P (V.TT b.fn) V.E o = true ∧ okDst V b.fn o = true ∧ okKeeps V b.fn o = true) {a0 : Act} {ws : World} :
    ∀ (fuel t : Nat) (listed : Array Bool) (a : Act) (w : World) (av : Nat → Act) (pw qw : Nat → World) (xs : Nat → Value) (M : Nat), listed.size = ops.size → listed.count false ≤ fuel → (∀ k, n0 ≤ k → listed.getD k false = false) → Down ops listed →
      PT V b.fn ops n0 a0 ws listed a w av pw qw xs → Mate V b.fn a w → M ≤ N → Ends V.P v w0 M (lone (b.at a (.inRegion ops (Region.linearise.go .any ops fuel t listed []) :: k)) cs w) →
      ∃ ah wh av pw qw xs K, K ≤ M ∧ PT V b.fn ops n0 a0 ws (upto ops.size n0) ah wh av pw qw xs ∧ Mate V b.fn ah wh ∧ Ends V.P v w0 K (lone (b.at ah (.inRegion ops (List.range' n0 (ops.size - n0)) :: k)) cs wh) := by
  have hS := hok.shaped
  have hle := hS.le
  have fin : ∀ (fuel t : Nat) (listed : Array Bool) (a : Act) (w : World) (av : Nat → Act) (pw qw : Nat → World) (xs : Nat → Value) (M : Nat), listed.size = ops.size → listed.count false ≤ fuel → (∀ k, n0 ≤ k → listed.getD k false = false) →
      PT V b.fn ops n0 a0 ws listed a w av pw qw xs → Mate V b.fn a w → Ends V.P v w0 M (lone (b.at a (.inRegion ops (Region.linearise.go .any ops fuel t listed []) :: k)) cs w) → (∀ j, j < n0 → listed.getD j false = true) →
      ∃ ah wh av pw qw xs K, K ≤ M ∧ PT V b.fn ops n0 a0 ws (upto ops.size n0) ah wh av pw qw xs ∧ Mate V b.fn ah wh ∧ Ends V.P v w0 K (lone (b.at ah (.inRegion ops (List.range' n0 (ops.size - n0)) :: k)) cs wh) := by
    intro fuel t listed a w av pw qw xs M hsz hc hpre hpt hm h hall
    have hl := all_listed hS hsz hpre hall
    have hcc : ops.size - n0 ≤ fuel := by
      rw [hl] at hc
      simpa [upto, Array.count_append, Array.count_replicate] using hc
    rw [hl] at hpt h
    rw [go_tail hS fuel n0 t (Nat.le_refl _) hle hcc] at h
    exact ⟨a, w, av, pw, qw, xs, M, Nat.le_refl _, hpt, hm, h⟩
  intro fuel
  induction fuel with
  | zero =>
    intro t listed a w av pw qw xs M hsz hc hpre hdown hpt hm hM h
    refine fin 0 t listed a w av pw qw xs M hsz hc hpre hpt hm h fun j hj => ?_
    have hjl : j < listed.size := by rw [hsz]; omega
    have h0 : ¬ (false ∈ listed) := Array.not_mem_of_count_eq_zero (by omega)
    have : listed[j] ≠ false := fun e => h0 (e ▸ Array.getElem_mem hjl)
    simp [hjl]
    simpa using this
  | succ fuel ihf =>
    intro t listed a w av pw qw xs M hsz hc hpre hdown hpt hm hM h
    by_cases hall : ∀ j, j < n0 → listed.getD j false = true
    · exact fin _ t listed a w av pw qw xs M hsz hc hpre hpt hm h hall
    · obtain ⟨hne, hlow⟩ := one_ready hS hsz hdown hall
      have hgo : ∃ i, i ∈ Region.ready .any ops listed ∧ ∃ t', Region.linearise.go .any ops (fuel + 1) t listed [] = i :: Region.linearise.go .any ops fuel t' (listed.setIfInBounds i true) [] := by
        have hpos : 0 < (Region.ready .any ops listed).length := List.length_pos_iff.2 hne
        have hlt : t % (Region.ready .any ops listed).length < (Region.ready .any ops listed).length := Nat.mod_lt _ hpos
        refine ⟨(Region.ready .any ops listed)[t % (Region.ready .any ops listed).length], List.getElem_mem hlt, t / (Region.ready .any ops listed).length, ?_⟩
        show (match (Region.ready .any ops listed)[t % (Region.ready .any ops listed).length]? with
          | some i => Region.linearise.go .any ops fuel (t / (Region.ready .any ops listed).length) (listed.setIfInBounds i true) [i]
          | none => [].reverse) = _
        rw [List.getElem?_eq_getElem hlt]
        dsimp only
        rw [linearise_go_acc]
        rfl
      obtain ⟨i, hi, t', hgo⟩ := hgo
      rw [hgo] at h
      have hin0 := hlow i hi
      obtain ⟨hun, o, ho, hdeps⟩ := mem_ready.1 hi
      have hio : i < ops.size := (Array.getElem?_eq_some_iff.1 ho).1
      have hil : i < listed.size := by rw [hsz]; exact hio
      have hif : listed[i] = false := by simpa [hil] using hun
      have hif' : listed.getD i false = false := by simp [hil, hif]
      obtain ⟨x, w1, K, hK, hkp, hst, h1, hran, hm1, hop⟩ := op_gen hv ih hg hcs ho (hops i o ho) _ hm hM h
      have hpt1 := hpt.step hok.apart hdown hsz hin0 ho hif' hdeps hkp (hst (hok.head i o hin0 ho)) hop hran
      obtain ⟨ah, wh, av2, pw2, qw2, xs2, K2, q1, q2, q3, q4⟩ := ihf t' _ _ w1 _ _ _ _ K (by simp [hsz]) (by
        have := Array.count_set (xs := listed) (i := i) (a := true) (b := false) hil
        rw [Array.setIfInBounds_def, dif_pos hil, this, hif]
        simp
        omega) (by
        intro k hk
        rw [getD_set_ne false (by omega)]
        exact hpre k hk) (down_set hdown ho hil hdeps) hpt1 hm1 (by omega) h1
      exact ⟨ah, wh, av2, pw2, qw2, xs2, K2, by omega, q2, q3, q4⟩
end
end Go.Tw
