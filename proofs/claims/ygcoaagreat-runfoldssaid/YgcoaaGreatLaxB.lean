/-
  The law of YgcoaaGreatLax as a walk in the order of the text.
-/
import Derived.Test.YgcoaaGreatLax
import Derived.Test.YgcoaaGreatIeeeD
set_option linter.unusedVariables false
namespace Go.Lax
open Go.RowKit Go.Mix

/-- The later worlds. -/
def Cls (w0 : World) (w' : World) : Prop := ∃ x : Go.Proofs.YgcoaaGreat.NatW.Later w0, w' = x.at_

def fact (Ψ : Nat → Value → Prop) (Θ : Nat → Value → World → Prop) (mk : Nat → Bool) (k : Nat) (w : World) (v : Value) (w' : World) : Prop :=
  Ψ k v ∧ Θ k v w' ∧ (mk k = true → v = .pointer (some ⟨w.heap.size, 0, none⟩) ∧ w.heap.size < w'.heap.size)

/-- THE WALK. -/
def Walk (P : Program) (ops : Array Oper) (Q : Exit → Act → World → Prop) (K : Nat → Bool) (Ψ : Nat → Value → Prop) (Θ : Nat → Value → World → Prop) (mk : Nat → Bool) (w0 : World) : Nat → List Oper → Nat → Act → List (Nat × (World → Prop)) → List Value → Prop
  | 0, rest, _, a, Γ, D => ∀ w, Below w0.heap.size w0 w → (∀ p ∈ Γ, p.2 w) → D.Pairwise (· ≠ ·) → wpList P ops Q rest a w
  | _ + 1, [], _, _, _, _ => False
  | m + 1, o :: rest, k, a, Γ, D =>
    (K k = true → (∀ w, Below w0.heap.size w0 w → (∀ p ∈ Γ, depOn o p.1 = true → p.2 w) → wpList P ops (One a o w (fact Ψ Θ mk k w)) [o] a w) ∧
      ∀ v, Ψ k v → Walk P ops Q K Ψ Θ mk w0 m rest (k + 1) (a.put o.dst v) ((k, Θ k v) :: Γ) (if mk k then v :: D else D)) ∧
    (K k = false → plain o = true ∧ o.quiet P a (fun w' => ∃ x : Go.Proofs.YgcoaaGreat.NatW.Later w0, w' = x.at_) fun a' => Walk P ops Q K Ψ Θ mk w0 m rest (k + 1) a' Γ D)

section
variable {P : Program} {Q : Exit → Act → World → Prop} {K : Nat → Bool} {Ψ : Nat → Value → Prop} {Θ : Nat → Value → World → Prop} {mk : Nat → Bool} {a0 : Act} {w0 : World}

theorem walk_call {ops : Array Oper} {m k : Nat} {o : Oper} {rest : List Oper} {a : Act} {Γ : List (Nat × (World → Prop))} {D : List Value} (hk : K k = true)
    (h1 : ∀ w, Below w0.heap.size w0 w → (∀ p ∈ Γ, depOn o p.1 = true → p.2 w) → wpList P ops (One a o w (fact Ψ Θ mk k w)) [o] a w)
    (h2 : ∀ v, Ψ k v → Walk P ops Q K Ψ Θ mk w0 m rest (k + 1) (a.put o.dst v) ((k, Θ k v) :: Γ) (if mk k then v :: D else D)) : Walk P ops Q K Ψ Θ mk w0 (m + 1) (o :: rest) k a Γ D :=
  ⟨fun _ => ⟨h1, h2⟩, fun h => by rw [hk] at h; cases h⟩

theorem walk_det {ops : Array Oper} {m k : Nat} {o : Oper} {rest : List Oper} {a : Act} {Γ : List (Nat × (World → Prop))} {D : List Value} (hk : K k = false) (hp : plain o = true) (hg : o.guard = none)
    (h : wpQuiet P ops (fun w' => ∃ x : Go.Proofs.YgcoaaGreat.NatW.Later w0, w' = x.at_) (fun a' => Walk P ops Q K Ψ Θ mk w0 m rest (k + 1) a' Γ D) [o] a) : Walk P ops Q K Ψ Θ mk w0 (m + 1) (o :: rest) k a Γ D := by
  refine ⟨fun h => (by rw [hk] at h; cases h), fun _ => ⟨hp, ?_⟩⟩
  simp only [wpQuiet, Region.wanted, hg, if_true] at h
  exact h

theorem walk_end {ops : Array Oper} {k : Nat} {rest : List Oper} {a : Act} {Γ : List (Nat × (World → Prop))} {D : List Value}
    (h : ∀ w, Below w0.heap.size w0 w → (∀ p ∈ Γ, p.2 w) → D.Pairwise (· ≠ ·) → wpList P ops Q rest a w) : Walk P ops Q K Ψ Θ mk w0 0 rest k a Γ D := h

def Gam (K : Nat → Bool) (Θ : Nat → Value → World → Prop) (vals : Nat → Value) : Nat → List (Nat × (World → Prop))
  | 0 => []
  | k + 1 => if K k then (k, Θ k (vals k)) :: Gam K Θ vals k else Gam K Θ vals k
def Dis (K mk : Nat → Bool) (vals : Nat → Value) : Nat → List Value
  | 0 => []
  | k + 1 => if K k && mk k then vals k :: Dis K mk vals k else Dis K mk vals k

theorem mem_Gam {vals : Nat → Value} {p : Nat × (World → Prop)} : ∀ {k}, p ∈ Gam K Θ vals k → ∃ j, j < k ∧ K j = true ∧ p = (j, Θ j (vals j))
  | 0, h => by cases h
  | k + 1, h => by
    simp only [Gam] at h
    split at h
    · rename_i hk
      rcases List.mem_cons.1 h with h | h
      · exact ⟨k, by omega, hk, h⟩
      · obtain ⟨j, hj, e⟩ := mem_Gam h
        exact ⟨j, by omega, e⟩
    · obtain ⟨j, hj, e⟩ := mem_Gam h
      exact ⟨j, by omega, e⟩
theorem mem_Dis {vals : Nat → Value} {x : Value} : ∀ {k}, x ∈ Dis K mk vals k → ∃ j, j < k ∧ mk j = true ∧ x = vals j
  | 0, h => by cases h
  | k + 1, h => by
    simp only [Dis] at h
    split at h
    · rename_i hm
      rcases List.mem_cons.1 h with h | h
      · exact ⟨k, by omega, by simp at hm; exact hm.2, h⟩
      · obtain ⟨j, hj, e⟩ := mem_Dis h
        exact ⟨j, by omega, e⟩
    · obtain ⟨j, hj, e⟩ := mem_Dis h
      exact ⟨j, by omega, e⟩
theorem pairwise_Dis {vals : Nat → Value} {n : Nat} (h : ∀ i j, i < n → j < n → i ≠ j → mk i = true → mk j = true → vals i ≠ vals j) : ∀ k, k ≤ n → (Dis K mk vals k).Pairwise (· ≠ ·)
  | 0, _ => List.Pairwise.nil
  | k + 1, hk => by
    simp only [Dis]
    split
    · rename_i hm
      simp at hm
      refine List.Pairwise.cons (fun x hx => ?_) (pairwise_Dis h k (by omega))
      obtain ⟨j, hj, hmj, rfl⟩ := mem_Dis hx
      exact h k j (by omega) (by omega) (by omega) hm.2 hmj
    · exact pairwise_Dis h k (by omega)

/-- An operation's value by reckoning: in every later world the same. -/
def Dt (P : Program) (ops : Array Oper) (a0 : Act) (w0 : World) (i : Nat) (vals : Nat → Value) (v : Value) : Prop :=
  ∀ o, ops[i]? = some o → ∀ w, Below w0.heap.size w0 w → (execOp (lit ops vals i a0).eval o).run P w = .ok (.value v) w ∨ ((execOp (lit ops vals i a0).eval o).run P w = .ok .skip w ∧ v = undef)

def PhiAt (P : Program) (ops : Array Oper) (a0 : Act) (w0 : World) (K : Nat → Bool) (Ψ : Nat → Value → Prop) (Θ : Nat → Value → World → Prop) (i : Nat) (vals : Nat → Value) (v : Value) (w : World) : Prop :=
  (K i = true → Ψ i v ∧ Θ i v w) ∧ (K i = false → Dt P ops a0 w0 i vals v)

theorem exec_same {ops : Array Oper} {n0 : Nat} (hS : Shape ops n0) (hin : ∀ i t, i < n0 → dst ops i = some t → t < a0.tmps.size) {i : Nat} {o : Oper} (hi : i < n0) (ho : ops[i]? = some o) {vals vals' : Nat → Value}
    (h : ∀ e ∈ o.after, Region.binds .any e = true → vals e.on = vals' e.on) : execOp (lit ops vals i a0).eval o = execOp (lit ops vals' i a0).eval o := by
  refine execOp_congr o (fun cs b => hS.nosel i o cs b hi ho) fun x hx => ?_
  cases x with
  | tmp t' =>
    have : (lit ops vals i a0).tmps[t']? = (lit ops vals' i a0).tmps[t']? := by
      by_cases hex : ∃ j, j < n0 ∧ dst ops j = some t'
      · obtain ⟨j, hj, hdj⟩ := hex
        obtain ⟨e, he, hb, hon⟩ := hS.looks i o hi ho t' hx j hj hdj
        subst hon
        have hji := hS.low i o ho e he hb
        have htj := hin e.on t' hj hdj
        rw [lit_hit ops vals a0 t' htj e.on hdj i hji (fun k hk hdk => hS.dist k e.on t' (by omega) hj hdk hdj), lit_hit ops vals' a0 t' htj e.on hdj i hji (fun k hk hdk => hS.dist k e.on t' (by omega) hj hdk hdj)]
        rw [h e he hb]
      · have hno : ∀ j, j < i → dst ops j ≠ some t' := fun j hj hdj => hex ⟨j, by omega, hdj⟩
        rw [lit_miss ops vals a0 t' i hno, lit_miss ops vals' a0 t' i hno]
    simp only [Act.eval, Array.getD_eq_getD_getElem?, this]
  | _ => rfl

theorem det_of_quiet {o : Oper} (hp : plain o = true) {a : Act} {v : Value} {w : World} (hb : Below w0.heap.size w0 w) (h : ∀ w, (∃ x : Go.Proofs.YgcoaaGreat.NatW.Later w0, w = x.at_) → o.quietAt P a (fun w' => ∃ x : Go.Proofs.YgcoaaGreat.NatW.Later w0, w' = x.at_) w v) :
    (execOp a.eval o).run P w = .ok (.value v) w ∨ ((execOp a.eval o).run P w = .ok .skip w ∧ v = undef) := by
  have := h w ⟨⟨w, hb⟩, rfl⟩
  unfold Oper.quietAt at this
  have hne : ∀ f args w', (execOp a.eval o).run P w ≠ .ok (.enter f args) w' := fun f args w' => no_enter hp
  generalize (execOp a.eval o).run P w = r at *
  cases r with
  | ok n w' =>
    cases n <;> simp only [Oper.quietUpon] at this
    case value u => left; rw [this.1, this.2]
    case skip => right; rw [this.1]; exact ⟨rfl, this.2⟩
    case enter f args => exact absurd rfl (hne f args w')
  | halt x w' => simp only [Oper.quietUpon] at this

/-- The walk at values that stand for the listed operations, others being made up. -/
theorem fill {l : List Oper} {n0 : Nat} (hS : Shape l.toArray n0) (hin : ∀ i t, i < n0 → dst l.toArray i = some t → t < a0.tmps.size)
    (hex : ∀ k, k < n0 → K k = true → ∃ v, Ψ k v) (h : Walk P l.toArray Q K Ψ Θ mk w0 n0 l 0 a0 [] []) (hmk : ∀ k, mk k = true → K k = true)
    (L : Nat → Prop) (hL : ∀ j oj, l.toArray[j]? = some oj → L j → ∀ e ∈ oj.after, Region.binds .any e = true → L e.on) (vals : Nat → Value) (w : World) (hf : ∀ j, j < n0 → L j → PhiAt P l.toArray a0 w0 K Ψ Θ j vals (vals j) w) :
    ∀ k, k ≤ n0 → ∃ vals' : Nat → Value, (∀ j, j < k → L j → vals' j = vals j) ∧ Walk P l.toArray Q K Ψ Θ mk w0 (n0 - k) (l.drop k) k (lit l.toArray vals' k a0) (Gam K Θ vals' k) (Dis K mk vals' k)
  | 0, _ => ⟨vals, fun _ _ _ => rfl, by simpa [lit, Gam, Dis] using h⟩
  | k + 1, hk => by
    obtain ⟨V, hV, ih⟩ := fill hS hin hex h hmk L hL vals w hf k (by omega)
    have hle : n0 ≤ l.length := by simpa using hS.le
    have e1 : n0 - k = (n0 - (k + 1)) + 1 := by omega
    have hkl : k < l.length := by omega
    rw [e1, List.drop_eq_getElem_cons hkl] at ih
    have hok : l.toArray[k]? = some l[k] := by simp [hkl]
    have hgo : ∀ v, (L k → v = vals k) → Walk P l.toArray Q K Ψ Θ mk w0 (n0 - (k + 1)) (l.drop (k + 1)) (k + 1) ((lit l.toArray V k a0).put l[k].dst v) (if K k then (k, Θ k v) :: Gam K Θ V k else Gam K Θ V k) (if K k && mk k then v :: Dis K mk V k else Dis K mk V k) →
        ∃ vals' : Nat → Value, (∀ j, j < k + 1 → L j → vals' j = vals j) ∧ Walk P l.toArray Q K Ψ Θ mk w0 (n0 - (k + 1)) (l.drop (k + 1)) (k + 1) (lit l.toArray vals' (k + 1) a0) (Gam K Θ vals' (k + 1)) (Dis K mk vals' (k + 1)) := by
      intro v hv hw
      have hlow : ∀ j, j < k → V j = (fun j => if j = k then v else V j) j := fun j hj => by simp; omega
      refine ⟨fun j => if j = k then v else V j, ?_, ?_⟩
      · intro j hj hLj
        by_cases hjk : j = k
        · subst hjk; simpa using hv hLj
        · simp only [hjk, if_false]; exact hV j (by omega) hLj
      · have g1 : ∀ m, m ≤ k → Gam K Θ (fun j => if j = k then v else V j) m = Gam K Θ V m := by
          intro m
          induction m with
          | zero => intro _; rfl
          | succ m ihm => intro hm; simp only [Gam]; rw [ihm (by omega), if_neg (show ¬ m = k by omega)]
        have g2 : ∀ m, m ≤ k → Dis K mk (fun j => if j = k then v else V j) m = Dis K mk V m := by
          intro m
          induction m with
          | zero => intro _; rfl
          | succ m ihm => intro hm; simp only [Dis]; rw [ihm (by omega), if_neg (show ¬ m = k by omega)]
        simp only [lit, Gam, Dis, hok, Option.bind_some, if_true]
        rw [g1 k (Nat.le_refl _), g2 k (Nat.le_refl _), ← lit_congr l.toArray V _ a0 k hlow]
        exact hw
    cases hKk : K k with
    | true =>
      have hw := (ih.1 hKk).2
      by_cases hLk : L k
      · have hΨ := ((hf k (by omega) hLk).1 hKk).1
        refine hgo (vals k) (fun _ => rfl) ?_
        simpa [hKk] using hw (vals k) hΨ
      · obtain ⟨v, hv⟩ := hex k (by omega) hKk
        refine hgo v (fun h => absurd h hLk) ?_
        simpa [hKk] using hw v hv
    | false =>
      obtain ⟨hp, v, hq, hn⟩ := ih.2 hKk
      refine hgo v (fun hLk => ?_) (by simpa [hKk] using hn)
      have hD := (hf k (by omega) hLk).2 hKk l[k] hok w0 (Below.refl _ _)
      have hsame : execOp (lit l.toArray V k a0).eval l[k] = execOp (lit l.toArray vals k a0).eval l[k] :=
        exec_same hS hin (by omega) hok fun e he hbe => hV e.on (hS.low k _ hok e he hbe) (hL k _ hok hLk e he hbe)
      have hD' := det_of_quiet (w := w0) hp (Below.refl _ _) hq
      rw [hsame] at hD'
      rcases hD with h1 | ⟨h1, h1'⟩ <;> rcases hD' with h2 | ⟨h2, h2'⟩
      · rw [h1] at h2; simpa using h2.symm
      · rw [h1] at h2; simp at h2
      · rw [h1] at h2; simp at h2
      · rw [h1', h2']

/-- THE LAW. -/
theorem wp_region_lax_at {id : Nat} {l : List Oper} {w wn : World} (n0 f : Nat) (K : Nat → Bool) (Ψ : Nat → Value → Prop) (Θ : Nat → Value → World → Prop) (mk : Nat → Bool) (hm : P.follows .mixedOrders = true) (hB : shapeB l.toArray n0 f = true)
    (hin : ((List.range n0).all fun i => match dst l.toArray i with | some t => decide (t < a0.tmps.size) | none => true) = true) (hwn : Below w.heap.size w wn)
    (hst : ∀ i v w w', i < n0 → K i = true → Θ i v w → Below w.heap.size w w' → Θ i v w') (hex : ∀ k, k < n0 → K k = true → ∃ v, Ψ k v) (hmk : ∀ k, mk k = true → K k = true)
    (h : Walk P l.toArray Q K Ψ Θ mk w n0 l 0 a0 [] []) : (Code.region id l.toArray true).wp P Q a0 wn := by
  obtain ⟨hS, hseq, hlast⟩ := shape_of hB
  have hle : n0 ≤ l.length := by simpa using hS.le
  have hin' : ∀ i t, i < n0 → dst l.toArray i = some t → t < a0.tmps.size := by
    intro i t hi hd
    have := (List.all_eq_true.1 hin) i (List.mem_range.2 hi)
    rw [hd] at this
    simpa using this
  refine wp_region_any hm ?_
  refine prefix_any (Φ := PhiAt P l.toArray a0 w K Ψ Θ) (mk := mk) (w0 := w) (n0 := n0) hS hin' ?_ ?_ hseq hlast ?_ ?_ _ _ a0 _ (by simp) ?_ ?_
  · intro i vals v w1 w2 hi hφ hb
    exact ⟨fun hK => ⟨(hφ.1 hK).1, hst i v w1 w2 hi hK (hφ.1 hK).2 hb⟩, hφ.2⟩
  · intro i o vals vals' v w1 hi ho heq hφ
    refine ⟨hφ.1, fun hK o' ho' w2 hb => ?_⟩
    obtain rfl : o = o' := by rw [ho] at ho'; exact Option.some.inj ho'
    rw [← exec_same hS hin' hi ho heq]
    exact hφ.2 hK o ho w2 hb
  · intro i o hi ho L vals w1 hb hL hf hdeps
    obtain ⟨V, hV, hw⟩ := fill hS hin' hex h hmk L hL vals w1 hf i (by omega)
    have hil : i < l.length := by omega
    have e1 : n0 - i = (n0 - (i + 1)) + 1 := by omega
    rw [e1, List.drop_eq_getElem_cons hil] at hw
    have hoi : l[i] = o := by simpa [hil] using ho
    rw [hoi] at hw
    obtain ⟨t, hd⟩ := hS.some_ i hi
    have hod : o.dst = some t := by simpa [dst, ho, hoi, hil] using hd
    have hsame : execOp (lit l.toArray V i a0).eval o = execOp (lit l.toArray vals i a0).eval o :=
      exec_same hS hin' hi ho fun e he hbe => hV e.on (hS.low i o ho e he hbe) (hdeps e he hbe)
    cases hKi : K i with
    | true =>
      have h1 := (hw.1 hKi).1 w1 hb fun p hp hdep => by
        obtain ⟨j, hj, hKj, rfl⟩ := mem_Gam hp
        obtain ⟨e, he, hbe, hon⟩ := depOn_spec.1 hdep
        have hLj := hdeps e he hbe
        rw [hon] at hLj
        have := ((hf j (by omega) hLj).1 hKj).2
        simp only
        rw [hV j hj hLj]
        exact this
      have h2 := step_of_wp (ops := l.toArray) (hS.noguard i o hi ho) hod (by rw [lit_size]; exact hin' i t hi hd) h1
      unfold Mix.step at h2 ⊢
      rw [hsame] at h2
      generalize (execOp (lit l.toArray vals i a0).eval o).run P w1 = r at *
      have key : ∀ v w', fact Ψ Θ mk i w1 v w' → PhiAt P l.toArray a0 w K Ψ Θ i vals v w' ∧ (mk i = true → v = .pointer (some ⟨w1.heap.size, 0, none⟩) ∧ w1.heap.size < w'.heap.size) :=
        fun v w' h => ⟨⟨fun _ => ⟨h.1, h.2.1⟩, fun h => by rw [hKi] at h; cases h⟩, h.2.2⟩
      cases r with
      | ok n w' =>
        cases n <;> simp only at h2 ⊢
        case value u => exact ⟨key _ _ h2.1, h2.2⟩
        case skip => exact ⟨key _ _ h2.1, h2.2⟩
        case enter f args => exact h2.mono fun e w'' ⟨v, he, h1, h2⟩ => ⟨v, he, key _ _ h1, h2⟩
        case row row args => exact h2.mono fun v w'' hh => ⟨key _ _ hh.1, hh.2⟩
      | halt x w' => simp at h2
    | false =>
      obtain ⟨hp, v, hq, _⟩ := hw.2 hKi
      have hmf : mk i = false := by
        cases hmi : mk i with
        | false => rfl
        | true => rw [hmk i hmi] at hKi; cases hKi
      have hD : Dt P l.toArray a0 w i vals v := by
        intro o' ho' w2 hb2
        obtain rfl : o = o' := by rw [ho] at ho'; exact Option.some.inj ho'
        rw [← hsame]
        exact det_of_quiet hp hb2 hq
      have hφ : PhiAt P l.toArray a0 w K Ψ Θ i vals v w1 := ⟨fun h => (by rw [hKi] at h; cases h), fun _ => hD⟩
      unfold Mix.step
      rcases hD o ho w1 hb with h1 | ⟨h1, h1'⟩
      · rw [h1]; exact ⟨⟨hφ, fun h => by rw [hmf] at h; cases h⟩, Below.refl _ _⟩
      · rw [h1]; subst h1'; exact ⟨⟨hφ, fun h => by rw [hmf] at h; cases h⟩, Below.refl _ _⟩
  · intro vals w1 hb hfacts hdis
    obtain ⟨V, hV, hw⟩ := fill hS hin' hex h hmk (fun j => j < n0) (fun j oj hoj hj e he hbe => by have := hS.low j oj hoj e he hbe; omega) vals w1 (fun j hj _ => hfacts j hj) n0 (Nat.le_refl _)
    have hVe : ∀ j, j < n0 → V j = vals j := fun j hj => hV j hj hj
    rw [lit_congr l.toArray V vals a0 n0 hVe] at hw
    rw [Nat.sub_self] at hw
    have := hw w1 hb (fun p hp => by
      obtain ⟨j, hj, hKj, rfl⟩ := mem_Gam hp
      simp only
      rw [hVe j hj]
      exact ((hfacts j hj).1 hKj).2) (pairwise_Dis (fun i j hi hj hne mi mj => by rw [hVe i hi, hVe j hj]; exact hdis i j hi hj hne mi mj) n0 (Nat.le_refl _))
    have e := wpOps_eq_wpList (P := P) (ops := l.toArray) (Q := Q) (l.drop n0) n0 (by intro j; simp)
    rw [List.length_drop] at e
    simp only [List.size_toArray]
    rw [e]
    exact this
  · intro j o hj hl
    rw [rep_false] at hl; cases hl
  · refine ⟨by simp, hwn.drew, rfl, rfl, fun t _ => rfl, ?_, ?_, ?_, ?_⟩
    · intro i hi hl; rw [rep_false] at hl; cases hl
    · intro i hi; exact rep_false _ _
    · intro i hi _ hl; rw [rep_false] at hl; cases hl
    · intro i j _ _ _ _ _ hl; rw [rep_false] at hl; cases hl

theorem wp_region_lax {id : Nat} {l : List Oper} {w : World} (n0 f : Nat) (K : Nat → Bool) (Ψ : Nat → Value → Prop) (Θ : Nat → Value → World → Prop) (mk : Nat → Bool) (hm : P.follows .mixedOrders = true) (hB : shapeB l.toArray n0 f = true)
    (hin : ((List.range n0).all fun i => match dst l.toArray i with | some t => decide (t < a0.tmps.size) | none => true) = true)
    (hst : ∀ i v w w', i < n0 → K i = true → Θ i v w → Below w.heap.size w w' → Θ i v w') (hex : ∀ k, k < n0 → K k = true → ∃ v, Ψ k v) (hmk : ∀ k, mk k = true → K k = true)
    (h : Walk P l.toArray Q K Ψ Θ mk w n0 l 0 a0 [] []) : (Code.region id l.toArray true).wp P Q a0 w :=
  wp_region_lax_at n0 f K Ψ Θ mk hm hB hin (Below.refl _ _) hst hex hmk h

end

end Go.Lax
