/-
  The law of YgcoaaGreatLaxS as a walk in the order of the text.
-/
import Derived.Test.YgcoaaGreatLaxS
set_option linter.unusedVariables false
namespace Go.LaxS
open Go.RowKit Go.Mix Go.Lax
open Go.Proofs.YgcoaaGreat.NatW (Later Ret)

def isStore (o : Oper) : Bool := match o.op with | .store .. => true | _ => false
theorem store_skip {o : Oper} (h : isStore o = true) {ρ : Operand → Value} {P : Program} {w w' : World} {n : Next} (hr : (execOp ρ o).run P w = .ok n w') : n = .skip := by
  unfold isStore at h
  split at h
  · rename_i hop
    unfold execOp at hr
    rw [hop] at hr
    simp only [Sem.run_bind] at hr
    revert hr
    cases (Instr.storeAt _ _ _).run P w <;> simp [Result.andThen]
    intro h1 h2
    exact h1.symm
  · cases h

structure Par where
  K : Nat → Bool
  sil : Nat → Bool
  Ψ : Nat → Value → Prop
  Θ : Nat → Value → World → Prop
  I : World → Prop

def Rl (p : Par) (j : Nat) (w w' : World) : Prop := if p.sil j then ∀ i v, i ≠ j → p.Θ i v w → p.Θ i v w' else Below w.heap.size w w'

/-- What a walk of one operation shows. -/
def One (p : Par) (w0 : World) (k : Nat) (a : Act) (o : Oper) (w : World) (e : Exit) (a' : Act) (w' : World) : Prop :=
  e = .normal ∧ ∃ v, a' = a.put o.dst v ∧ p.Ψ k v ∧ p.Θ k v w' ∧ Below w0.heap.size w0 w' ∧ p.I w' ∧ Rl p k w w' ∧ (o.dst = none → v = undef)

/-- THE WALK. -/
def Walk (P : Program) (ops : Array Oper) (Q : Exit → Act → World → Prop) (p : Par) (w0 : World) : Nat → List Oper → Nat → Act → List (Nat × (World → Prop)) → Prop
  | 0, rest, _, a, Γ => ∀ x : Later w0, p.I x.at_ → (∀ q ∈ Γ, q.2 x.at_) → wpList P ops Q rest a x.at_
  | _ + 1, [], _, _, _ => False
  | m + 1, o :: rest, k, a, Γ =>
    (p.K k = true → (∀ x : Later w0, p.I x.at_ → (∀ q ∈ Γ, depOn o q.1 = true → q.2 x.at_) → wpList P ops (One p w0 k a o x.at_) [o] a x.at_) ∧ (o.dst = none → isStore o = true) ∧
      ∀ v, p.Ψ k v → (o.dst = none → v = undef) → Walk P ops Q p w0 m rest (k + 1) (a.put o.dst v) ((k, p.Θ k v) :: Γ)) ∧
    (p.K k = false → plain o = true ∧ o.dst.isSome = true ∧ o.quiet P a (fun w' => ∃ x : Later w0, w' = x.at_) fun a' => Walk P ops Q p w0 m rest (k + 1) a' Γ)

section
variable {P : Program} {Q : Exit → Act → World → Prop} {p : Par} {a0 : Act} {w0 : World}

theorem walk_call {ops : Array Oper} {m k : Nat} {o : Oper} {rest : List Oper} {a : Act} {Γ : List (Nat × (World → Prop))} (hk : p.K k = true) (hs : o.dst = none → isStore o = true)
    (h1 : ∀ x : Later w0, p.I x.at_ → (∀ q ∈ Γ, depOn o q.1 = true → q.2 x.at_) → wpList P ops (One p w0 k a o x.at_) [o] a x.at_)
    (h2 : ∀ v, p.Ψ k v → (o.dst = none → v = undef) → Walk P ops Q p w0 m rest (k + 1) (a.put o.dst v) ((k, p.Θ k v) :: Γ)) : Walk P ops Q p w0 (m + 1) (o :: rest) k a Γ :=
  ⟨fun _ => ⟨h1, hs, h2⟩, fun h => (by rw [hk] at h; cases h)⟩

theorem walk_det {ops : Array Oper} {m k : Nat} {o : Oper} {rest : List Oper} {a : Act} {Γ : List (Nat × (World → Prop))} (hk : p.K k = false) (hp : plain o = true) (hd : o.dst.isSome = true) (hg : o.guard = none)
    (h : wpQuiet P ops (fun w' => ∃ x : Later w0, w' = x.at_) (fun a' => Walk P ops Q p w0 m rest (k + 1) a' Γ) [o] a) : Walk P ops Q p w0 (m + 1) (o :: rest) k a Γ := by
  refine ⟨fun h => (by rw [hk] at h; cases h), fun _ => ⟨hp, hd, ?_⟩⟩
  simp only [wpQuiet, Region.wanted, hg, if_true] at h
  exact h

def Gam (p : Par) (vals : Nat → Value) : Nat → List (Nat × (World → Prop))
  | 0 => []
  | k + 1 => if p.K k then (k, p.Θ k (vals k)) :: Gam p vals k else Gam p vals k

theorem mem_Gam {vals : Nat → Value} {q : Nat × (World → Prop)} : ∀ {k}, q ∈ Gam p vals k → ∃ j, j < k ∧ p.K j = true ∧ q = (j, p.Θ j (vals j))
  | 0, h => by cases h
  | k + 1, h => by
    simp only [Gam] at h
    split at h
    · rename_i hk
      rcases List.mem_cons.1 h with h | h
      · exact ⟨k, by omega, hk, h⟩
      · obtain ⟨j, hj, e⟩ := mem_Gam h
        exact ⟨j, by omega, e⟩
    · obtain ⟨j, hj, e⟩ := mem_Gam h
      exact ⟨j, by omega, e⟩

def PhiAt (P : Program) (ops : Array Oper) (a0 : Act) (w0 : World) (p : Par) (i : Nat) (vals : Nat → Value) (v : Value) (w : World) : Prop :=
  (p.K i = true → p.Ψ i v ∧ p.Θ i v w ∧ (dst ops i = none → v = undef)) ∧ (p.K i = false → Dt P ops a0 w0 i vals v)

theorem exec_same {ops : Array Oper} {n0 : Nat} (hS : ShapeS ops n0) (hin : ∀ i t, i < n0 → dst ops i = some t → t < a0.tmps.size) {i : Nat} {o : Oper} (hi : i < n0) (ho : ops[i]? = some o) {vals vals' : Nat → Value}
    (h : ∀ e ∈ o.after, Region.binds .any e = true → vals e.on = vals' e.on) : execOp (lit ops vals i a0).eval o = execOp (lit ops vals' i a0).eval o := by
  refine execOp_congr o (fun cs b => hS.nosel i o cs b hi ho) fun x hx => ?_
  cases x with
  | tmp t' =>
    have : (lit ops vals i a0).tmps[t']? = (lit ops vals' i a0).tmps[t']? := by
      by_cases hex : ∃ j, j < n0 ∧ dst ops j = some t'
      · obtain ⟨j, hj, hdj⟩ := hex
        obtain ⟨e, he, hb, hon⟩ := hS.looks i o hi ho t' hx j hj hdj
        subst hon
        have hji := hS.low i o ho e he hb
        have htj := hin e.on t' hj hdj
        rw [lit_hit ops vals a0 t' htj e.on hdj i hji (fun k hk hdk => hS.dist k e.on t' (by omega) hj hdk hdj), lit_hit ops vals' a0 t' htj e.on hdj i hji (fun k hk hdk => hS.dist k e.on t' (by omega) hj hdk hdj)]
        rw [h e he hb]
      · have hno : ∀ j, j < i → dst ops j ≠ some t' := fun j hj hdj => hex ⟨j, by omega, hdj⟩
        rw [lit_miss ops vals a0 t' i hno, lit_miss ops vals' a0 t' i hno]
    simp only [Act.eval, Array.getD_eq_getD_getElem?, this]
  | _ => rfl

/-- The walk at values that stand for the listed operations, others being made up. -/
theorem fill {l : List Oper} {n0 : Nat} (hS : ShapeS l.toArray n0) (hin : ∀ i t, i < n0 → dst l.toArray i = some t → t < a0.tmps.size)
    (hex : ∀ k, k < n0 → p.K k = true → ∃ v, p.Ψ k v ∧ (dst l.toArray k = none → v = undef)) (h : Walk P l.toArray Q p w0 n0 l 0 a0 [])
    (L : Nat → Prop) (hL : ∀ j oj, l.toArray[j]? = some oj → L j → ∀ e ∈ oj.after, Region.binds .any e = true → L e.on) (vals : Nat → Value) (w : World) (hf : ∀ j, j < n0 → L j → PhiAt P l.toArray a0 w0 p j vals (vals j) w) :
    ∀ k, k ≤ n0 → ∃ vals' : Nat → Value, (∀ j, j < k → L j → vals' j = vals j) ∧ Walk P l.toArray Q p w0 (n0 - k) (l.drop k) k (lit l.toArray vals' k a0) (Gam p vals' k)
  | 0, _ => ⟨vals, fun _ _ _ => rfl, by simpa [lit, Gam] using h⟩
  | k + 1, hk => by
    obtain ⟨V, hV, ih⟩ := fill hS hin hex h L hL vals w hf k (by omega)
    have hle : n0 ≤ l.length := by simpa using hS.le
    have e1 : n0 - k = (n0 - (k + 1)) + 1 := by omega
    have hkl : k < l.length := by omega
    rw [e1, List.drop_eq_getElem_cons hkl] at ih
    have hok : l.toArray[k]? = some l[k] := by simp [hkl]
    have hdk : dst l.toArray k = l[k].dst := by simp [dst, hkl]
    have hgo : ∀ v, (L k → v = vals k) → Walk P l.toArray Q p w0 (n0 - (k + 1)) (l.drop (k + 1)) (k + 1) ((lit l.toArray V k a0).put l[k].dst v) (if p.K k then (k, p.Θ k v) :: Gam p V k else Gam p V k) →
        ∃ vals' : Nat → Value, (∀ j, j < k + 1 → L j → vals' j = vals j) ∧ Walk P l.toArray Q p w0 (n0 - (k + 1)) (l.drop (k + 1)) (k + 1) (lit l.toArray vals' (k + 1) a0) (Gam p vals' (k + 1)) := by
      intro v hv hw
      have hlow : ∀ j, j < k → V j = (fun j => if j = k then v else V j) j := fun j hj => by simp; omega
      refine ⟨fun j => if j = k then v else V j, ?_, ?_⟩
      · intro j hj hLj
        by_cases hjk : j = k
        · subst hjk; simpa using hv hLj
        · simp only [hjk, if_false]; exact hV j (by omega) hLj
      · have g1 : ∀ m, m ≤ k → Gam p (fun j => if j = k then v else V j) m = Gam p V m := by
          intro m
          induction m with
          | zero => intro _; rfl
          | succ m ihm => intro hm; simp only [Gam]; rw [ihm (by omega), if_neg (show ¬ m = k by omega)]
        simp only [lit, Gam, hok, Option.bind_some, if_true]
        rw [g1 k (Nat.le_refl _), ← lit_congr l.toArray V _ a0 k hlow]
        exact hw
    cases hKk : p.K k with
    | true =>
      have hw := (ih.1 hKk).2.2
      by_cases hLk : L k
      · have hΨ := (hf k (by omega) hLk).1 hKk
        refine hgo (vals k) (fun _ => rfl) ?_
        simpa [hKk] using hw (vals k) hΨ.1 (fun hn => hΨ.2.2 (by rw [hdk]; exact hn))
      · obtain ⟨v, hv, hvu⟩ := hex k (by omega) hKk
        refine hgo v (fun h => absurd h hLk) ?_
        simpa [hKk] using hw v hv (fun hn => hvu (by rw [hdk]; exact hn))
    | false =>
      obtain ⟨hp, _, v, hq, hn⟩ := ih.2 hKk
      refine hgo v (fun hLk => ?_) (by simpa [hKk] using hn)
      have hD := (hf k (by omega) hLk).2 hKk l[k] hok w0 (Below.refl _ _)
      have hsame : execOp (lit l.toArray V k a0).eval l[k] = execOp (lit l.toArray vals k a0).eval l[k] :=
        exec_same hS hin (by omega) hok fun e he hbe => hV e.on (hS.low k _ hok e he hbe) (hL k _ hok hLk e he hbe)
      have hD' := det_of_quiet (w := w0) hp (Below.refl _ _) hq
      rw [hsame] at hD'
      rcases hD with h1 | ⟨h1, h1'⟩ <;> rcases hD' with h2 | ⟨h2, h2'⟩
      · rw [h1] at h2; simpa using h2.symm
      · rw [h1] at h2; simp at h2
      · rw [h1] at h2; simp at h2
      · rw [h1', h2']

theorem stepR_of_wp {ops : Array Oper} {o : Oper} {a : Act} {w : World} {k : Nat} (hg : o.guard = none) (hd : ∀ t, o.dst = some t → t < a.tmps.size) (hs : o.dst = none → isStore o = true)
    (h : wpList P ops (One p w0 k a o w) [o] a w) : stepR P o a w (fun v w' => p.Ψ k v ∧ p.Θ k v w' ∧ Below w0.heap.size w0 w' ∧ p.I w' ∧ Rl p k w w' ∧ (o.dst = none → v = undef)) := by
  simp only [wpList, Region.wanted, hg, if_true] at h
  rcases h with h | ⟨_, a1, w1, h1, _⟩
  · unfold stepR
    unfold Oper.wp at h
    have hst : o.dst = none → ∀ n w', (execOp a.eval o).run P w = .ok n w' → n = .skip := fun hn n w' hr => store_skip (hs hn) hr
    generalize (execOp a.eval o).run P w = r at *
    have key : ∀ v w', (o.dst = none → v = undef) → One p w0 k a o w .normal (a.put o.dst v) w' → p.Ψ k v ∧ p.Θ k v w' ∧ Below w0.heap.size w0 w' ∧ p.I w' ∧ Rl p k w w' ∧ (o.dst = none → v = undef) := by
      rintro v w' hv ⟨_, v', e, h1⟩
      have : v = v' := by
        cases hdo : o.dst with
        | none => rw [hv hdo, h1.2.2.2.2.2 hdo]
        | some t => rw [hdo] at e; exact put_inj (hd t hdo) e
      rw [this]
      exact h1
    cases r with
    | ok n w' =>
      have hn := fun hd' => hst hd' n w' rfl
      cases n <;> simp only [Oper.upon] at h ⊢
      case value u => exact key _ _ (fun hd' => by have := hn hd'; cases this) h
      case skip =>
        have := key _ _ (fun _ => rfl) h
        simpa using this
      case defer d =>
        obtain ⟨_, v', e, _⟩ := h
        have := congrArg (fun b : Act => b.defers.length) e
        cases hdo : o.dst <;> rw [hdo] at this <;> simp [Act.put] at this
      case enter f args =>
        refine h.mono fun e w'' he => ?_
        cases e with
        | returned v => exact ⟨v, rfl, key _ _ (fun hd' => by have := hn hd'; cases this) he⟩
        | panicked c => exact absurd he.1 (by simp)
        | outgrown => obtain ⟨_, _, h1, _⟩ := he; exact absurd h1 (by simp)
      case row row args => exact h.mono fun v w'' he => key _ _ (fun hd' => by have := hn hd'; cases this) he
    | halt x w' => cases x <;> simp only [Oper.upon] at h <;> first | exact absurd h.1 (by simp) | exact h.elim
  · exact absurd h1 (by simp)

theorem stepR_mono {o : Oper} {a : Act} {w : World} {φ φ' : Value → World → Prop} (h : stepR P o a w φ) (hi : ∀ v w', φ v w' → φ' v w') : stepR P o a w φ' := by
  unfold stepR at h ⊢
  generalize (execOp a.eval o).run P w = r at *
  cases r with
  | ok n w' =>
    cases n <;> simp only at h ⊢
    case value u => exact hi _ _ h
    case skip => exact hi _ _ h
    case enter f args => exact h.mono fun e w'' ⟨v, he, h1⟩ => ⟨v, he, hi _ _ h1⟩
    case row row args => exact h.mono fun v w'' hh => hi _ _ hh
  | halt x w' => simp at h

/-- THE LAW. -/
theorem wp_region_laxS {id : Nat} {l : List Oper} (x : Later w0) (n0 f : Nat) (p : Par) (hm : P.follows .mixedOrders = true) (hB : shapeSB l.toArray n0 f = true)
    (hin : ((List.range n0).all fun i => match dst l.toArray i with | some t => decide (t < a0.tmps.size) | none => true) = true) (hI0 : p.I x.at_)
    (hI : ∀ w w', p.I w → Below w.heap.size w w' → p.I w') (hIt : ∀ w, p.I w → p.I { w with drawn := w.drawn + 1 })
    (hst : ∀ i v w w', p.Θ i v w → Below w.heap.size w w' → p.Θ i v w') (hex : ∀ k, k < n0 → p.K k = true → ∃ v, p.Ψ k v ∧ (dst l.toArray k = none → v = undef))
    (h : Walk P l.toArray Q p w0 n0 l 0 a0 []) : (Code.region id l.toArray true).wp P Q a0 x.at_ := by
  obtain ⟨hS, hseq, hlast⟩ := shape_ofS hB
  have hle : n0 ≤ l.length := by simpa using hS.le
  have hin' : ∀ i t, i < n0 → dst l.toArray i = some t → t < a0.tmps.size := by
    intro i t hi hd
    have := (List.all_eq_true.1 hin) i (List.mem_range.2 hi)
    rw [hd] at this
    simpa using this
  refine wp_region_any hm ?_
  refine prefix_any (Φ := PhiAt P l.toArray a0 w0 p) (C := fun w => Below w0.heap.size w0 w ∧ p.I w) (n0 := n0) hS hin' (fun j w w' => p.K j = false ∧ w = w' ∨ p.K j = true ∧ Rl p j w w') ?_ ?_ hseq hlast ?_ ?_ _ _ a0 _ (by simp) ?_ ?_
  · intro i j vals v w1 w2 hi hj hne hφ hR
    refine ⟨fun hK => ⟨(hφ.1 hK).1, ?_, (hφ.1 hK).2.2⟩, hφ.2⟩
    rcases hR with ⟨_, rfl⟩ | ⟨_, hR⟩
    · exact (hφ.1 hK).2.1
    · unfold Rl at hR
      split at hR
      · exact hR i v hne (hφ.1 hK).2.1
      · exact hst i v w1 w2 (hφ.1 hK).2.1 hR
  · intro i o vals vals' v w1 hi ho heq hφ
    refine ⟨hφ.1, fun hK o' ho' w2 hb => ?_⟩
    obtain rfl : o = o' := by rw [ho] at ho'; exact Option.some.inj ho'
    rw [← exec_same hS hin' hi ho heq]
    exact hφ.2 hK o ho w2 hb
  · intro i o hi ho L vals w1 hC hL hf hdeps
    obtain ⟨V, hV, hw⟩ := fill hS hin' hex h L hL vals w1 hf i (by omega)
    have hil : i < l.length := by omega
    have e1 : n0 - i = (n0 - (i + 1)) + 1 := by omega
    rw [e1, List.drop_eq_getElem_cons hil] at hw
    have hoi : l[i] = o := by simpa [hil] using ho
    rw [hoi] at hw
    have hod : o.dst = dst l.toArray i := by simp [dst, hoi, hil]
    have hsame : execOp (lit l.toArray V i a0).eval o = execOp (lit l.toArray vals i a0).eval o :=
      exec_same hS hin' hi ho fun e he hbe => hV e.on (hS.low i o ho e he hbe) (hdeps e he hbe)
    cases hKi : p.K i with
    | true =>
      have h1 := (hw.1 hKi).1 ⟨w1, hC.1⟩ hC.2 fun q hq hdep => by
        obtain ⟨j, hj, hKj, rfl⟩ := mem_Gam hq
        obtain ⟨e, he, hbe, hon⟩ := depOn_spec.1 hdep
        have hLj := hdeps e he hbe
        rw [hon] at hLj
        have := ((hf j (by omega) hLj).1 hKj).2.1
        simp only
        rw [hV j hj hLj]
        exact this
      have h2 := stepR_of_wp (ops := l.toArray) (hS.noguard i o hi ho) (fun t ht => by rw [lit_size]; exact hin' i t hi (by rw [← hod]; exact ht)) (hw.1 hKi).2.1 h1
      have h3 : stepR P o (lit l.toArray vals i a0) w1 (fun v w' => p.Ψ i v ∧ p.Θ i v w' ∧ Below w0.heap.size w0 w' ∧ p.I w' ∧ Rl p i w1 w' ∧ (o.dst = none → v = undef)) := by
        unfold stepR at h2 ⊢
        rw [hsame] at h2
        exact h2
      have key : ∀ v w', (p.Ψ i v ∧ p.Θ i v w' ∧ Below w0.heap.size w0 w' ∧ p.I w' ∧ Rl p i w1 w' ∧ (o.dst = none → v = undef)) → PhiAt P l.toArray a0 w0 p i vals v w' ∧ (Below w0.heap.size w0 w' ∧ p.I w') ∧ (true = false ∧ w1 = w' ∨ true = true ∧ Rl p i w1 w') ∧ (dst l.toArray i = none → v = undef) :=
        fun v w' h => ⟨⟨fun _ => ⟨h.1, h.2.1, fun hn => h.2.2.2.2.2 (by rw [hod]; exact hn)⟩, fun h => by rw [hKi] at h; cases h⟩, ⟨h.2.2.1, h.2.2.2.1⟩, .inr ⟨rfl, h.2.2.2.2.1⟩, fun hn => h.2.2.2.2.2 (by rw [hod]; exact hn)⟩
      exact stepR_mono h3 key
    | false =>
      obtain ⟨hp, hds, v, hq, _⟩ := hw.2 hKi
      have hD : Dt P l.toArray a0 w0 i vals v := by
        intro o' ho' w2 hb2
        obtain rfl : o = o' := by rw [ho] at ho'; exact Option.some.inj ho'
        rw [← hsame]
        exact det_of_quiet hp hb2 hq
      have hφ : PhiAt P l.toArray a0 w0 p i vals v w1 := ⟨fun h => (by rw [hKi] at h; cases h), fun _ => hD⟩
      have hnn : dst l.toArray i = none → v = undef := fun hn => by rw [← hod] at hn; rw [hn] at hds; cases hds
      unfold stepR
      rcases hD o ho w1 hC.1 with h1 | ⟨h1, h1'⟩
      · rw [h1]; exact ⟨hφ, hC, .inl ⟨rfl, rfl⟩, hnn⟩
      · rw [h1]; subst h1'; exact ⟨hφ, hC, .inl ⟨rfl, rfl⟩, hnn⟩
  · intro vals w1 hC hfacts
    obtain ⟨V, hV, hw⟩ := fill hS hin' hex h (fun j => j < n0) (fun j oj hoj hj e he hbe => by have := hS.low j oj hoj e he hbe; omega) vals w1 (fun j hj _ => hfacts j hj) n0 (Nat.le_refl _)
    have hVe : ∀ j, j < n0 → V j = vals j := fun j hj => hV j hj hj
    rw [lit_congr l.toArray V vals a0 n0 hVe] at hw
    rw [Nat.sub_self] at hw
    have := hw ⟨w1, hC.1⟩ hC.2 (fun q hq => by
      obtain ⟨j, hj, hKj, rfl⟩ := mem_Gam hq
      simp only
      rw [hVe j hj]
      exact ((hfacts j hj).1 hKj).2.1)
    have e := wpOps_eq_wpList (P := P) (ops := l.toArray) (Q := Q) (l.drop n0) n0 (by intro j; simp)
    rw [List.length_drop] at e
    simp only [List.size_toArray]
    rw [e]
    exact this
  · intro j o hj hl
    rw [rep_false] at hl; cases hl
  · refine ⟨by simp, ⟨x.ok.drew, hIt _ hI0⟩, rfl, rfl, fun t _ => rfl, ?_, ?_⟩
    · intro i hi hl; rw [rep_false] at hl; cases hl
    · intro i hi; exact rep_false _ _

theorem end_at {ops : Array Oper} {k : Nat} {rest : List Oper} {a : Act} {Γ : List (Nat × (World → Prop))} (h : ∀ x : Later w0, p.I x.at_ → (∀ q ∈ Γ, q.2 x.at_) → wpList P ops Q rest a x.at_) : Walk P ops Q p w0 0 rest k a Γ := h
end



end Go.LaxS
