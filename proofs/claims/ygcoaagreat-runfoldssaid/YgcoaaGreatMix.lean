/-
  A law for regions that draw their order, hold calls and make or write memory: the operations below 'n0' come in any order (each only lets memory grow, and yields a value of which a lasting fact is known), the others behind them all, in the order of the text.
-/
import Derived.Orders
import Derived.Below
import Derived.Still
import Derived.Tactics
set_option linter.unusedVariables false
namespace Go.Mix
open Go.RowKit

/-- One operation: it yields a value with a fact, and memory only grows. -/
def step (P : Program) (o : Oper) (a : Act) (w : World) (φ : Value → World → Prop) : Prop :=
  match (execOp a.eval o).run P w with
  | .ok (.value v) w' => φ v w' ∧ Below w.heap.size w w'
  | .ok .skip w' => φ undef w' ∧ Below w.heap.size w w'
  | .ok (.enter f args) w' => Calls P f args w' fun e w'' => ∃ v, e = .returned v ∧ φ v w'' ∧ Below w.heap.size w w''
  | .ok (.row row args) w' => Rows P row args w' fun v w'' => φ v w'' ∧ Below w.heap.size w w''
  | _ => False

theorem step_wp {P : Program} {o : Oper} {a : Act} {w : World} {φ : Value → World → Prop} {K : Act → World → Prop} {Q : Exit → Act → World → Prop} (h : step P o a w φ)
    (hK : ∀ v w', φ v w' → Below w.heap.size w w' → K (a.put o.dst v) w') : o.wp P a w K Q := by
  unfold step at h
  unfold Oper.wp
  generalize (execOp a.eval o).run P w = r at *
  cases r with
  | ok n w' =>
    cases n <;> simp only at h <;> simp only [Oper.upon]
    case value u => exact hK _ _ h.1 h.2
    case skip => exact hK _ _ h.1 h.2
    case enter f args => exact h.mono fun e w'' ⟨v, he, h1, h2⟩ => by subst he; exact hK _ _ h1 h2
    case row row args => exact h.mono fun v w'' hh => hK _ _ hh.1 hh.2
  | halt x w' => simp at h

/-- What a walk of one operation shows. -/
def One (a : Act) (o : Oper) (w : World) (φ : Value → World → Prop) (e : Exit) (a' : Act) (w' : World) : Prop :=
  e = .normal ∧ ∃ v, a' = a.put o.dst v ∧ φ v w' ∧ Below w.heap.size w w'

theorem put_inj {a : Act} {t : Tmp} {v v' : Value} (ht : t < a.tmps.size) (h : a.put (some t) v = a.put (some t) v') : v = v' := by
  have := congrArg (fun b : Act => b.tmps[t]?) h
  simpa [Act.put, ht] using this

theorem step_of_wp {P : Program} {ops : Array Oper} {o : Oper} {a : Act} {w : World} {φ : Value → World → Prop} {t : Tmp} (hg : o.guard = none) (hd : o.dst = some t) (ht : t < a.tmps.size)
    (h : wpList P ops (One a o w φ) [o] a w) : step P o a w φ := by
  simp only [wpList, Region.wanted, hg, if_true] at h
  rcases h with h | ⟨_, a1, w1, h1, _⟩
  · unfold step
    unfold Oper.wp at h
    generalize (execOp a.eval o).run P w = r at *
    have key : ∀ v w', One a o w φ .normal (a.put o.dst v) w' → φ v w' ∧ Below w.heap.size w w' := by
      rintro v w' ⟨_, v', e, h1, h2⟩
      rw [hd] at e
      rw [put_inj ht e]
      exact ⟨h1, h2⟩
    cases r with
    | ok n w' =>
      cases n <;> simp only [Oper.upon] at h ⊢
      case value u => exact key _ _ h
      case skip => exact key _ _ h
      case defer d =>
        obtain ⟨_, v', e, _⟩ := h
        have := congrArg (fun b : Act => b.defers.length) e
        rw [hd] at this
        simp [Act.put] at this
      case enter f args =>
        refine h.mono fun e w'' he => ?_
        cases e with
        | returned v => exact ⟨v, rfl, key _ _ he⟩
        | panicked c => exact absurd he.1 (by simp)
        | outgrown => obtain ⟨_, _, h1, _⟩ := he; exact absurd h1 (by simp)
      case row row args => exact h.mono fun v w'' he => key _ _ he
    | halt x w' => cases x <;> simp only [Oper.upon] at h <;> first | exact absurd h.1 (by simp) | exact h.elim
  · exact absurd h1 (by simp)

/-- The slot's value of operation i. -/
def val (ops : Array Oper) (a : Act) (i : Nat) : Value :=
  match (ops[i]?).bind (·.dst) with
  | some t => a.tmps.getD t undef
  | none => undef

/-- The state in which the first k operations, in the order of the text, have yielded these values. -/
def lit (ops : Array Oper) (vals : Nat → Value) : Nat → Act → Act
  | 0, a => a
  | k + 1, a => (lit ops vals k a).put ((ops[k]?).bind (·.dst)) (vals k)

/-- Operation i's slot. -/
def dst (ops : Array Oper) (i : Nat) : Option Tmp := (ops[i]?).bind (·.dst)

theorem lit_size (ops : Array Oper) (vals : Nat → Value) (a : Act) : ∀ k, (lit ops vals k a).tmps.size = a.tmps.size
  | 0 => rfl
  | k + 1 => by
    simp only [lit]
    cases (ops[k]?).bind (·.dst) <;> simp [Act.put, lit_size ops vals a k]
theorem lit_defers (ops : Array Oper) (vals : Nat → Value) (a : Act) : ∀ k, (lit ops vals k a).defers = a.defers
  | 0 => rfl
  | k + 1 => by
    simp only [lit]
    cases (ops[k]?).bind (·.dst) <;> simp [Act.put, lit_defers ops vals a k]
theorem lit_miss (ops : Array Oper) (vals : Nat → Value) (a : Act) (t : Tmp) : ∀ k, (∀ j, j < k → dst ops j ≠ some t) → (lit ops vals k a).tmps[t]? = a.tmps[t]?
  | 0, _ => rfl
  | k + 1, h => by
    have ih := lit_miss ops vals a t k (fun j hj => h j (by omega))
    have hk := h k (by omega)
    unfold dst at hk
    simp only [lit]
    cases hd : (ops[k]?).bind (·.dst) with
    | none => simpa [Act.put] using ih
    | some d =>
      have hne : d ≠ t := fun e => hk (by rw [hd, e])
      simp only [Act.put, Array.getElem?_setIfInBounds_ne hne]
      exact ih
theorem lit_hit (ops : Array Oper) (vals : Nat → Value) (a : Act) (t : Tmp) (ht : t < a.tmps.size) (j : Nat) (hj : dst ops j = some t) : ∀ k, j < k → (∀ i, i < k → dst ops i = some t → i = j) → (lit ops vals k a).tmps[t]? = some (vals j)
  | 0, h, _ => by omega
  | k + 1, h, hu => by
    simp only [lit]
    by_cases hjk : j = k
    · subst hjk
      unfold dst at hj
      rw [hj]
      simp [Act.put, lit_size, ht]
    · have ih := lit_hit ops vals a t ht j hj k (by omega) (fun i hi => hu i (by omega))
      cases hd : (ops[k]?).bind (·.dst) with
      | none => simpa [Act.put] using ih
      | some d =>
        have hne : d ≠ t := fun e => hjk (hu k (by omega) (by unfold dst; rw [hd, e])).symm
        simp only [Act.put, Array.getElem?_setIfInBounds_ne hne]
        exact ih

/-- What is asked of the region, by its shape alone. -/
structure Shape (ops : Array Oper) (n0 : Nat) : Prop where
  le : n0 ≤ ops.size
  low : ∀ (i : Nat) (o : Oper), ops[i]? = some o → ∀ e ∈ o.after, Region.binds .any e = true → e.on < i
  noguard : ∀ (i : Nat) (o : Oper), i < n0 → ops[i]? = some o → o.guard = none
  nosel : ∀ (i : Nat) (o : Oper) cs b, i < n0 → ops[i]? = some o → o.op ≠ .select cs b
  some_ : ∀ i, i < n0 → ∃ t, dst ops i = some t
  dist : ∀ (i j : Nat) (t : Tmp), i < n0 → j < n0 → dst ops i = some t → dst ops j = some t → i = j
  looks : ∀ (i : Nat) (o : Oper), i < n0 → ops[i]? = some o → ∀ t, Operand.tmp t ∈ o.op.operands → ∀ j, j < n0 → dst ops j = some t → ∃ e ∈ o.after, Region.binds .any e = true ∧ e.on = j

/-- What is known while the operations below n0 come up. -/
structure Inv (ops : Array Oper) (n0 : Nat) (Φ : Nat → Value → World → Prop) (mk : Nat → Bool) (a0 : Act) (w0 : World) (listed : Array Bool) (a : Act) (w : World) : Prop where
  size : listed.size = ops.size
  bel : Below w0.heap.size w0 w
  defers : a.defers = a0.defers
  tsize : a.tmps.size = a0.tmps.size
  rest : ∀ t, (∀ i, listed.getD i false = true → dst ops i ≠ some t) → a.tmps[t]? = a0.tmps[t]?
  fact : ∀ i, i < n0 → listed.getD i false = true → Φ i (val ops a i) w
  pre : ∀ i, n0 ≤ i → listed.getD i false = false
  mkv : ∀ i, i < n0 → mk i = true → listed.getD i false = true → ∃ b, val ops a i = .pointer (some ⟨b, 0, none⟩) ∧ b < w.heap.size
  mkd : ∀ i j, i < n0 → j < n0 → i ≠ j → mk i = true → mk j = true → listed.getD i false = true → listed.getD j false = true → val ops a i ≠ val ops a j

theorem val_put_same {ops : Array Oper} {a : Act} {i : Nat} {t : Tmp} {v : Value} (hd : dst ops i = some t) (ht : t < a.tmps.size) : val ops (a.put (dst ops i) v) i = v := by
  unfold val
  unfold dst at hd
  rw [hd]
  simp [Act.put, dst, hd, ht]
theorem val_put_other {ops : Array Oper} {a : Act} {i j : Nat} {t : Tmp} {v : Value} (hd : dst ops i = some t) (hj : dst ops j ≠ some t) : val ops (a.put (dst ops i) v) j = val ops a j := by
  unfold val
  unfold dst at hd hj
  cases h : (ops[j]?).bind (·.dst) with
  | none => rfl
  | some u =>
    have hne : t ≠ u := fun e => hj (by rw [h, e])
    simp [Act.put, dst, hd, Array.getElem?_setIfInBounds_ne hne]

theorem getD_set {listed : Array Bool} {i j : Nat} (hi : i < listed.size) : (listed.setIfInBounds i true).getD j false = true ↔ (j = i ∨ listed.getD j false = true) := by
  by_cases h : i = j
  · subst h; simp [hi]
  · rw [getD_set_ne false h]
    constructor
    · exact .inr
    · rintro (e | e)
      · exact absurd e.symm h
      · exact e

section
variable {P : Program} {ops : Array Oper} {n0 : Nat} {Φ : Nat → Value → World → Prop} {mk : Nat → Bool} {a0 : Act} {w0 : World} {Q : Exit → Act → World → Prop}

/-- The first k are listed, and no other. -/
def upto (n k : Nat) : Array Bool := Array.replicate k true ++ Array.replicate (n - k) false

theorem upto_size {n k : Nat} (h : k ≤ n) : (upto n k).size = n := by simp [upto]; omega
theorem upto_get (n k i : Nat) (h : k ≤ n) (hi : i < n) : (upto n k)[i]? = some (decide (i < k)) := by
  unfold upto
  by_cases hk : i < k
  · rw [Array.getElem?_append_left (by simpa using hk)]; simp [hk]
  · rw [Array.getElem?_append_right (by simpa using hk)]
    simp only [Array.size_replicate, Array.getElem?_replicate, hk, decide_false]
    rw [if_pos (by omega)]
theorem upto_succ {n k : Nat} (h : k < n) : (upto n k).setIfInBounds k true = upto n (k + 1) := by
  apply Array.ext_getElem?
  intro i
  by_cases hi : i < n
  · rw [upto_get n (k + 1) i (by omega) hi]
    by_cases hk : k = i
    · subst hk; simp [upto_size (Nat.le_of_lt h), h]
    · rw [Array.getElem?_setIfInBounds_ne hk, upto_get n k i (by omega) hi]
      congr 1; rw [decide_eq_decide]; omega
  · rw [Array.getElem?_eq_none (by rw [Array.size_setIfInBounds, upto_size (by omega)]; omega), Array.getElem?_eq_none (by rw [upto_size (by omega)]; omega)]

/-- Behind the first n0: one order. -/
theorem suffix_any (hseq : ∀ k, n0 ≤ k → k ≤ ops.size → Region.ready .any ops (upto ops.size k) = if k < ops.size then [k] else []) :
    ∀ (fuel k : Nat) (a : Act) (w : World), n0 ≤ k → k ≤ ops.size → ops.size - k ≤ fuel → wpOps P ops Q (List.range' k (ops.size - k)) a w → wpAny P .any ops Q fuel (upto ops.size k) a w
  | 0, k, a, w, h1, h2, h3, h => by
    have hk : k = ops.size := by omega
    subst hk
    refine ⟨by rw [hseq _ h1 h2]; simp, by simpa [wpOps] using h⟩
  | fuel + 1, k, a, w, h1, h2, h3, h => by
    by_cases hk : k < ops.size
    · have hr := hseq k h1 h2
      rw [if_pos hk] at hr
      refine ⟨fun h0 => by rw [hr] at h0; simp at h0, fun i hi => ?_⟩
      rw [hr] at hi
      obtain rfl : i = k := by simpa using hi
      have e : ops.size - i = (ops.size - (i + 1)) + 1 := by omega
      rw [e, List.range'_succ, wpOps_cons] at h
      refine wpOp_mono (fun a' w' h' => ?_) h
      rw [upto_succ hk]
      exact suffix_any hseq fuel (i + 1) a' w' (by omega) (by omega) (by omega) h'
    · have hk' : k = ops.size := by omega
      subst hk'
      have hr := hseq ops.size h1 h2
      rw [if_neg (by omega)] at hr
      refine ⟨fun _ => by simpa [wpOps] using h, fun i hi => ?_⟩
      rw [hr] at hi
      cases hi

theorem inv_lit (hS : Shape ops n0) (hin : ∀ i t, i < n0 → dst ops i = some t → t < a0.tmps.size) {listed : Array Bool} {a : Act} {w : World} (hI : Inv ops n0 Φ mk a0 w0 listed a w)
    (k : Nat) (hk : k ≤ n0) (t : Tmp) (hlist : ∀ j, j < n0 → dst ops j = some t → j < k ∧ listed.getD j false = true) : (lit ops (val ops a) k a0).tmps[t]? = a.tmps[t]? := by
  by_cases h : ∃ j, j < n0 ∧ dst ops j = some t
  · obtain ⟨j, hj, hd⟩ := h
    obtain ⟨hjk, hl⟩ := hlist j hj hd
    have ht := hin j t hj hd
    rw [lit_hit ops _ a0 t ht j hd k hjk (fun i hi hdi => hS.dist i j t (by omega) hj hdi hd)]
    have hta : t < a.tmps.size := by rw [hI.tsize]; exact ht
    unfold val
    unfold dst at hd
    rw [hd]
    simp [hta]
  · have h' : ∀ j, j < n0 → dst ops j ≠ some t := fun j hj hd => h ⟨j, hj, hd⟩
    rw [lit_miss ops _ a0 t k (fun j hj => h' j (by omega))]
    refine (hI.rest t fun i hi => ?_).symm
    by_cases hin0 : i < n0
    · exact h' i hin0
    · have := hI.pre i (by omega)
      rw [this] at hi
      cases hi

theorem prefix_any (hS : Shape ops n0) (hin : ∀ i t, i < n0 → dst ops i = some t → t < a0.tmps.size)
    (hst : ∀ i v w w', i < n0 → Φ i v w → Below w.heap.size w w' → Φ i v w')
    (hseq : ∀ k, n0 ≤ k → k ≤ ops.size → Region.ready .any ops (upto ops.size k) = if k < ops.size then [k] else [])
    (hlast : ∀ i, n0 ≤ i → ∀ listed : Array Bool, listed.size = ops.size → (∀ j o, ops[j]? = some o → listed.getD j false = true → ∀ e ∈ o.after, Region.binds .any e = true → listed.getD e.on false = true) → i ∈ Region.ready .any ops listed → ∀ j, j < n0 → listed.getD j false = true)
    (hstep : ∀ i o, i < n0 → ops[i]? = some o → ∀ (vals : Nat → Value) (w : World), Below w0.heap.size w0 w → (∀ e ∈ o.after, Region.binds .any e = true → Φ e.on (vals e.on) w) →
      step P o (lit ops vals i a0) w (fun v w' => Φ i v w' ∧ (mk i = true → v = .pointer (some ⟨w.heap.size, 0, none⟩) ∧ w.heap.size < w'.heap.size)))
    (hsuf : ∀ (vals : Nat → Value) (w : World), Below w0.heap.size w0 w → (∀ i, i < n0 → Φ i (vals i) w) → (∀ i j, i < n0 → j < n0 → i ≠ j → mk i = true → mk j = true → vals i ≠ vals j) →
      wpOps P ops Q (List.range' n0 (ops.size - n0)) (lit ops vals n0 a0) w) :
    ∀ (fuel : Nat) (listed : Array Bool) (a : Act) (w : World), listed.count false ≤ fuel → (∀ j o, ops[j]? = some o → listed.getD j false = true → ∀ e ∈ o.after, Region.binds .any e = true → listed.getD e.on false = true) →
      Inv ops n0 Φ mk a0 w0 listed a w → wpAny P .any ops Q fuel listed a w := by
  have fin : ∀ (fuel : Nat) (listed : Array Bool) (a : Act) (w : World), listed.count false ≤ fuel → Inv ops n0 Φ mk a0 w0 listed a w → (∀ j, j < n0 → listed.getD j false = true) → wpAny P .any ops Q fuel listed a w := by
    intro fuel listed a w hc hI hall
    have hle := hS.le
    have hl : listed = upto ops.size n0 := by
      apply Array.ext_getElem?
      intro i
      by_cases hi : i < ops.size
      · rw [upto_get _ _ i hle hi]
        have hil : i < listed.size := by rw [hI.size]; exact hi
        by_cases hn : i < n0
        · have := hall i hn
          simp [hil] at this
          simp [hil, hn, this]
        · have := hI.pre i (by omega)
          simp [hil] at this
          simp [hil, hn, this]
      · rw [Array.getElem?_eq_none (by rw [hI.size]; omega), Array.getElem?_eq_none (by rw [upto_size hle]; omega)]
    have ha : lit ops (val ops a) n0 a0 = a := by
      have h1 : (lit ops (val ops a) n0 a0).tmps = a.tmps := by
        apply Array.ext_getElem?
        intro t
        exact inv_lit hS hin hI n0 (Nat.le_refl _) t fun j hj _ => ⟨hj, hall j hj⟩
      have h2 : (lit ops (val ops a) n0 a0).defers = a.defers := by rw [lit_defers, hI.defers]
      cases hx : lit ops (val ops a) n0 a0
      cases a
      rw [hx] at h1 h2
      simp at h1 h2
      simp [h1, h2]
    have hcc : ops.size - n0 ≤ fuel := by
      rw [hl] at hc
      simpa [upto, Array.count_append, Array.count_replicate] using hc
    have hs := hsuf (val ops a) w hI.bel (fun i hi => hI.fact i hi (hall i hi)) (fun i j hi hj hne mi mj => hI.mkd i j hi hj hne mi mj (hall i hi) (hall j hj))
    rw [ha] at hs
    rw [hl]
    exact suffix_any hseq fuel n0 a w (Nat.le_refl _) hle hcc hs
  intro fuel
  induction fuel with
  | zero =>
    intro listed a w hc hdown hI
    refine fin 0 listed a w hc hI fun j hj => ?_
    have hle := hS.le
    have hjl : j < listed.size := by rw [hI.size]; omega
    have h0 : ¬ (false ∈ listed) := Array.not_mem_of_count_eq_zero (by omega)
    have : listed[j] ≠ false := fun e => h0 (e ▸ Array.getElem_mem hjl)
    simp [hjl]
    simpa using this
  | succ fuel ih =>
    intro listed a w hc hdown hI
    by_cases hall : ∀ j, j < n0 → listed.getD j false = true
    · exact fin _ listed a w hc hI hall
    · have hex : ∃ j, j < n0 ∧ listed.getD j false = false := by
        refine Classical.byContradiction fun h => hall fun j hj => ?_
        cases hb : listed.getD j false
        · exact absurd ⟨j, hj, hb⟩ h
        · rfl
      refine ⟨fun hr => ?_, fun i hi => ?_⟩
      · exfalso
        obtain ⟨j, hj, hjf, hmin⟩ : ∃ j, j < n0 ∧ listed.getD j false = false ∧ ∀ k, k < j → listed.getD k false = true := by
          have key : ∀ n j, j ≤ n → j < n0 → listed.getD j false = false → ∃ j, j < n0 ∧ listed.getD j false = false ∧ ∀ k, k < j → listed.getD k false = true := by
            intro n
            induction n with
            | zero =>
              intro j hj hjn hjf
              exact ⟨j, hjn, hjf, fun k hk => by omega⟩
            | succ n ihn =>
              intro j hj hjn hjf
              by_cases hk : ∀ k, k < j → listed.getD k false = true
              · exact ⟨j, hjn, hjf, hk⟩
              · obtain ⟨k, hkj, hkf⟩ : ∃ k, k < j ∧ listed.getD k false = false := by
                  refine Classical.byContradiction fun h => hk fun k hkj => ?_
                  cases hb : listed.getD k false
                  · exact absurd ⟨k, hkj, hb⟩ h
                  · rfl
                exact ihn k (by omega) (by omega) hkf
          obtain ⟨j, hj, hjf⟩ := hex
          exact key j j (Nat.le_refl _) hj hjf
        have hle := hS.le
        have hjo : j < ops.size := by omega
        have hjl : j < listed.size := by rw [hI.size]; exact hjo
        have hm : j ∈ Region.ready .any ops listed := by
          refine mem_ready.2 ⟨?_, ops[j], by simp [hjo], fun e he hb => hmin e.on (hS.low j _ (by simp [hjo]) e he hb)⟩
          simpa [hjl] using hjf
        rw [hr] at hm
        cases hm
      · have hin0 : i < n0 := by
          rcases Nat.lt_or_ge i n0 with h | h
          · exact h
          · exact absurd (hlast i h listed hI.size hdown hi) hall
        obtain ⟨hun, o, ho, hdeps⟩ := mem_ready.1 hi
        have hio : i < ops.size := (Array.getElem?_eq_some_iff.1 ho).1
        have hil : i < listed.size := by rw [hI.size]; exact hio
        have hif : listed[i] = false := by simpa [hil] using hun
        obtain ⟨t, hd⟩ := hS.some_ i hin0
        have ht := hin i t hin0 hd
        have hta : t < a.tmps.size := by rw [hI.tsize]; exact ht
        have hod : o.dst = dst ops i := by simp [dst, ho]
        have hcongr : execOp (lit ops (val ops a) i a0).eval o = execOp a.eval o := by
          refine execOp_congr o (fun cs b => hS.nosel i o cs b hin0 ho) fun x hx => ?_
          cases x with
          | tmp t' =>
            have := inv_lit hS hin hI i (by omega) t' fun j hj hdj => by
              obtain ⟨e, he, hb, hon⟩ := hS.looks i o hin0 ho t' hx j hj hdj
              subst hon
              exact ⟨hS.low i o ho e he hb, hdeps e he hb⟩
            simp only [Act.eval, Array.getD_eq_getD_getElem?, this]
          | _ => rfl
        have hs := hstep i o hin0 ho (val ops a) w hI.bel (fun e he hb => hI.fact e.on (by have := hS.low i o ho e he hb; omega) (hdeps e he hb))
        have hw : Region.wanted o (yielded ops a.tmps) = true := by simp [Region.wanted, hS.noguard i o hin0 ho]
        unfold wpOp
        simp only [ho, hw, if_true]
        refine .inl ?_
        have hs' : step P o a w (fun v w' => Φ i v w' ∧ (mk i = true → v = .pointer (some ⟨w.heap.size, 0, none⟩) ∧ w.heap.size < w'.heap.size)) := by
          unfold step at hs ⊢
          rw [hcongr] at hs
          exact hs
        refine step_wp hs' (fun v w' hφ hb => ?_)
        obtain ⟨hφ, hmk⟩ := hφ
        rw [hod]
        have hother : ∀ j, j < n0 → j ≠ i → dst ops j ≠ some t := fun j hj hne e => hne (hS.dist j i t hj hin0 e hd)
        refine ih _ _ _ ?_ ?_ ⟨by simp [hI.size], hI.bel.trans (hb.mono hI.bel.size), ?_, ?_, ?_, ?_, ?_, ?_, ?_⟩
        · have hcs : (listed.setIfInBounds i true).count false = listed.count false - 1 := by
            rw [Array.setIfInBounds, dif_pos hil, Array.count_set hil]
            simp [hif]
          omega
        · intro j oj hoj hlj e he hbe
          rw [getD_set hil] at hlj ⊢
          rcases hlj with rfl | hlj
          · rw [ho] at hoj
            obtain rfl := Option.some.inj hoj
            exact .inr (hdeps e he hbe)
          · exact .inr (hdown j oj hoj hlj e he hbe)
        · rw [hd]; exact hI.defers
        · rw [hd]; simp [Act.put, hI.tsize]
        · intro u hu
          have hui : dst ops i ≠ some u := hu i ((getD_set hil).2 (.inl rfl))
          have hne : t ≠ u := fun e => hui (by rw [hd, e])
          rw [hd]
          simp only [Act.put, Array.getElem?_setIfInBounds_ne hne]
          exact hI.rest u fun j hj => hu j ((getD_set hil).2 (.inr hj))
        · intro j hj hlj
          by_cases hji : j = i
          · subst hji; rw [val_put_same hd hta]; exact hφ
          · rw [val_put_other hd (hother j hj hji)]
            exact hst j _ w w' hj (hI.fact j hj (((getD_set hil).1 hlj).resolve_left hji)) hb
        · intro j hj
          have hne : i ≠ j := by omega
          rw [getD_set_ne false hne]; exact hI.pre j hj
        · intro j hj hmj hlj
          by_cases hji : j = i
          · subst hji
            rw [val_put_same hd hta]
            exact ⟨w.heap.size, (hmk hmj).1, (hmk hmj).2⟩
          · rw [val_put_other hd (hother j hj hji)]
            obtain ⟨b, hb1, hb2⟩ := hI.mkv j hj hmj (((getD_set hil).1 hlj).resolve_left hji)
            exact ⟨b, hb1, by have := hb.size; omega⟩
        · intro j k hj hk hne hmj hmk' hlj hlk
          by_cases hji : j = i
          · subst hji
            have hki : k ≠ j := fun e => hne e.symm
            rw [val_put_same hd hta, val_put_other hd (hother k hk hki)]
            obtain ⟨b, hb1, hb2⟩ := hI.mkv k hk hmk' (((getD_set hil).1 hlk).resolve_left hki)
            rw [hb1, (hmk hmj).1]
            intro e
            simp at e
            omega
          · by_cases hki : k = i
            · subst hki
              rw [val_put_same hd hta, val_put_other hd (hother j hj hji)]
              obtain ⟨b, hb1, hb2⟩ := hI.mkv j hj hmj (((getD_set hil).1 hlj).resolve_left hji)
              rw [hb1, (hmk hmk').1]
              intro e
              simp at e
              omega
            · rw [val_put_other hd (hother j hj hji), val_put_other hd (hother k hk hki)]
              exact hI.mkd j k hj hk hne hmj hmk' (((getD_set hil).1 hlj).resolve_left hji) (((getD_set hil).1 hlk).resolve_left hki)
end

end Go.Mix
