/-
  The law of YgcoaaGreatMix as a walk in the order of the text, its shape asked by one Bool.
-/
import Derived.Test.YgcoaaGreatMix
set_option linter.unusedVariables false
namespace Go.Mix
open Go.RowKit

def depOn (o : Oper) (j : Nat) : Bool := o.after.any fun e => Region.binds .any e && e.on == j

theorem depOn_spec {o : Oper} {j : Nat} : depOn o j = true ↔ ∃ e ∈ o.after, Region.binds .any e = true ∧ e.on = j := by
  unfold depOn
  rw [← Array.any_toList, List.any_eq_true]
  simp

/-- j comes ahead of i, by at most f edges. -/
def reachB (ops : Array Oper) : Nat → Nat → Nat → Bool
  | 0, _, _ => false
  | f + 1, i, j => match ops[i]? with
    | none => false
    | some o => o.after.any fun e => Region.binds .any e && (e.on == j || reachB ops f e.on j)

theorem reachB_spec {ops : Array Oper} {listed : Array Bool} (hdown : ∀ j o, ops[j]? = some o → listed.getD j false = true → ∀ e ∈ o.after, Region.binds .any e = true → listed.getD e.on false = true) :
    ∀ (f i j : Nat) (o : Oper), ops[i]? = some o → (∀ e ∈ o.after, Region.binds .any e = true → listed.getD e.on false = true) → reachB ops f i j = true → listed.getD j false = true
  | 0, _, _, _, _, _, h => by simp [reachB] at h
  | f + 1, i, j, o, ho, hd, h => by
    simp only [reachB, ho] at h
    rw [← Array.any_toList, List.any_eq_true] at h
    obtain ⟨e, he, h⟩ := h
    have he : e ∈ o.after := by simpa using he
    simp only [Bool.and_eq_true, Bool.or_eq_true, beq_iff_eq] at h
    obtain ⟨hb, h | h⟩ := h
    · rw [← h]; exact hd e he hb
    · cases ho' : ops[e.on]? with
      | none =>
        cases f with
        | zero => simp [reachB] at h
        | succ f => simp [reachB, ho'] at h
      | some o' => exact reachB_spec hdown f e.on j o' ho' (fun e' he' hb' => hdown e.on o' ho' (hd e he hb) e' he' hb') h

/-- The region's shape. -/
def shapeB (ops : Array Oper) (n0 f : Nat) : Bool :=
  decide (n0 ≤ ops.size) &&
  (List.range ops.size).all (fun i => match ops[i]? with
    | none => false
    | some o => o.after.all (fun e => !Region.binds .any e || decide (e.on < i)) &&
      (if i < n0 then o.guard.isNone && (match o.op with | .select .. => false | _ => true) && o.dst.isSome &&
          o.op.operands.all (fun x => match x with | .tmp t => (List.range n0).all (fun j => dst ops j != some t || depOn o j) | _ => true) &&
          (List.range n0).all (fun j => i == j || dst ops j != dst ops i)
        else (List.range n0).all (fun j => reachB ops f i j))) &&
  (List.range (ops.size + 1)).all (fun k => decide (k < n0) || Region.ready .any ops (upto ops.size k) == (if k < ops.size then [k] else []))

theorem shape_of {ops : Array Oper} {n0 f : Nat} (h : shapeB ops n0 f = true) : Shape ops n0 ∧
    (∀ k, n0 ≤ k → k ≤ ops.size → Region.ready .any ops (upto ops.size k) = if k < ops.size then [k] else []) ∧
    (∀ i, n0 ≤ i → ∀ listed : Array Bool, listed.size = ops.size → (∀ j o, ops[j]? = some o → listed.getD j false = true → ∀ e ∈ o.after, Region.binds .any e = true → listed.getD e.on false = true) → i ∈ Region.ready .any ops listed → ∀ j, j < n0 → listed.getD j false = true) := by
  simp only [shapeB, Bool.and_eq_true, decide_eq_true_eq, List.all_eq_true, List.mem_range] at h
  obtain ⟨⟨hle, hops⟩, hseq⟩ := h
  have at_ : ∀ i o, ops[i]? = some o → _ := fun i o ho => by
    have := hops i (Array.getElem?_eq_some_iff.1 ho).1
    rw [ho] at this
    exact this
  refine ⟨⟨hle, ?_, ?_, ?_, ?_, ?_, ?_⟩, ?_, ?_⟩
  · intro i o ho e he hb
    have := (at_ i o ho)
    simp only [Bool.and_eq_true, Array.all_eq_true_iff_forall_mem] at this
    have := this.1 e he
    simpa [hb] using this
  · intro i o hi ho
    have := (at_ i o ho)
    simp only [if_pos hi, Bool.and_eq_true, Option.isNone_iff_eq_none] at this
    exact this.2.1.1.1.1
  · intro i o cs b hi ho hsel
    have := (at_ i o ho)
    simp only [if_pos hi, Bool.and_eq_true, hsel] at this
    simp at this
  · intro i hi
    have ho : ops[i]? = some (ops[i]'(by omega)) := by simp
    have := (at_ i _ ho)
    simp only [if_pos hi, Bool.and_eq_true] at this
    obtain ⟨t, ht⟩ := Option.isSome_iff_exists.1 this.2.1.1.2
    exact ⟨t, by unfold dst; rw [ho]; exact ht⟩
  · intro i j t hi hj hdi hdj
    have ho : ops[i]? = some (ops[i]'(by omega)) := by simp
    have := (at_ i _ ho)
    simp only [if_pos hi, Bool.and_eq_true, List.all_eq_true, List.mem_range] at this
    have := this.2.2 j hj
    rw [hdi, hdj] at this
    simpa using this
  · intro i o hi ho t hx j hj hdj
    have := (at_ i o ho)
    simp only [if_pos hi, Bool.and_eq_true, Array.all_eq_true_iff_forall_mem] at this
    have := this.2.1.2 _ hx
    simp only [List.all_eq_true, List.mem_range] at this
    have := this j hj
    rw [hdj] at this
    simp only [bne_self_eq_false, Bool.false_or] at this
    exact depOn_spec.1 this
  · intro k h1 h2
    have := hseq k (by omega)
    simp only [Bool.or_eq_true, decide_eq_true_eq, beq_iff_eq] at this
    exact this.resolve_left (by omega)
  · intro i hi listed hsz hdown hready j hj
    obtain ⟨_, o, ho, hdeps⟩ := mem_ready.1 hready
    have := (at_ i o ho)
    simp only [if_neg (Nat.not_lt.2 hi), Bool.and_eq_true, List.all_eq_true, List.mem_range] at this
    exact reachB_spec hdown f i j o ho hdeps (this.2 j hj)

/-- What the walk asks of operation k's value. -/
def fact (Φ : Nat → Value → World → Prop) (mk : Nat → Bool) (k : Nat) (w : World) (v : Value) (w' : World) : Prop :=
  Φ k v w' ∧ (mk k = true → v = .pointer (some ⟨w.heap.size, 0, none⟩) ∧ w.heap.size < w'.heap.size)

/-- THE WALK in the order of the text: n0 operations, each in every later world, what its own forerunners yielded being known there; then the rest, all being known. -/
def Walk (P : Program) (ops : Array Oper) (Q : Exit → Act → World → Prop) (Φ : Nat → Value → World → Prop) (mk : Nat → Bool) (w0 : World) : Nat → List Oper → Nat → Act → List (Nat × (World → Prop)) → List Value → Prop
  | 0, rest, _, a, Γ, D => ∀ w, Below w0.heap.size w0 w → (∀ p ∈ Γ, p.2 w) → D.Pairwise (· ≠ ·) → wpList P ops Q rest a w
  | _ + 1, [], _, _, _, _ => False
  | m + 1, o :: rest, k, a, Γ, D =>
    (∀ w, Below w0.heap.size w0 w → (∀ p ∈ Γ, depOn o p.1 = true → p.2 w) → wpList P ops (One a o w (fact Φ mk k w)) [o] a w) ∧
    ∀ v, Walk P ops Q Φ mk w0 m rest (k + 1) (a.put o.dst v) ((k, Φ k v) :: Γ) (if mk k then v :: D else D)

def Gam (Φ : Nat → Value → World → Prop) (vals : Nat → Value) : Nat → List (Nat × (World → Prop))
  | 0 => []
  | k + 1 => (k, Φ k (vals k)) :: Gam Φ vals k
def Dis (mk : Nat → Bool) (vals : Nat → Value) : Nat → List Value
  | 0 => []
  | k + 1 => if mk k then vals k :: Dis mk vals k else Dis mk vals k

theorem mem_Gam {Φ : Nat → Value → World → Prop} {vals : Nat → Value} {p : Nat × (World → Prop)} : ∀ {k}, p ∈ Gam Φ vals k → ∃ j, j < k ∧ p = (j, Φ j (vals j))
  | 0, h => by cases h
  | k + 1, h => by
    rcases List.mem_cons.1 h with h | h
    · exact ⟨k, by omega, h⟩
    · obtain ⟨j, hj, e⟩ := mem_Gam h
      exact ⟨j, by omega, e⟩
theorem mem_Dis {mk : Nat → Bool} {vals : Nat → Value} {x : Value} : ∀ {k}, x ∈ Dis mk vals k → ∃ j, j < k ∧ mk j = true ∧ x = vals j
  | 0, h => by cases h
  | k + 1, h => by
    simp only [Dis] at h
    split at h
    · rename_i hm
      rcases List.mem_cons.1 h with h | h
      · exact ⟨k, by omega, hm, h⟩
      · obtain ⟨j, hj, e⟩ := mem_Dis h
        exact ⟨j, by omega, e⟩
    · obtain ⟨j, hj, e⟩ := mem_Dis h
      exact ⟨j, by omega, e⟩
theorem pairwise_Dis {mk : Nat → Bool} {vals : Nat → Value} {n : Nat} (h : ∀ i j, i < n → j < n → i ≠ j → mk i = true → mk j = true → vals i ≠ vals j) : ∀ k, k ≤ n → (Dis mk vals k).Pairwise (· ≠ ·)
  | 0, _ => List.Pairwise.nil
  | k + 1, hk => by
    simp only [Dis]
    split
    · rename_i hm
      refine List.Pairwise.cons (fun x hx => ?_) (pairwise_Dis h k (by omega))
      obtain ⟨j, hj, hmj, rfl⟩ := mem_Dis hx
      exact h k j (by omega) (by omega) (by omega) hm hmj
    · exact pairwise_Dis h k (by omega)

section
variable {P : Program} {Q : Exit → Act → World → Prop} {Φ : Nat → Value → World → Prop} {mk : Nat → Bool} {a0 : Act} {w0 : World}

theorem walk_at {l : List Oper} {n0 : Nat} (hn : n0 ≤ l.length) (vals : Nat → Value) (h : Walk P l.toArray Q Φ mk w0 n0 l 0 a0 [] []) :
    ∀ k, k ≤ n0 → Walk P l.toArray Q Φ mk w0 (n0 - k) (l.drop k) k (lit l.toArray vals k a0) (Gam Φ vals k) (Dis mk vals k)
  | 0, _ => by simpa [lit, Gam, Dis] using h
  | k + 1, hk => by
    have ih := walk_at hn vals h k (by omega)
    have e1 : n0 - k = (n0 - (k + 1)) + 1 := by omega
    have hkl : k < l.length := by omega
    rw [e1, List.drop_eq_getElem_cons hkl] at ih
    have := ih.2 (vals k)
    simpa [lit, Gam, Dis, hkl] using this

theorem rep_false (n i : Nat) : (Array.replicate n false).getD i false = false := by
  rw [Array.getD_eq_getD_getElem?, Array.getElem?_replicate]
  split <;> rfl

/-- THE LAW. -/
theorem wp_region_mix {id : Nat} {l : List Oper} {w : World} (n0 f : Nat) (Φ : Nat → Value → World → Prop) (mk : Nat → Bool) (hm : P.follows .mixedOrders = true) (hB : shapeB l.toArray n0 f = true)
    (hin : ((List.range n0).all fun i => match dst l.toArray i with | some t => decide (t < a0.tmps.size) | none => true) = true)
    (hst : ∀ i v w w', i < n0 → Φ i v w → Below w.heap.size w w' → Φ i v w')
    (h : Walk P l.toArray Q Φ mk w n0 l 0 a0 [] []) : (Code.region id l.toArray true).wp P Q a0 w := by
  obtain ⟨hS, hseq, hlast⟩ := shape_of hB
  have hle : n0 ≤ l.length := by simpa using hS.le
  have hin' : ∀ i t, i < n0 → dst l.toArray i = some t → t < a0.tmps.size := by
    intro i t hi hd
    have := (List.all_eq_true.1 hin) i (List.mem_range.2 hi)
    rw [hd] at this
    simpa using this
  refine wp_region_any hm ?_
  refine prefix_any (Φ := Φ) (mk := mk) (w0 := w) (n0 := n0) hS hin' hst hseq hlast ?_ ?_ _ _ a0 _ (by simp) ?_ ?_
  · intro i o hi ho vals w1 hb hfacts
    have hw := walk_at hle vals h i (by omega)
    have hil : i < l.length := by omega
    have e1 : n0 - i = (n0 - (i + 1)) + 1 := by omega
    rw [e1, List.drop_eq_getElem_cons hil] at hw
    have hoi : l[i] = o := by simpa [hil] using ho
    rw [hoi] at hw
    obtain ⟨t, hd⟩ := hS.some_ i hi
    have hod : o.dst = some t := by simpa [dst, ho, hoi, hil] using hd
    refine step_of_wp (ops := l.toArray) (hS.noguard i o hi ho) hod (by rw [lit_size]; exact hin' i t hi hd) ?_
    refine hw.1 w1 hb fun p hp hdep => ?_
    obtain ⟨j, hj, rfl⟩ := mem_Gam hp
    obtain ⟨e, he, hbe, hon⟩ := depOn_spec.1 hdep
    have := hfacts e he hbe
    rw [hon] at this
    exact this
  · intro vals w1 hb hfacts hdis
    have hw := walk_at hle vals h n0 (Nat.le_refl _)
    rw [Nat.sub_self] at hw
    have := hw w1 hb (fun p hp => by obtain ⟨j, hj, rfl⟩ := mem_Gam hp; exact hfacts j hj) (pairwise_Dis hdis n0 (Nat.le_refl _))
    have e := wpOps_eq_wpList (P := P) (ops := l.toArray) (Q := Q) (l.drop n0) n0 (by intro j; simp)
    rw [List.length_drop] at e
    simp only [List.size_toArray]
    rw [e]
    exact this
  · intro j o hj hl
    rw [rep_false] at hl; cases hl
  · refine ⟨by simp, (Below.refl _ w).drew, rfl, rfl, fun t _ => rfl, ?_, ?_, ?_, ?_⟩
    · intro i hi hl; rw [rep_false] at hl; cases hl
    · intro i hi; exact rep_false _ _
    · intro i hi _ hl; rw [rep_false] at hl; cases hl
    · intro i j _ _ _ _ _ hl; rw [rep_false] at hl; cases hl
end

end Go.Mix
