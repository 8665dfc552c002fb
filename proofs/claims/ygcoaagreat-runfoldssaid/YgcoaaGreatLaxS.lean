/-
  The law of YgcoaaGreatLaxB, once more, with stores among the operations that come in any order: silent operations, that yield nothing and write memory of the function's own.
-/
import Derived.Test.YgcoaaGreatLaxC
set_option linter.unusedVariables false
namespace Go.LaxS
open Go.RowKit Go.Mix Go.Lax

structure ShapeS (ops : Array Oper) (n0 : Nat) : Prop where
  le : n0 ≤ ops.size
  low : ∀ (i : Nat) (o : Oper), ops[i]? = some o → ∀ e ∈ o.after, Region.binds .any e = true → e.on < i
  noguard : ∀ (i : Nat) (o : Oper), i < n0 → ops[i]? = some o → o.guard = none
  nosel : ∀ (i : Nat) (o : Oper) cs b, i < n0 → ops[i]? = some o → o.op ≠ .select cs b
  dist : ∀ (i j : Nat) (t : Tmp), i < n0 → j < n0 → dst ops i = some t → dst ops j = some t → i = j
  looks : ∀ (i : Nat) (o : Oper), i < n0 → ops[i]? = some o → ∀ t, Operand.tmp t ∈ o.op.operands → ∀ j, j < n0 → dst ops j = some t → ∃ e ∈ o.after, Region.binds .any e = true ∧ e.on = j

/-- The region's shape. -/
def shapeSB (ops : Array Oper) (n0 f : Nat) : Bool :=
  decide (n0 ≤ ops.size) &&
  (List.range ops.size).all (fun i => match ops[i]? with
    | none => false
    | some o => o.after.all (fun e => !Region.binds .any e || decide (e.on < i)) &&
      (if i < n0 then o.guard.isNone && (match o.op with | .select .. => false | _ => true) &&
          o.op.operands.all (fun x => match x with | .tmp t => (List.range n0).all (fun j => dst ops j != some t || depOn o j) | _ => true) &&
          (List.range n0).all (fun j => i == j || dst ops i == none || dst ops j != dst ops i)
        else (List.range n0).all (fun j => reachB ops f i j))) &&
  (List.range (ops.size + 1)).all (fun k => decide (k < n0) || Region.ready .any ops (upto ops.size k) == (if k < ops.size then [k] else []))

theorem shape_ofS {ops : Array Oper} {n0 f : Nat} (h : shapeSB ops n0 f = true) : ShapeS ops n0 ∧
    (∀ k, n0 ≤ k → k ≤ ops.size → Region.ready .any ops (upto ops.size k) = if k < ops.size then [k] else []) ∧
    (∀ i, n0 ≤ i → ∀ listed : Array Bool, listed.size = ops.size → (∀ j o, ops[j]? = some o → listed.getD j false = true → ∀ e ∈ o.after, Region.binds .any e = true → listed.getD e.on false = true) → i ∈ Region.ready .any ops listed → ∀ j, j < n0 → listed.getD j false = true) := by
  simp only [shapeSB, Bool.and_eq_true, decide_eq_true_eq, List.all_eq_true, List.mem_range] at h
  obtain ⟨⟨hle, hops⟩, hseq⟩ := h
  have at_ : ∀ i o, ops[i]? = some o → _ := fun i o ho => by
    have := hops i (Array.getElem?_eq_some_iff.1 ho).1
    rw [ho] at this
    exact this
  refine ⟨⟨hle, ?_, ?_, ?_, ?_, ?_⟩, ?_, ?_⟩
  · intro i o ho e he hb
    have := (at_ i o ho)
    simp only [Bool.and_eq_true, Array.all_eq_true_iff_forall_mem] at this
    have := this.1 e he
    simpa [hb] using this
  · intro i o hi ho
    have := (at_ i o ho)
    simp only [if_pos hi, Bool.and_eq_true, Option.isNone_iff_eq_none] at this
    exact this.2.1.1.1
  · intro i o cs b hi ho hsel
    have := (at_ i o ho)
    simp only [if_pos hi, Bool.and_eq_true, hsel] at this
    simp at this
  · intro i j t hi hj hdi hdj
    have ho : ops[i]? = some (ops[i]'(by omega)) := by simp
    have := (at_ i _ ho)
    simp only [if_pos hi, Bool.and_eq_true, List.all_eq_true, List.mem_range] at this
    have := this.2.2 j hj
    rw [hdi, hdj] at this
    simpa using this
  · intro i o hi ho t hx j hj hdj
    have := (at_ i o ho)
    simp only [if_pos hi, Bool.and_eq_true, Array.all_eq_true_iff_forall_mem] at this
    have := this.2.1.2 _ hx
    simp only [List.all_eq_true, List.mem_range] at this
    have := this j hj
    rw [hdj] at this
    simp only [bne_self_eq_false, Bool.false_or] at this
    exact depOn_spec.1 this
  · intro k h1 h2
    have := hseq k (by omega)
    simp only [Bool.or_eq_true, decide_eq_true_eq, beq_iff_eq] at this
    exact this.resolve_left (by omega)
  · intro i hi listed hsz hdown hready j hj
    obtain ⟨_, o, ho, hdeps⟩ := mem_ready.1 hready
    have := (at_ i o ho)
    simp only [if_neg (Nat.not_lt.2 hi), Bool.and_eq_true, List.all_eq_true, List.mem_range] at this
    exact reachB_spec hdown f i j o ho hdeps (this.2 j hj)

/-- One operation: it yields a value (a silent one: nothing) with a fact. -/
def stepR (P : Program) (o : Oper) (a : Act) (w : World) (φ : Value → World → Prop) : Prop :=
  match (execOp a.eval o).run P w with
  | .ok (.value v) w' => φ v w'
  | .ok .skip w' => φ undef w'
  | .ok (.enter f args) w' => Calls P f args w' fun e w'' => ∃ v, e = .returned v ∧ φ v w''
  | .ok (.row row args) w' => Rows P row args w' fun v w'' => φ v w''
  | _ => False

theorem stepR_wp {P : Program} {o : Oper} {a : Act} {w : World} {φ : Value → World → Prop} {K : Act → World → Prop} {Q : Exit → Act → World → Prop} (h : stepR P o a w φ)
    (hK : ∀ v w', φ v w' → K (a.put o.dst v) w') : o.wp P a w K Q := by
  unfold stepR at h
  unfold Oper.wp
  generalize (execOp a.eval o).run P w = r at *
  cases r with
  | ok n w' =>
    cases n <;> simp only at h <;> simp only [Oper.upon]
    case value u => exact hK _ _ h
    case skip => exact hK _ _ h
    case enter f args => exact h.mono fun e w'' ⟨v, he, h1⟩ => by subst he; exact hK _ _ h1
    case row row args => exact h.mono fun v w'' hh => hK _ _ hh
  | halt x w' => simp at h

section
variable {P : Program} {ops : Array Oper} {n0 : Nat} {Φ : Nat → (Nat → Value) → Value → World → Prop} {a0 : Act} {C : World → Prop} {Q : Exit → Act → World → Prop}

/-- What is known while the operations below n0 come up. -/
structure Inv (ops : Array Oper) (n0 : Nat) (Φ : Nat → (Nat → Value) → Value → World → Prop) (C : World → Prop) (a0 : Act) (listed : Array Bool) (a : Act) (w : World) : Prop where
  size : listed.size = ops.size
  cls : C w
  defers : a.defers = a0.defers
  tsize : a.tmps.size = a0.tmps.size
  rest : ∀ t, (∀ i, listed.getD i false = true → dst ops i ≠ some t) → a.tmps[t]? = a0.tmps[t]?
  fact : ∀ i, i < n0 → listed.getD i false = true → Φ i (val ops a) (val ops a i) w
  pre : ∀ i, n0 ≤ i → listed.getD i false = false

theorem inv_lit (hS : ShapeS ops n0) (hin : ∀ i t, i < n0 → dst ops i = some t → t < a0.tmps.size) {listed : Array Bool} {a : Act} {w : World} (hI : Inv ops n0 Φ C a0 listed a w)
    (k : Nat) (hk : k ≤ n0) (t : Tmp) (hlist : ∀ j, j < n0 → dst ops j = some t → j < k ∧ listed.getD j false = true) : (lit ops (val ops a) k a0).tmps[t]? = a.tmps[t]? := by
  by_cases h : ∃ j, j < n0 ∧ dst ops j = some t
  · obtain ⟨j, hj, hd⟩ := h
    obtain ⟨hjk, hl⟩ := hlist j hj hd
    have ht := hin j t hj hd
    rw [lit_hit ops _ a0 t ht j hd k hjk (fun i hi hdi => hS.dist i j t (by omega) hj hdi hd)]
    have hta : t < a.tmps.size := by rw [hI.tsize]; exact ht
    unfold val
    unfold dst at hd
    rw [hd]
    simp [hta]
  · have h' : ∀ j, j < n0 → dst ops j ≠ some t := fun j hj hd => h ⟨j, hj, hd⟩
    rw [lit_miss ops _ a0 t k (fun j hj => h' j (by omega))]
    refine (hI.rest t fun i hi => ?_).symm
    by_cases hin0 : i < n0
    · exact h' i hin0
    · have := hI.pre i (by omega)
      rw [this] at hi
      cases hi

theorem prefix_any (hS : ShapeS ops n0) (hin : ∀ i t, i < n0 → dst ops i = some t → t < a0.tmps.size)
    (R : Nat → World → World → Prop) (hst : ∀ i j vals v w w', i < n0 → j < n0 → i ≠ j → Φ i vals v w → R j w w' → Φ i vals v w')
    (hcong : ∀ i o vals vals' v w, i < n0 → ops[i]? = some o → (∀ e ∈ o.after, Region.binds .any e = true → vals e.on = vals' e.on) → Φ i vals v w → Φ i vals' v w)
    (hseq : ∀ k, n0 ≤ k → k ≤ ops.size → Region.ready .any ops (upto ops.size k) = if k < ops.size then [k] else [])
    (hlast : ∀ i, n0 ≤ i → ∀ listed : Array Bool, listed.size = ops.size → (∀ j o, ops[j]? = some o → listed.getD j false = true → ∀ e ∈ o.after, Region.binds .any e = true → listed.getD e.on false = true) → i ∈ Region.ready .any ops listed → ∀ j, j < n0 → listed.getD j false = true)
    (hstep : ∀ i o, i < n0 → ops[i]? = some o → ∀ (L : Nat → Prop) (vals : Nat → Value) (w : World), C w →
      (∀ j oj, ops[j]? = some oj → L j → ∀ e ∈ oj.after, Region.binds .any e = true → L e.on) →
      (∀ j, j < n0 → L j → Φ j vals (vals j) w) → (∀ e ∈ o.after, Region.binds .any e = true → L e.on) →
      stepR P o (lit ops vals i a0) w (fun v w' => Φ i vals v w' ∧ C w' ∧ R i w w' ∧ (dst ops i = none → v = undef)))
    (hsuf : ∀ (vals : Nat → Value) (w : World), C w → (∀ i, i < n0 → Φ i vals (vals i) w) →
      wpOps P ops Q (List.range' n0 (ops.size - n0)) (lit ops vals n0 a0) w) :
    ∀ (fuel : Nat) (listed : Array Bool) (a : Act) (w : World), listed.count false ≤ fuel → (∀ j o, ops[j]? = some o → listed.getD j false = true → ∀ e ∈ o.after, Region.binds .any e = true → listed.getD e.on false = true) →
      Inv ops n0 Φ C a0 listed a w → wpAny P .any ops Q fuel listed a w := by
  have fin : ∀ (fuel : Nat) (listed : Array Bool) (a : Act) (w : World), listed.count false ≤ fuel → Inv ops n0 Φ C a0 listed a w → (∀ j, j < n0 → listed.getD j false = true) → wpAny P .any ops Q fuel listed a w := by
    intro fuel listed a w hc hI hall
    have hle := hS.le
    have hl : listed = upto ops.size n0 := by
      apply Array.ext_getElem?
      intro i
      by_cases hi : i < ops.size
      · rw [upto_get _ _ i hle hi]
        have hil : i < listed.size := by rw [hI.size]; exact hi
        by_cases hn : i < n0
        · have := hall i hn
          simp [hil] at this
          simp [hil, hn, this]
        · have := hI.pre i (by omega)
          simp [hil] at this
          simp [hil, hn, this]
      · rw [Array.getElem?_eq_none (by rw [hI.size]; omega), Array.getElem?_eq_none (by rw [upto_size hle]; omega)]
    have ha : lit ops (val ops a) n0 a0 = a := by
      have h1 : (lit ops (val ops a) n0 a0).tmps = a.tmps := by
        apply Array.ext_getElem?
        intro t
        exact inv_lit hS hin hI n0 (Nat.le_refl _) t fun j hj _ => ⟨hj, hall j hj⟩
      have h2 : (lit ops (val ops a) n0 a0).defers = a.defers := by rw [lit_defers, hI.defers]
      cases hx : lit ops (val ops a) n0 a0
      cases a
      rw [hx] at h1 h2
      simp at h1 h2
      simp [h1, h2]
    have hcc : ops.size - n0 ≤ fuel := by
      rw [hl] at hc
      simpa [upto, Array.count_append, Array.count_replicate] using hc
    have hs := hsuf (val ops a) w hI.cls (fun i hi => hI.fact i hi (hall i hi))
    rw [ha] at hs
    rw [hl]
    exact suffix_any hseq fuel n0 a w (Nat.le_refl _) hle hcc hs
  intro fuel
  induction fuel with
  | zero =>
    intro listed a w hc hdown hI
    refine fin 0 listed a w hc hI fun j hj => ?_
    have hle := hS.le
    have hjl : j < listed.size := by rw [hI.size]; omega
    have h0 : ¬ (false ∈ listed) := Array.not_mem_of_count_eq_zero (by omega)
    have : listed[j] ≠ false := fun e => h0 (e ▸ Array.getElem_mem hjl)
    simp [hjl]
    simpa using this
  | succ fuel ih =>
    intro listed a w hc hdown hI
    by_cases hall : ∀ j, j < n0 → listed.getD j false = true
    · exact fin _ listed a w hc hI hall
    · have hex : ∃ j, j < n0 ∧ listed.getD j false = false := by
        refine Classical.byContradiction fun h => hall fun j hj => ?_
        cases hb : listed.getD j false
        · exact absurd ⟨j, hj, hb⟩ h
        · rfl
      refine ⟨fun hr => ?_, fun i hi => ?_⟩
      · exfalso
        obtain ⟨j, hj, hjf, hmin⟩ : ∃ j, j < n0 ∧ listed.getD j false = false ∧ ∀ k, k < j → listed.getD k false = true := by
          have key : ∀ n j, j ≤ n → j < n0 → listed.getD j false = false → ∃ j, j < n0 ∧ listed.getD j false = false ∧ ∀ k, k < j → listed.getD k false = true := by
            intro n
            induction n with
            | zero =>
              intro j hj hjn hjf
              exact ⟨j, hjn, hjf, fun k hk => by omega⟩
            | succ n ihn =>
              intro j hj hjn hjf
              by_cases hk : ∀ k, k < j → listed.getD k false = true
              · exact ⟨j, hjn, hjf, hk⟩
              · obtain ⟨k, hkj, hkf⟩ : ∃ k, k < j ∧ listed.getD k false = false := by
                  refine Classical.byContradiction fun h => hk fun k hkj => ?_
                  cases hb : listed.getD k false
                  · exact absurd ⟨k, hkj, hb⟩ h
                  · rfl
                exact ihn k (by omega) (by omega) hkf
          obtain ⟨j, hj, hjf⟩ := hex
          exact key j j (Nat.le_refl _) hj hjf
        have hle := hS.le
        have hjo : j < ops.size := by omega
        have hjl : j < listed.size := by rw [hI.size]; exact hjo
        have hm : j ∈ Region.ready .any ops listed := by
          refine mem_ready.2 ⟨?_, ops[j], by simp [hjo], fun e he hb => hmin e.on (hS.low j _ (by simp [hjo]) e he hb)⟩
          simpa [hjl] using hjf
        rw [hr] at hm
        cases hm
      · have hin0 : i < n0 := by
          rcases Nat.lt_or_ge i n0 with h | h
          · exact h
          · exact absurd (hlast i h listed hI.size hdown hi) hall
        obtain ⟨hun, o, ho, hdeps⟩ := mem_ready.1 hi
        have hio : i < ops.size := (Array.getElem?_eq_some_iff.1 ho).1
        have hil : i < listed.size := by rw [hI.size]; exact hio
        have hif : listed[i] = false := by simpa [hil] using hun
        have hif' : listed.getD i false = false := by simp [hil, hif]
        have hod : o.dst = dst ops i := by simp [dst, ho]
        have hcongr : execOp (lit ops (val ops a) i a0).eval o = execOp a.eval o := by
          refine execOp_congr o (fun cs b => hS.nosel i o cs b hin0 ho) fun x hx => ?_
          cases x with
          | tmp t' =>
            have := inv_lit hS hin hI i (by omega) t' fun j hj hdj => by
              obtain ⟨e, he, hb, hon⟩ := hS.looks i o hin0 ho t' hx j hj hdj
              subst hon
              exact ⟨hS.low i o ho e he hb, hdeps e he hb⟩
            simp only [Act.eval, Array.getD_eq_getD_getElem?, this]
          | _ => rfl
        have hs := hstep i o hin0 ho (fun j => listed.getD j false = true) (val ops a) w hI.cls hdown (fun j hj hl => hI.fact j hj hl) hdeps
        have hw : Region.wanted o (yielded ops a.tmps) = true := by simp [Region.wanted, hS.noguard i o hin0 ho]
        unfold wpOp
        simp only [ho, hw, if_true]
        refine .inl ?_
        have hs' : stepR P o a w (fun v w' => Φ i (val ops a) v w' ∧ C w' ∧ R i w w' ∧ (dst ops i = none → v = undef)) := by
          unfold stepR at hs ⊢
          rw [hcongr] at hs
          exact hs
        refine stepR_wp hs' (fun v w' hφ => ?_)
        obtain ⟨hφ, hC', hR, hun⟩ := hφ
        rw [hod]
        have hcount : (listed.setIfInBounds i true).count false ≤ fuel := by
          have hcs : (listed.setIfInBounds i true).count false = listed.count false - 1 := by
            rw [Array.setIfInBounds, dif_pos hil, Array.count_set hil]
            simp [hif]
          omega
        have hdown' : ∀ j oj, ops[j]? = some oj → (listed.setIfInBounds i true).getD j false = true → ∀ e ∈ oj.after, Region.binds .any e = true → (listed.setIfInBounds i true).getD e.on false = true := by
          intro j oj hoj hlj e he hbe
          rw [getD_set hil] at hlj ⊢
          rcases hlj with rfl | hlj
          · rw [ho] at hoj
            obtain rfl := Option.some.inj hoj
            exact .inr (hdeps e he hbe)
          · exact .inr (hdown j oj hoj hlj e he hbe)
        have hpre' : ∀ j, n0 ≤ j → (listed.setIfInBounds i true).getD j false = false := by
          intro j hj
          have hne : i ≠ j := by omega
          rw [getD_set_ne false hne]; exact hI.pre j hj
        cases hd : dst ops i with
        | none =>
          have hput : a.put none v = a := rfl
          rw [hput]
          refine ih _ _ _ hcount hdown' ⟨by simp [hI.size], hC', hI.defers, hI.tsize, ?_, ?_, hpre'⟩
          · intro u hu
            exact hI.rest u fun j hj => hu j ((getD_set hil).2 (.inr hj))
          · intro j hj hlj
            by_cases hji : j = i
            · subst hji
              have hv : val ops a j = undef := by
                unfold val
                unfold dst at hd
                rw [hd]
              rw [hv, ← hun hd]
              exact hφ
            · exact hst j i _ _ w w' hj hin0 hji (hI.fact j hj (((getD_set hil).1 hlj).resolve_left hji)) hR
        | some t =>
          have ht := hin i t hin0 hd
          have hta : t < a.tmps.size := by rw [hI.tsize]; exact ht
          have hother : ∀ j, j < n0 → j ≠ i → dst ops j ≠ some t := fun j hj hne e => hne (hS.dist j i t hj hin0 e hd)
          rw [← hd]
          have hsame : ∀ j oj, j < n0 → ops[j]? = some oj → (j = i ∨ listed.getD j false = true) → ∀ e ∈ oj.after, Region.binds .any e = true → val ops a e.on = val ops (a.put (dst ops i) v) e.on := by
            intro j oj hj hoj hlj e he hbe
            have hle' : listed.getD e.on false = true := by
              rcases hlj with rfl | hlj
              · rw [ho] at hoj
                obtain rfl := Option.some.inj hoj
                exact hdeps e he hbe
              · exact hdown j oj hoj hlj e he hbe
            have hne : e.on ≠ i := fun h => by rw [h, hif'] at hle'; cases hle'
            rw [val_put_other hd (hother e.on (by have := hS.low j oj hoj e he hbe; omega) hne)]
          refine ih _ _ _ hcount hdown' ⟨by simp [hI.size], hC', ?_, ?_, ?_, ?_, hpre'⟩
          · rw [hd]; exact hI.defers
          · rw [hd]; simp [Act.put, hI.tsize]
          · intro u hu
            have hui : dst ops i ≠ some u := hu i ((getD_set hil).2 (.inl rfl))
            have hne : t ≠ u := fun e => hui (by rw [hd, e])
            rw [hd]
            simp only [Act.put, Array.getElem?_setIfInBounds_ne hne]
            exact hI.rest u fun j hj => hu j ((getD_set hil).2 (.inr hj))
          · intro j hj hlj
            have hjo : j < ops.size := by have := hS.le; omega
            have hoj : ops[j]? = some ops[j] := by simp [hjo]
            refine hcong j _ (val ops a) _ _ _ hj hoj (hsame j _ hj hoj ((getD_set hil).1 hlj)) ?_
            by_cases hji : j = i
            · subst hji; rw [val_put_same hd hta]; exact hφ
            · rw [val_put_other hd (hother j hj hji)]
              exact hst j i _ _ w w' hj hin0 hji (hI.fact j hj (((getD_set hil).1 hlj).resolve_left hji)) hR
end

end Go.LaxS
