/-
  The law of YgcoaaGreatLaxS, with guarded operations: whether each is wanted is known ahead.
-/
import Derived.Test.YgcoaaGreatLaxG
set_option linter.unusedVariables false
set_option linter.unusedSimpArgs false
namespace Go.LaxQ
open Go.RowKit Go.Mix Go.Lax
open Go.Proofs.YgcoaaGreat.NatW (Later Ret)
open Go.LaxS (isStore store_skip stepR stepR_wp)

structure ShapeQ (ops : Array Oper) (n0 : Nat) : Prop where
  le : n0 ≤ ops.size
  low : ∀ (i : Nat) (o : Oper), ops[i]? = some o → ∀ e ∈ o.after, Region.binds .any e = true → e.on < i
  guards : ∀ (i : Nat) (o : Oper), i < n0 → ops[i]? = some o → ∀ g b, o.guard = some (g, b) → g < n0 ∧ ∃ e ∈ o.after, Region.binds .any e = true ∧ e.on = g
  nosel : ∀ (i : Nat) (o : Oper) cs b, i < n0 → ops[i]? = some o → o.op ≠ .select cs b
  dist : ∀ (i j : Nat) (t : Tmp), i < n0 → j < n0 → dst ops i = some t → dst ops j = some t → i = j
  looks : ∀ (i : Nat) (o : Oper), i < n0 → ops[i]? = some o → ∀ t, Operand.tmp t ∈ o.op.operands → ∀ j, j < n0 → dst ops j = some t → ∃ e ∈ o.after, Region.binds .any e = true ∧ e.on = j

/-- The region's shape. -/
def shapeQB (ops : Array Oper) (n0 f : Nat) : Bool :=
  decide (n0 ≤ ops.size) &&
  (List.range ops.size).all (fun i => match ops[i]? with
    | none => false
    | some o => o.after.all (fun e => !Region.binds .any e || decide (e.on < i)) &&
      (if i < n0 then (match o.guard with | none => true | some (g, _) => decide (g < n0) && depOn o g) && (match o.op with | .select .. => false | _ => true) &&
          o.op.operands.all (fun x => match x with | .tmp t => (List.range n0).all (fun j => dst ops j != some t || depOn o j) | _ => true) &&
          (List.range n0).all (fun j => i == j || dst ops i == none || dst ops j != dst ops i)
        else (List.range n0).all (fun j => reachB ops f i j))) &&
  (List.range (ops.size + 1)).all (fun k => decide (k < n0) || Region.ready .any ops (upto ops.size k) == (if k < ops.size then [k] else []))

theorem shape_ofQ {ops : Array Oper} {n0 f : Nat} (h : shapeQB ops n0 f = true) : ShapeQ ops n0 ∧
    (∀ k, n0 ≤ k → k ≤ ops.size → Region.ready .any ops (upto ops.size k) = if k < ops.size then [k] else []) ∧
    (∀ i, n0 ≤ i → ∀ listed : Array Bool, listed.size = ops.size → (∀ j o, ops[j]? = some o → listed.getD j false = true → ∀ e ∈ o.after, Region.binds .any e = true → listed.getD e.on false = true) → i ∈ Region.ready .any ops listed → ∀ j, j < n0 → listed.getD j false = true) := by
  simp only [shapeQB, Bool.and_eq_true, decide_eq_true_eq, List.all_eq_true, List.mem_range] at h
  obtain ⟨⟨hle, hops⟩, hseq⟩ := h
  have at_ : ∀ i o, ops[i]? = some o → _ := fun i o ho => by
    have := hops i (Array.getElem?_eq_some_iff.1 ho).1
    rw [ho] at this
    exact this
  refine ⟨⟨hle, ?_, ?_, ?_, ?_, ?_⟩, ?_, ?_⟩
  · intro i o ho e he hb
    have := (at_ i o ho)
    simp only [Bool.and_eq_true, Array.all_eq_true_iff_forall_mem] at this
    have := this.1 e he
    simpa [hb] using this
  · intro i o hi ho g b hgb
    have := (at_ i o ho)
    simp only [if_pos hi, Bool.and_eq_true, hgb, decide_eq_true_eq] at this
    exact ⟨this.2.1.1.1.1, depOn_spec.1 this.2.1.1.1.2⟩
  · intro i o cs b hi ho hsel
    have := (at_ i o ho)
    simp only [if_pos hi, Bool.and_eq_true, hsel] at this
    simp at this
  · intro i j t hi hj hdi hdj
    have ho : ops[i]? = some (ops[i]'(by omega)) := by simp
    have := (at_ i _ ho)
    simp only [if_pos hi, Bool.and_eq_true, List.all_eq_true, List.mem_range] at this
    have := this.2.2 j hj
    rw [hdi, hdj] at this
    simpa using this
  · intro i o hi ho t hx j hj hdj
    have := (at_ i o ho)
    simp only [if_pos hi, Bool.and_eq_true, Array.all_eq_true_iff_forall_mem] at this
    have := this.2.1.2 _ hx
    simp only [List.all_eq_true, List.mem_range] at this
    have := this j hj
    rw [hdj] at this
    simp only [bne_self_eq_false, Bool.false_or] at this
    exact depOn_spec.1 this
  · intro k h1 h2
    have := hseq k (by omega)
    simp only [Bool.or_eq_true, decide_eq_true_eq, beq_iff_eq] at this
    exact this.resolve_left (by omega)
  · intro i hi listed hsz hdown hready j hj
    obtain ⟨_, o, ho, hdeps⟩ := mem_ready.1 hready
    have := (at_ i o ho)
    simp only [if_neg (Nat.not_lt.2 hi), Bool.and_eq_true, List.all_eq_true, List.mem_range] at this
    exact reachB_spec hdown f i j o ho hdeps (this.2 j hj)

section
variable {P : Program} {ops : Array Oper} {n0 : Nat} {Φ : Nat → (Nat → Value) → Value → World → Prop} {a0 : Act} {C : World → Prop} {Q : Exit → Act → World → Prop}

/-- What is known while the operations below n0 come up. -/
structure Inv (ops : Array Oper) (n0 : Nat) (Φ : Nat → (Nat → Value) → Value → World → Prop) (C : World → Prop) (a0 : Act) (listed : Array Bool) (a : Act) (w : World) : Prop where
  size : listed.size = ops.size
  cls : C w
  defers : a.defers = a0.defers
  tsize : a.tmps.size = a0.tmps.size
  rest : ∀ t, (∀ i, listed.getD i false = true → dst ops i ≠ some t) → a.tmps[t]? = a0.tmps[t]?
  fact : ∀ i, i < n0 → listed.getD i false = true → Φ i (val ops a) (val ops a i) w
  pre : ∀ i, n0 ≤ i → listed.getD i false = false

theorem inv_lit (hS : ShapeQ ops n0) (hin : ∀ i t, i < n0 → dst ops i = some t → t < a0.tmps.size) {listed : Array Bool} {a : Act} {w : World} (hI : Inv ops n0 Φ C a0 listed a w)
    (k : Nat) (hk : k ≤ n0) (t : Tmp) (hlist : ∀ j, j < n0 → dst ops j = some t → j < k ∧ listed.getD j false = true) : (lit ops (val ops a) k a0).tmps[t]? = a.tmps[t]? := by
  by_cases h : ∃ j, j < n0 ∧ dst ops j = some t
  · obtain ⟨j, hj, hd⟩ := h
    obtain ⟨hjk, hl⟩ := hlist j hj hd
    have ht := hin j t hj hd
    rw [lit_hit ops _ a0 t ht j hd k hjk (fun i hi hdi => hS.dist i j t (by omega) hj hdi hd)]
    have hta : t < a.tmps.size := by rw [hI.tsize]; exact ht
    unfold val
    unfold dst at hd
    rw [hd]
    simp [hta]
  · have h' : ∀ j, j < n0 → dst ops j ≠ some t := fun j hj hd => h ⟨j, hj, hd⟩
    rw [lit_miss ops _ a0 t k (fun j hj => h' j (by omega))]
    refine (hI.rest t fun i hi => ?_).symm
    by_cases hin0 : i < n0
    · exact h' i hin0
    · have := hI.pre i (by omega)
      rw [this] at hi
      cases hi

theorem prefix_any (hS : ShapeQ ops n0) (hin : ∀ i t, i < n0 → dst ops i = some t → t < a0.tmps.size)
    (R : Nat → World → World → Prop) (hst : ∀ i j vals v w w', i < n0 → j < n0 → i ≠ j → Φ i vals v w → R j w w' → Φ i vals v w')
    (hcong : ∀ i o vals vals' v w, i < n0 → ops[i]? = some o → (∀ e ∈ o.after, Region.binds .any e = true → vals e.on = vals' e.on) → Φ i vals v w → Φ i vals' v w)
    (hseq : ∀ k, n0 ≤ k → k ≤ ops.size → Region.ready .any ops (upto ops.size k) = if k < ops.size then [k] else [])
    (hlast : ∀ i, n0 ≤ i → ∀ listed : Array Bool, listed.size = ops.size → (∀ j o, ops[j]? = some o → listed.getD j false = true → ∀ e ∈ o.after, Region.binds .any e = true → listed.getD e.on false = true) → i ∈ Region.ready .any ops listed → ∀ j, j < n0 → listed.getD j false = true)
    (hstep : ∀ i o, i < n0 → ops[i]? = some o → ∀ (L : Nat → Prop) (vals : Nat → Value) (w : World), C w →
      (∀ j oj, ops[j]? = some oj → L j → ∀ e ∈ oj.after, Region.binds .any e = true → L e.on) →
      (∀ j, j < n0 → L j → Φ j vals (vals j) w) → (∀ e ∈ o.after, Region.binds .any e = true → L e.on) →
      (Region.wanted o (yielded ops (lit ops vals i a0).tmps) = true ∧ stepR P o (lit ops vals i a0) w (fun v w' => Φ i vals v w' ∧ C w' ∧ R i w w' ∧ (dst ops i = none → v = undef))) ∨
      (Region.wanted o (yielded ops (lit ops vals i a0).tmps) = false ∧ Φ i vals undef w))
    (hsuf : ∀ (vals : Nat → Value) (w : World), C w → (∀ i, i < n0 → Φ i vals (vals i) w) →
      wpOps P ops Q (List.range' n0 (ops.size - n0)) (lit ops vals n0 a0) w) :
    ∀ (fuel : Nat) (listed : Array Bool) (a : Act) (w : World), listed.count false ≤ fuel → (∀ j o, ops[j]? = some o → listed.getD j false = true → ∀ e ∈ o.after, Region.binds .any e = true → listed.getD e.on false = true) →
      Inv ops n0 Φ C a0 listed a w → wpAny P .any ops Q fuel listed a w := by
  have fin : ∀ (fuel : Nat) (listed : Array Bool) (a : Act) (w : World), listed.count false ≤ fuel → Inv ops n0 Φ C a0 listed a w → (∀ j, j < n0 → listed.getD j false = true) → wpAny P .any ops Q fuel listed a w := by
    intro fuel listed a w hc hI hall
    have hle := hS.le
    have hl : listed = upto ops.size n0 := by
      apply Array.ext_getElem?
      intro i
      by_cases hi : i < ops.size
      · rw [upto_get _ _ i hle hi]
        have hil : i < listed.size := by rw [hI.size]; exact hi
        by_cases hn : i < n0
        · have := hall i hn
          simp [hil] at this
          simp [hil, hn, this]
        · have := hI.pre i (by omega)
          simp [hil] at this
          simp [hil, hn, this]
      · rw [Array.getElem?_eq_none (by rw [hI.size]; omega), Array.getElem?_eq_none (by rw [upto_size hle]; omega)]
    have ha : lit ops (val ops a) n0 a0 = a := by
      have h1 : (lit ops (val ops a) n0 a0).tmps = a.tmps := by
        apply Array.ext_getElem?
        intro t
        exact inv_lit hS hin hI n0 (Nat.le_refl _) t fun j hj _ => ⟨hj, hall j hj⟩
      have h2 : (lit ops (val ops a) n0 a0).defers = a.defers := by rw [lit_defers, hI.defers]
      cases hx : lit ops (val ops a) n0 a0
      cases a
      rw [hx] at h1 h2
      simp at h1 h2
      simp [h1, h2]
    have hcc : ops.size - n0 ≤ fuel := by
      rw [hl] at hc
      simpa [upto, Array.count_append, Array.count_replicate] using hc
    have hs := hsuf (val ops a) w hI.cls (fun i hi => hI.fact i hi (hall i hi))
    rw [ha] at hs
    rw [hl]
    exact suffix_any hseq fuel n0 a w (Nat.le_refl _) hle hcc hs
  intro fuel
  induction fuel with
  | zero =>
    intro listed a w hc hdown hI
    refine fin 0 listed a w hc hI fun j hj => ?_
    have hle := hS.le
    have hjl : j < listed.size := by rw [hI.size]; omega
    have h0 : ¬ (false ∈ listed) := Array.not_mem_of_count_eq_zero (by omega)
    have : listed[j] ≠ false := fun e => h0 (e ▸ Array.getElem_mem hjl)
    simp [hjl]
    simpa using this
  | succ fuel ih =>
    intro listed a w hc hdown hI
    by_cases hall : ∀ j, j < n0 → listed.getD j false = true
    · exact fin _ listed a w hc hI hall
    · have hex : ∃ j, j < n0 ∧ listed.getD j false = false := by
        refine Classical.byContradiction fun h => hall fun j hj => ?_
        cases hb : listed.getD j false
        · exact absurd ⟨j, hj, hb⟩ h
        · rfl
      refine ⟨fun hr => ?_, fun i hi => ?_⟩
      · exfalso
        obtain ⟨j, hj, hjf, hmin⟩ : ∃ j, j < n0 ∧ listed.getD j false = false ∧ ∀ k, k < j → listed.getD k false = true := by
          have key : ∀ n j, j ≤ n → j < n0 → listed.getD j false = false → ∃ j, j < n0 ∧ listed.getD j false = false ∧ ∀ k, k < j → listed.getD k false = true := by
            intro n
            induction n with
            | zero =>
              intro j hj hjn hjf
              exact ⟨j, hjn, hjf, fun k hk => by omega⟩
            | succ n ihn =>
              intro j hj hjn hjf
              by_cases hk : ∀ k, k < j → listed.getD k false = true
              · exact ⟨j, hjn, hjf, hk⟩
              · obtain ⟨k, hkj, hkf⟩ : ∃ k, k < j ∧ listed.getD k false = false := by
                  refine Classical.byContradiction fun h => hk fun k hkj => ?_
                  cases hb : listed.getD k false
                  · exact absurd ⟨k, hkj, hb⟩ h
                  · rfl
                exact ihn k (by omega) (by omega) hkf
          obtain ⟨j, hj, hjf⟩ := hex
          exact key j j (Nat.le_refl _) hj hjf
        have hle := hS.le
        have hjo : j < ops.size := by omega
        have hjl : j < listed.size := by rw [hI.size]; exact hjo
        have hm : j ∈ Region.ready .any ops listed := by
          refine mem_ready.2 ⟨?_, ops[j], by simp [hjo], fun e he hb => hmin e.on (hS.low j _ (by simp [hjo]) e he hb)⟩
          simpa [hjl] using hjf
        rw [hr] at hm
        cases hm
      · have hin0 : i < n0 := by
          rcases Nat.lt_or_ge i n0 with h | h
          · exact h
          · exact absurd (hlast i h listed hI.size hdown hi) hall
        obtain ⟨hun, o, ho, hdeps⟩ := mem_ready.1 hi
        have hio : i < ops.size := (Array.getElem?_eq_some_iff.1 ho).1
        have hil : i < listed.size := by rw [hI.size]; exact hio
        have hif : listed[i] = false := by simpa [hil] using hun
        have hif' : listed.getD i false = false := by simp [hil, hif]
        have hod : o.dst = dst ops i := by simp [dst, ho]
        have hcongr : execOp (lit ops (val ops a) i a0).eval o = execOp a.eval o := by
          refine execOp_congr o (fun cs b => hS.nosel i o cs b hin0 ho) fun x hx => ?_
          cases x with
          | tmp t' =>
            have := inv_lit hS hin hI i (by omega) t' fun j hj hdj => by
              obtain ⟨e, he, hb, hon⟩ := hS.looks i o hin0 ho t' hx j hj hdj
              subst hon
              exact ⟨hS.low i o ho e he hb, hdeps e he hb⟩
            simp only [Act.eval, Array.getD_eq_getD_getElem?, this]
          | _ => rfl
        have hs := hstep i o hin0 ho (fun j => listed.getD j false = true) (val ops a) w hI.cls hdown (fun j hj hl => hI.fact j hj hl) hdeps
        have hwant : Region.wanted o (yielded ops (lit ops (val ops a) i a0).tmps) = Region.wanted o (yielded ops a.tmps) := by
          unfold Region.wanted
          cases hgd : o.guard with
          | none => rfl
          | some gb =>
            obtain ⟨g, b⟩ := gb
            obtain ⟨hg0, e, he, hbe, hon⟩ := hS.guards i o hin0 ho g b hgd
            simp only
            unfold yielded
            cases hdg : (ops[g]?).bind (·.dst) with
            | none => rfl
            | some t =>
              have hdg' : dst ops g = some t := hdg
              have := inv_lit hS hin hI i (by omega) t fun j hj hdj => by
                have hjg : j = g := hS.dist j g t hj hg0 hdj hdg'
                subst hjg
                subst hon
                exact ⟨hS.low i o ho e he hbe, hdeps e he hbe⟩
              simp only [Option.bind_some, this]
        have hcount : (listed.setIfInBounds i true).count false ≤ fuel := by
          have hcs : (listed.setIfInBounds i true).count false = listed.count false - 1 := by
            rw [Array.setIfInBounds, dif_pos hil, Array.count_set hil]
            simp [hif]
          omega
        have hdown' : ∀ j oj, ops[j]? = some oj → (listed.setIfInBounds i true).getD j false = true → ∀ e ∈ oj.after, Region.binds .any e = true → (listed.setIfInBounds i true).getD e.on false = true := by
          intro j oj hoj hlj e he hbe
          rw [getD_set hil] at hlj ⊢
          rcases hlj with rfl | hlj
          · rw [ho] at hoj
            obtain rfl := Option.some.inj hoj
            exact .inr (hdeps e he hbe)
          · exact .inr (hdown j oj hoj hlj e he hbe)
        have hpre' : ∀ j, n0 ≤ j → (listed.setIfInBounds i true).getD j false = false := by
          intro j hj
          have hne : i ≠ j := by omega
          rw [getD_set_ne false hne]; exact hI.pre j hj
        have key : ∀ v w', Φ i (val ops a) v w' → C w' → (∀ j, j < n0 → j ≠ i → Φ j (val ops a) (val ops a j) w → Φ j (val ops a) (val ops a j) w') → (dst ops i = none → v = undef) → wpAny P .any ops Q fuel (listed.setIfInBounds i true) (a.put (dst ops i) v) w' := by
          intro v w' hφ hC' hkeep hun
          cases hd : dst ops i with
          | none =>
            have hput : a.put none v = a := rfl
            rw [hput]
            refine ih _ _ _ hcount hdown' ⟨by simp [hI.size], hC', hI.defers, hI.tsize, ?_, ?_, hpre'⟩
            · intro u hu
              exact hI.rest u fun j hj => hu j ((getD_set hil).2 (.inr hj))
            · intro j hj hlj
              by_cases hji : j = i
              · subst hji
                have hv : val ops a j = undef := by
                  unfold val
                  unfold dst at hd
                  rw [hd]
                rw [hv, ← hun hd]
                exact hφ
              · exact hkeep j hj hji (hI.fact j hj (((getD_set hil).1 hlj).resolve_left hji))
          | some t =>
            have ht := hin i t hin0 hd
            have hta : t < a.tmps.size := by rw [hI.tsize]; exact ht
            have hother : ∀ j, j < n0 → j ≠ i → dst ops j ≠ some t := fun j hj hne e => hne (hS.dist j i t hj hin0 e hd)
            rw [← hd]
            have hsame : ∀ j oj, j < n0 → ops[j]? = some oj → (j = i ∨ listed.getD j false = true) → ∀ e ∈ oj.after, Region.binds .any e = true → val ops a e.on = val ops (a.put (dst ops i) v) e.on := by
              intro j oj hj hoj hlj e he hbe
              have hle' : listed.getD e.on false = true := by
                rcases hlj with rfl | hlj
                · rw [ho] at hoj
                  obtain rfl := Option.some.inj hoj
                  exact hdeps e he hbe
                · exact hdown j oj hoj hlj e he hbe
              have hne : e.on ≠ i := fun h => by rw [h, hif'] at hle'; cases hle'
              rw [val_put_other hd (hother e.on (by have := hS.low j oj hoj e he hbe; omega) hne)]
            refine ih _ _ _ hcount hdown' ⟨by simp [hI.size], hC', ?_, ?_, ?_, ?_, hpre'⟩
            · rw [hd]; exact hI.defers
            · rw [hd]; simp [Act.put, hI.tsize]
            · intro u hu
              have hui : dst ops i ≠ some u := hu i ((getD_set hil).2 (.inl rfl))
              have hne : t ≠ u := fun e => hui (by rw [hd, e])
              rw [hd]
              simp only [Act.put, Array.getElem?_setIfInBounds_ne hne]
              exact hI.rest u fun j hj => hu j ((getD_set hil).2 (.inr hj))
            · intro j hj hlj
              have hjo : j < ops.size := by have := hS.le; omega
              have hoj : ops[j]? = some ops[j] := by simp [hjo]
              refine hcong j _ (val ops a) _ _ _ hj hoj (hsame j _ hj hoj ((getD_set hil).1 hlj)) ?_
              by_cases hji : j = i
              · subst hji; rw [val_put_same hd hta]; exact hφ
              · rw [val_put_other hd (hother j hj hji)]
                exact hkeep j hj hji (hI.fact j hj (((getD_set hil).1 hlj).resolve_left hji))
        unfold wpOp
        simp only [ho]
        rcases hs with ⟨hw, hs⟩ | ⟨hw, hφ⟩
        · rw [hwant] at hw
          simp only [hw, if_true]
          refine .inl ?_
          have hs' : stepR P o a w (fun v w' => Φ i (val ops a) v w' ∧ C w' ∧ R i w w' ∧ (dst ops i = none → v = undef)) := by
            unfold stepR at hs ⊢
            rw [hcongr] at hs
            exact hs
          refine stepR_wp hs' (fun v w' hφ => ?_)
          obtain ⟨hφ, hC', hR, hun⟩ := hφ
          rw [hod]
          exact key v w' hφ hC' (fun j hj hji hf => hst j i _ _ w w' hj hin0 hji hf hR) hun
        · rw [hwant] at hw
          simp only [hw, Bool.false_eq_true, if_false]
          rw [hod]
          exact key undef w hφ hI.cls (fun _ _ _ hf => hf) (fun _ => rfl)
end

structure Par where
  sk : Nat → Bool
  K : Nat → Bool
  sil : Nat → Bool
  Ψ : Nat → Value → Prop
  Θ : Nat → Value → World → Prop
  I : World → Prop

def Rl (p : Par) (j : Nat) (w w' : World) : Prop := if p.sil j then ∀ i v, i ≠ j → p.Θ i v w → p.Θ i v w' else Below w.heap.size w w'

/-- What a walk of one operation shows. -/
def One (p : Par) (w0 : World) (k : Nat) (a : Act) (o : Oper) (w : World) (e : Exit) (a' : Act) (w' : World) : Prop :=
  e = .normal ∧ ∃ v, a' = a.put o.dst v ∧ p.Ψ k v ∧ p.Θ k v w' ∧ Below w0.heap.size w0 w' ∧ p.I w' ∧ Rl p k w w' ∧ (o.dst = none → v = undef)

/-- THE WALK. -/
def Walk (P : Program) (ops : Array Oper) (Q : Exit → Act → World → Prop) (p : Par) (w0 : World) : Nat → List Oper → Nat → Act → List (Nat × (World → Prop)) → Prop
  | 0, rest, _, a, Γ => ∀ x : Later w0, p.I x.at_ → (∀ q ∈ Γ, q.2 x.at_) → wpList P ops Q rest a x.at_
  | _ + 1, [], _, _, _ => False
  | m + 1, o :: rest, k, a, Γ =>
    (p.sk k = true → Region.wanted o (yielded ops a.tmps) = false ∧ Walk P ops Q p w0 m rest (k + 1) (a.put o.dst undef) Γ) ∧
    (p.sk k = false → Region.wanted o (yielded ops a.tmps) = true) ∧
    (p.sk k = false → p.K k = true → (∀ x : Later w0, p.I x.at_ → (∀ q ∈ Γ, depOn o q.1 = true → q.2 x.at_) → wpList P ops (One p w0 k a o x.at_) [o] a x.at_) ∧ (o.dst = none → isStore o = true) ∧
      ∀ v, p.Ψ k v → (o.dst = none → v = undef) → Walk P ops Q p w0 m rest (k + 1) (a.put o.dst v) ((k, p.Θ k v) :: Γ)) ∧
    (p.sk k = false → p.K k = false → plain o = true ∧ o.dst.isSome = true ∧ o.quiet P a (fun w' => ∃ x : Later w0, w' = x.at_) fun a' => Walk P ops Q p w0 m rest (k + 1) a' Γ)

section
variable {P : Program} {Q : Exit → Act → World → Prop} {p : Par} {a0 : Act} {w0 : World}

theorem walk_skip {ops : Array Oper} {m k : Nat} {o : Oper} {rest : List Oper} {a : Act} {Γ : List (Nat × (World → Prop))} (hs : p.sk k = true) (hw : Region.wanted o (yielded ops a.tmps) = false)
    (h : Walk P ops Q p w0 m rest (k + 1) (a.put o.dst undef) Γ) : Walk P ops Q p w0 (m + 1) (o :: rest) k a Γ :=
  ⟨fun _ => ⟨hw, h⟩, fun h' => (by rw [hs] at h'; cases h'), fun h' => (by rw [hs] at h'; cases h'), fun h' => (by rw [hs] at h'; cases h')⟩

theorem walk_skip_mv {ops : Array Oper} {m k : Nat} {o : Oper} {rest : List Oper} {a : Act} {Γ : List (Nat × (World → Prop))} (hs : p.sk k = true) (hw : Region.wanted o (yielded ops a.tmps) = false)
    (h : wpQuiet P ops (fun _ => True) (fun a__ => Walk P ops Q p w0 m rest (k + 1) a__ Γ) [{ dst := o.dst, op := .move (.const undef), type := 0, pos := "", after := #[], guard := none }] a) : Walk P ops Q p w0 (m + 1) (o :: rest) k a Γ :=
  walk_skip hs hw (Go.Lax.mv_on h)

theorem walk_call {ops : Array Oper} {m k : Nat} {o : Oper} {rest : List Oper} {a : Act} {Γ : List (Nat × (World → Prop))} (hsk : p.sk k = false) (hw : Region.wanted o (yielded ops a.tmps) = true) (hk : p.K k = true) (hs : o.dst = none → isStore o = true)
    (h1 : ∀ x : Later w0, p.I x.at_ → (∀ q ∈ Γ, depOn o q.1 = true → q.2 x.at_) → wpList P ops (One p w0 k a o x.at_) [o] a x.at_)
    (h2 : ∀ v, p.Ψ k v → (o.dst = none → v = undef) → Walk P ops Q p w0 m rest (k + 1) (a.put o.dst v) ((k, p.Θ k v) :: Γ)) : Walk P ops Q p w0 (m + 1) (o :: rest) k a Γ :=
  ⟨fun h => (by rw [hsk] at h; cases h), fun _ => hw, fun _ _ => ⟨h1, hs, h2⟩, fun _ h => (by rw [hk] at h; cases h)⟩

theorem walk_det {ops : Array Oper} {m k : Nat} {o : Oper} {rest : List Oper} {a : Act} {Γ : List (Nat × (World → Prop))} (hsk : p.sk k = false) (hk : p.K k = false) (hp : plain o = true) (hd : o.dst.isSome = true) (hw : Region.wanted o (yielded ops a.tmps) = true)
    (h : wpQuiet P ops (fun w' => ∃ x : Later w0, w' = x.at_) (fun a' => Walk P ops Q p w0 m rest (k + 1) a' Γ) [o] a) : Walk P ops Q p w0 (m + 1) (o :: rest) k a Γ := by
  refine ⟨fun h => (by rw [hsk] at h; cases h), fun _ => hw, fun _ h => (by rw [hk] at h; cases h), fun _ _ => ⟨hp, hd, ?_⟩⟩
  simp only [wpQuiet, hw, if_true] at h
  exact h

def Gam (p : Par) (vals : Nat → Value) : Nat → List (Nat × (World → Prop))
  | 0 => []
  | k + 1 => if !p.sk k && p.K k then (k, p.Θ k (vals k)) :: Gam p vals k else Gam p vals k

theorem mem_Gam {vals : Nat → Value} {q : Nat × (World → Prop)} : ∀ {k}, q ∈ Gam p vals k → ∃ j, j < k ∧ (p.sk j = false ∧ p.K j = true) ∧ q = (j, p.Θ j (vals j))
  | 0, h => by cases h
  | k + 1, h => by
    simp only [Gam] at h
    split at h
    · rename_i hk
      rcases List.mem_cons.1 h with h | h
      · exact ⟨k, by omega, by simpa using hk, h⟩
      · obtain ⟨j, hj, e⟩ := mem_Gam h
        exact ⟨j, by omega, e⟩
    · obtain ⟨j, hj, e⟩ := mem_Gam h
      exact ⟨j, by omega, e⟩

def PhiAt (P : Program) (ops : Array Oper) (a0 : Act) (w0 : World) (p : Par) (i : Nat) (vals : Nat → Value) (v : Value) (w : World) : Prop :=
  (p.sk i = true → v = undef) ∧ (p.sk i = false → (p.K i = true → p.Ψ i v ∧ p.Θ i v w ∧ (dst ops i = none → v = undef)) ∧ (p.K i = false → Dt P ops a0 w0 i vals v))

theorem exec_same {ops : Array Oper} {n0 : Nat} (hS : ShapeQ ops n0) (hin : ∀ i t, i < n0 → dst ops i = some t → t < a0.tmps.size) {i : Nat} {o : Oper} (hi : i < n0) (ho : ops[i]? = some o) {vals vals' : Nat → Value}
    (h : ∀ e ∈ o.after, Region.binds .any e = true → vals e.on = vals' e.on) : execOp (lit ops vals i a0).eval o = execOp (lit ops vals' i a0).eval o := by
  refine execOp_congr o (fun cs b => hS.nosel i o cs b hi ho) fun x hx => ?_
  cases x with
  | tmp t' =>
    have : (lit ops vals i a0).tmps[t']? = (lit ops vals' i a0).tmps[t']? := by
      by_cases hex : ∃ j, j < n0 ∧ dst ops j = some t'
      · obtain ⟨j, hj, hdj⟩ := hex
        obtain ⟨e, he, hb, hon⟩ := hS.looks i o hi ho t' hx j hj hdj
        subst hon
        have hji := hS.low i o ho e he hb
        have htj := hin e.on t' hj hdj
        rw [lit_hit ops vals a0 t' htj e.on hdj i hji (fun k hk hdk => hS.dist k e.on t' (by omega) hj hdk hdj), lit_hit ops vals' a0 t' htj e.on hdj i hji (fun k hk hdk => hS.dist k e.on t' (by omega) hj hdk hdj)]
        rw [h e he hb]
      · have hno : ∀ j, j < i → dst ops j ≠ some t' := fun j hj hdj => hex ⟨j, by omega, hdj⟩
        rw [lit_miss ops vals a0 t' i hno, lit_miss ops vals' a0 t' i hno]
    simp only [Act.eval, Array.getD_eq_getD_getElem?, this]
  | _ => rfl

theorem wanted_same {ops : Array Oper} {n0 : Nat} (hS : ShapeQ ops n0) (hin : ∀ i t, i < n0 → dst ops i = some t → t < a0.tmps.size) {i : Nat} {o : Oper} (hi : i < n0) (ho : ops[i]? = some o) {vals vals' : Nat → Value}
    (h : ∀ e ∈ o.after, Region.binds .any e = true → vals e.on = vals' e.on) : Region.wanted o (yielded ops (lit ops vals i a0).tmps) = Region.wanted o (yielded ops (lit ops vals' i a0).tmps) := by
  unfold Region.wanted
  cases hgd : o.guard with
  | none => rfl
  | some gb =>
    obtain ⟨g, b⟩ := gb
    obtain ⟨hg0, e, he, hbe, hon⟩ := hS.guards i o hi ho g b hgd
    simp only
    unfold yielded
    cases hdg : (ops[g]?).bind (·.dst) with
    | none => rfl
    | some t =>
      have hdg' : dst ops g = some t := hdg
      subst hon
      have hji := hS.low i o ho e he hbe
      have htj := hin e.on t hg0 hdg'
      have := lit_hit ops vals a0 t htj e.on hdg' i hji (fun k hk hdk => hS.dist k e.on t (by omega) hg0 hdk hdg')
      have h2 := lit_hit ops vals' a0 t htj e.on hdg' i hji (fun k hk hdk => hS.dist k e.on t (by omega) hg0 hdk hdg')
      simp only [Option.bind_some, this, h2, h e he hbe]

/-- The walk at values that stand for the listed operations, others being made up. -/
theorem fill {l : List Oper} {n0 : Nat} (hS : ShapeQ l.toArray n0) (hin : ∀ i t, i < n0 → dst l.toArray i = some t → t < a0.tmps.size)
    (hex : ∀ k, k < n0 → p.K k = true → ∃ v, p.Ψ k v ∧ (dst l.toArray k = none → v = undef)) (h : Walk P l.toArray Q p w0 n0 l 0 a0 [])
    (L : Nat → Prop) (hL : ∀ j oj, l.toArray[j]? = some oj → L j → ∀ e ∈ oj.after, Region.binds .any e = true → L e.on) (vals : Nat → Value) (w : World) (hf : ∀ j, j < n0 → L j → PhiAt P l.toArray a0 w0 p j vals (vals j) w) :
    ∀ k, k ≤ n0 → ∃ vals' : Nat → Value, (∀ j, j < k → L j → vals' j = vals j) ∧ Walk P l.toArray Q p w0 (n0 - k) (l.drop k) k (lit l.toArray vals' k a0) (Gam p vals' k)
  | 0, _ => ⟨vals, fun _ _ _ => rfl, by simpa [lit, Gam] using h⟩
  | k + 1, hk => by
    obtain ⟨V, hV, ih⟩ := fill hS hin hex h L hL vals w hf k (by omega)
    have hle : n0 ≤ l.length := by simpa using hS.le
    have e1 : n0 - k = (n0 - (k + 1)) + 1 := by omega
    have hkl : k < l.length := by omega
    rw [e1, List.drop_eq_getElem_cons hkl] at ih
    have hok : l.toArray[k]? = some l[k] := by simp [hkl]
    have hdk : dst l.toArray k = l[k].dst := by simp [dst, hkl]
    have hgo : ∀ v, (L k → v = vals k) → Walk P l.toArray Q p w0 (n0 - (k + 1)) (l.drop (k + 1)) (k + 1) ((lit l.toArray V k a0).put l[k].dst v) (if !p.sk k && p.K k then (k, p.Θ k v) :: Gam p V k else Gam p V k) →
        ∃ vals' : Nat → Value, (∀ j, j < k + 1 → L j → vals' j = vals j) ∧ Walk P l.toArray Q p w0 (n0 - (k + 1)) (l.drop (k + 1)) (k + 1) (lit l.toArray vals' (k + 1) a0) (Gam p vals' (k + 1)) := by
      intro v hv hw
      have hlow : ∀ j, j < k → V j = (fun j => if j = k then v else V j) j := fun j hj => by simp; omega
      refine ⟨fun j => if j = k then v else V j, ?_, ?_⟩
      · intro j hj hLj
        by_cases hjk : j = k
        · subst hjk; simpa using hv hLj
        · simp only [hjk, if_false]; exact hV j (by omega) hLj
      · have g1 : ∀ m, m ≤ k → Gam p (fun j => if j = k then v else V j) m = Gam p V m := by
          intro m
          induction m with
          | zero => intro _; rfl
          | succ m ihm => intro hm; simp only [Gam]; rw [ihm (by omega), if_neg (show ¬ m = k by omega)]
        simp only [lit, Gam, hok, Option.bind_some, if_true]
        rw [g1 k (Nat.le_refl _), ← lit_congr l.toArray V _ a0 k hlow]
        exact hw
    cases hsk : p.sk k with
    | true =>
      have hw := (ih.1 hsk).2
      refine hgo undef (fun hLk => ((hf k (by omega) hLk).1 hsk).symm) ?_
      simpa [hsk] using hw
    | false =>
    cases hKk : p.K k with
    | true =>
      have hw := (ih.2.2.1 hsk hKk).2.2
      by_cases hLk : L k
      · have hΨ := ((hf k (by omega) hLk).2 hsk).1 hKk
        refine hgo (vals k) (fun _ => rfl) ?_
        simpa [hKk, hsk] using hw (vals k) hΨ.1 (fun hn => hΨ.2.2 (by rw [hdk]; exact hn))
      · obtain ⟨v, hv, hvu⟩ := hex k (by omega) hKk
        refine hgo v (fun h => absurd h hLk) ?_
        simpa [hKk, hsk] using hw v hv (fun hn => hvu (by rw [hdk]; exact hn))
    | false =>
      obtain ⟨hp, _, v, hq, hn⟩ := ih.2.2.2 hsk hKk
      refine hgo v (fun hLk => ?_) (by simpa [hKk, hsk] using hn)
      have hD := ((hf k (by omega) hLk).2 hsk).2 hKk l[k] hok w0 (Below.refl _ _)
      have hsame : execOp (lit l.toArray V k a0).eval l[k] = execOp (lit l.toArray vals k a0).eval l[k] :=
        exec_same hS hin (by omega) hok fun e he hbe => hV e.on (hS.low k _ hok e he hbe) (hL k _ hok hLk e he hbe)
      have hD' := det_of_quiet (w := w0) hp (Below.refl _ _) hq
      rw [hsame] at hD'
      rcases hD with h1 | ⟨h1, h1'⟩ <;> rcases hD' with h2 | ⟨h2, h2'⟩
      · rw [h1] at h2; simpa using h2.symm
      · rw [h1] at h2; simp at h2
      · rw [h1] at h2; simp at h2
      · rw [h1', h2']

theorem stepR_of_wp {ops : Array Oper} {o : Oper} {a : Act} {w : World} {k : Nat} (hg : Region.wanted o (yielded ops a.tmps) = true) (hd : ∀ t, o.dst = some t → t < a.tmps.size) (hs : o.dst = none → isStore o = true)
    (h : wpList P ops (One p w0 k a o w) [o] a w) : stepR P o a w (fun v w' => p.Ψ k v ∧ p.Θ k v w' ∧ Below w0.heap.size w0 w' ∧ p.I w' ∧ Rl p k w w' ∧ (o.dst = none → v = undef)) := by
  simp only [wpList, hg, if_true] at h
  rcases h with h | ⟨_, a1, w1, h1, _⟩
  · unfold stepR
    unfold Oper.wp at h
    have hst : o.dst = none → ∀ n w', (execOp a.eval o).run P w = .ok n w' → n = .skip := fun hn n w' hr => store_skip (hs hn) hr
    generalize (execOp a.eval o).run P w = r at *
    have key : ∀ v w', (o.dst = none → v = undef) → One p w0 k a o w .normal (a.put o.dst v) w' → p.Ψ k v ∧ p.Θ k v w' ∧ Below w0.heap.size w0 w' ∧ p.I w' ∧ Rl p k w w' ∧ (o.dst = none → v = undef) := by
      rintro v w' hv ⟨_, v', e, h1⟩
      have : v = v' := by
        cases hdo : o.dst with
        | none => rw [hv hdo, h1.2.2.2.2.2 hdo]
        | some t => rw [hdo] at e; exact put_inj (hd t hdo) e
      rw [this]
      exact h1
    cases r with
    | ok n w' =>
      have hn := fun hd' => hst hd' n w' rfl
      cases n <;> simp only [Oper.upon] at h ⊢
      case value u => exact key _ _ (fun hd' => by have := hn hd'; cases this) h
      case skip =>
        have := key _ _ (fun _ => rfl) h
        simpa using this
      case defer d =>
        obtain ⟨_, v', e, _⟩ := h
        have := congrArg (fun b : Act => b.defers.length) e
        cases hdo : o.dst <;> rw [hdo] at this <;> simp [Act.put] at this
      case enter f args =>
        refine h.mono fun e w'' he => ?_
        cases e with
        | returned v => exact ⟨v, rfl, key _ _ (fun hd' => by have := hn hd'; cases this) he⟩
        | panicked c => exact absurd he.1 (by simp)
        | outgrown => obtain ⟨_, _, h1, _⟩ := he; exact absurd h1 (by simp)
      case row row args => exact h.mono fun v w'' he => key _ _ (fun hd' => by have := hn hd'; cases this) he
    | halt x w' => cases x <;> simp only [Oper.upon] at h <;> first | exact absurd h.1 (by simp) | exact h.elim
  · exact absurd h1 (by simp)

theorem stepR_mono {o : Oper} {a : Act} {w : World} {φ φ' : Value → World → Prop} (h : stepR P o a w φ) (hi : ∀ v w', φ v w' → φ' v w') : stepR P o a w φ' := by
  unfold stepR at h ⊢
  generalize (execOp a.eval o).run P w = r at *
  cases r with
  | ok n w' =>
    cases n <;> simp only at h ⊢
    case value u => exact hi _ _ h
    case skip => exact hi _ _ h
    case enter f args => exact h.mono fun e w'' ⟨v, he, h1⟩ => ⟨v, he, hi _ _ h1⟩
    case row row args => exact h.mono fun v w'' hh => hi _ _ hh
  | halt x w' => simp at h

/-- THE LAW. -/
theorem wp_region_laxQ {id : Nat} {l : List Oper} (x : Later w0) (n0 f : Nat) (p : Par) (hm : P.follows .mixedOrders = true) (hB : shapeQB l.toArray n0 f = true)
    (hin : ((List.range n0).all fun i => match dst l.toArray i with | some t => decide (t < a0.tmps.size) | none => true) = true) (hI0 : p.I x.at_)
    (hI : ∀ w w', p.I w → Below w.heap.size w w' → p.I w') (hIt : ∀ w, p.I w → p.I { w with drawn := w.drawn + 1 })
    (hst : ∀ i v w w', p.Θ i v w → Below w.heap.size w w' → p.Θ i v w') (hex : ∀ k, k < n0 → p.K k = true → ∃ v, p.Ψ k v ∧ (dst l.toArray k = none → v = undef))
    (h : Walk P l.toArray Q p w0 n0 l 0 a0 []) : (Code.region id l.toArray true).wp P Q a0 x.at_ := by
  obtain ⟨hS, hseq, hlast⟩ := shape_ofQ hB
  have hle : n0 ≤ l.length := by simpa using hS.le
  have hin' : ∀ i t, i < n0 → dst l.toArray i = some t → t < a0.tmps.size := by
    intro i t hi hd
    have := (List.all_eq_true.1 hin) i (List.mem_range.2 hi)
    rw [hd] at this
    simpa using this
  refine wp_region_any hm ?_
  refine prefix_any (Φ := PhiAt P l.toArray a0 w0 p) (C := fun w => Below w0.heap.size w0 w ∧ p.I w) (n0 := n0) hS hin' (fun j w w' => p.K j = false ∧ w = w' ∨ p.K j = true ∧ Rl p j w w') ?_ ?_ hseq hlast ?_ ?_ _ _ a0 _ (by simp) ?_ ?_
  · intro i j vals v w1 w2 hi hj hne hφ hR
    refine ⟨hφ.1, fun hsk => ⟨fun hK => ⟨((hφ.2 hsk).1 hK).1, ?_, ((hφ.2 hsk).1 hK).2.2⟩, (hφ.2 hsk).2⟩⟩
    rcases hR with ⟨_, rfl⟩ | ⟨_, hR⟩
    · exact ((hφ.2 hsk).1 hK).2.1
    · unfold Rl at hR
      split at hR
      · exact hR i v hne ((hφ.2 hsk).1 hK).2.1
      · exact hst i v w1 w2 ((hφ.2 hsk).1 hK).2.1 hR
  · intro i o vals vals' v w1 hi ho heq hφ
    refine ⟨hφ.1, fun hsk => ⟨(hφ.2 hsk).1, fun hK o' ho' w2 hb => ?_⟩⟩
    obtain rfl : o = o' := by rw [ho] at ho'; exact Option.some.inj ho'
    rw [← exec_same hS hin' hi ho heq]
    exact (hφ.2 hsk).2 hK o ho w2 hb
  · intro i o hi ho L vals w1 hC hL hf hdeps
    obtain ⟨V, hV, hw⟩ := fill hS hin' hex h L hL vals w1 hf i (by omega)
    have hil : i < l.length := by omega
    have e1 : n0 - i = (n0 - (i + 1)) + 1 := by omega
    rw [e1, List.drop_eq_getElem_cons hil] at hw
    have hoi : l[i] = o := by simpa [hil] using ho
    rw [hoi] at hw
    have hod : o.dst = dst l.toArray i := by simp [dst, hoi, hil]
    have hag : ∀ e ∈ o.after, Region.binds .any e = true → V e.on = vals e.on := fun e he hbe => hV e.on (hS.low i o ho e he hbe) (hdeps e he hbe)
    have hsame : execOp (lit l.toArray V i a0).eval o = execOp (lit l.toArray vals i a0).eval o := exec_same hS hin' hi ho hag
    have hwsame := wanted_same (a0 := a0) hS hin' hi ho hag
    cases hsk : p.sk i with
    | true =>
      refine .inr ⟨?_, fun _ => rfl, fun h => (by rw [hsk] at h; cases h)⟩
      rw [← hwsame]
      exact (hw.1 hsk).1
    | false =>
    have hwt := hw.2.1 hsk
    refine .inl ⟨by rw [← hwsame]; exact hwt, ?_⟩
    cases hKi : p.K i with
    | true =>
      have h1 := (hw.2.2.1 hsk hKi).1 ⟨w1, hC.1⟩ hC.2 fun q hq hdep => by
        obtain ⟨j, hj, hKj, rfl⟩ := mem_Gam hq
        obtain ⟨e, he, hbe, hon⟩ := depOn_spec.1 hdep
        have hLj := hdeps e he hbe
        rw [hon] at hLj
        have := (((hf j (by omega) hLj).2 hKj.1).1 hKj.2).2.1
        simp only
        rw [hV j hj hLj]
        exact this
      have h2 := stepR_of_wp (ops := l.toArray) hwt (fun t ht => by rw [lit_size]; exact hin' i t hi (by rw [← hod]; exact ht)) (hw.2.2.1 hsk hKi).2.1 h1
      have h3 : stepR P o (lit l.toArray vals i a0) w1 (fun v w' => p.Ψ i v ∧ p.Θ i v w' ∧ Below w0.heap.size w0 w' ∧ p.I w' ∧ Rl p i w1 w' ∧ (o.dst = none → v = undef)) := by
        unfold stepR at h2 ⊢
        rw [hsame] at h2
        exact h2
      have key : ∀ v w', (p.Ψ i v ∧ p.Θ i v w' ∧ Below w0.heap.size w0 w' ∧ p.I w' ∧ Rl p i w1 w' ∧ (o.dst = none → v = undef)) → PhiAt P l.toArray a0 w0 p i vals v w' ∧ (Below w0.heap.size w0 w' ∧ p.I w') ∧ (true = false ∧ w1 = w' ∨ true = true ∧ Rl p i w1 w') ∧ (dst l.toArray i = none → v = undef) :=
        fun v w' h => ⟨⟨fun h' => (by rw [hsk] at h'; cases h'), fun _ => ⟨fun _ => ⟨h.1, h.2.1, fun hn => h.2.2.2.2.2 (by rw [hod]; exact hn)⟩, fun h => (by rw [hKi] at h; cases h)⟩⟩, ⟨h.2.2.1, h.2.2.2.1⟩, .inr ⟨rfl, h.2.2.2.2.1⟩, fun hn => h.2.2.2.2.2 (by rw [hod]; exact hn)⟩
      exact stepR_mono h3 key
    | false =>
      obtain ⟨hp, hds, v, hq, _⟩ := hw.2.2.2 hsk hKi
      have hD : Dt P l.toArray a0 w0 i vals v := by
        intro o' ho' w2 hb2
        obtain rfl : o = o' := by rw [ho] at ho'; exact Option.some.inj ho'
        rw [← hsame]
        exact det_of_quiet hp hb2 hq
      have hφ : PhiAt P l.toArray a0 w0 p i vals v w1 := ⟨fun h' => (by rw [hsk] at h'; cases h'), fun _ => ⟨fun h => (by rw [hKi] at h; cases h), fun _ => hD⟩⟩
      have hnn : dst l.toArray i = none → v = undef := fun hn => by rw [← hod] at hn; rw [hn] at hds; cases hds
      unfold stepR
      rcases hD o ho w1 hC.1 with h1 | ⟨h1, h1'⟩
      · rw [h1]; exact ⟨hφ, hC, .inl ⟨rfl, rfl⟩, hnn⟩
      · rw [h1]; subst h1'; exact ⟨hφ, hC, .inl ⟨rfl, rfl⟩, hnn⟩
  · intro vals w1 hC hfacts
    obtain ⟨V, hV, hw⟩ := fill hS hin' hex h (fun j => j < n0) (fun j oj hoj hj e he hbe => by have := hS.low j oj hoj e he hbe; omega) vals w1 (fun j hj _ => hfacts j hj) n0 (Nat.le_refl _)
    have hVe : ∀ j, j < n0 → V j = vals j := fun j hj => hV j hj hj
    rw [lit_congr l.toArray V vals a0 n0 hVe] at hw
    rw [Nat.sub_self] at hw
    have := hw ⟨w1, hC.1⟩ hC.2 (fun q hq => by
      obtain ⟨j, hj, hKj, rfl⟩ := mem_Gam hq
      simp only
      rw [hVe j hj]
      exact (((hfacts j hj).2 hKj.1).1 hKj.2).2.1)
    have e := wpOps_eq_wpList (P := P) (ops := l.toArray) (Q := Q) (l.drop n0) n0 (by intro j; simp)
    rw [List.length_drop] at e
    simp only [List.size_toArray]
    rw [e]
    exact this
  · intro j o hj hl
    rw [rep_false] at hl; cases hl
  · refine ⟨by simp, ⟨x.ok.drew, hIt _ hI0⟩, rfl, rfl, fun t _ => rfl, ?_, ?_⟩
    · intro i hi hl; rw [rep_false] at hl; cases hl
    · intro i hi; exact rep_false _ _

theorem end_at {ops : Array Oper} {k : Nat} {rest : List Oper} {a : Act} {Γ : List (Nat × (World → Prop))} (h : ∀ x : Later w0, p.I x.at_ → (∀ q ∈ Γ, q.2 x.at_) → wpList P ops Q rest a x.at_) : Walk P ops Q p w0 0 rest k a Γ := h
end





/-- Facts by lists; which operations are skipped. -/
def parQ (Sk : List Nat) (S : List (Nat × (Value → Prop))) (T : List (Nat × (Value → World → Prop))) (I : World → Prop) : Par :=
  { sk := fun k => Sk.contains k, K := fun k => isAt S k, sil := fun _ => false, Ψ := psi S, Θ := LaxS.theta T, I := I }

section
variable {P : Program} {Q : Exit → Act → World → Prop} {a0 : Act} {wb : World} {Sk : List Nat} {S : List (Nat × (Value → Prop))} {T : List (Nat × (Value → World → Prop))} {I : World → Prop}

theorem region_guarded {id : Nat} {l : List Oper} (x : Later wb) (n0 f : Nat) (Sk : List Nat) (S : List (Nat × (Value → Prop))) (T : List (Nat × (Value → World → Prop))) (I : World → Prop) (hm : P.follows .mixedOrders = true) (hB : shapeQB l.toArray n0 f = true)
    (hin : ((List.range n0).all fun i => match dst l.toArray i with | some t => decide (t < a0.tmps.size) | none => true) = true)
    (hst : (List.range n0).all (fun k => !(isAt S k) || (dst l.toArray k).isSome) = true)
    (hI0 : I x.at_) (hI : ∀ w w', I w → Below w.heap.size w w' → I w') (hT : ∀ p ∈ T, ∀ v w w', p.2 v w → Below w.heap.size w w' → p.2 v w') (hex : ∀ p ∈ S, ∃ v, p.2 v)
    (h : Walk P l.toArray Q (parQ Sk S T I) wb n0 l 0 a0 []) : (Code.region id l.toArray true).wp P Q a0 x.at_ := by
  refine wp_region_laxQ x n0 f (parQ Sk S T I) hm hB hin hI0 hI (fun w hw => hI _ _ hw (Below.refl _ w).drew) ?_ ?_ h
  · intro i v w w' ht hb
    show LaxS.theta T i v w'
    have ht' : LaxS.theta T i v w := ht
    unfold LaxS.theta at ht' ⊢
    cases hl : T.lookup i with
    | none => trivial
    | some θ =>
      rw [hl] at ht'
      exact hT _ (LaxS.lookup_mem hl) v w w' ht' hb
  intro k hk hK
  have hs := (List.all_eq_true.1 hst) k (List.mem_range.2 hk)
  have hK' : isAt S k = true := hK
  rw [hK'] at hs
  simp only [Bool.not_true, Bool.false_or] at hs
  show ∃ v, psi S k v ∧ _
  have hd : dst l.toArray k ≠ none := fun hd => by rw [hd] at hs; cases hs
  cases hl : S.lookup k with
  | none => simp [isAt, hl] at hK'
  | some φ =>
    obtain ⟨v, hv⟩ := hex _ (LaxS.lookup_mem hl)
    exact ⟨v, by unfold psi; rw [hl]; exact hv, fun h => absurd h hd⟩

theorem q_call {ops : Array Oper} {m k : Nat} {o : Oper} {rest : List Oper} {a : Act} {Γ : List (Nat × (World → Prop))} (hsk : Sk.contains k = false) (hw : Region.wanted o (yielded ops a.tmps) = true) (hk : isAt S k = true) (hd : o.dst.isSome = true) (hI : ∀ w w', I w → Below w.heap.size w w' → I w')
    (h2 : ∀ v, psi S k v → wpQuiet P ops (fun _ => True) (fun a__ => Walk P ops Q (parQ Sk S T I) wb m rest (k + 1) a__ ((k, LaxS.theta T k v) :: Γ)) [{ dst := o.dst, op := .move (.const v), type := 0, pos := "", after := #[], guard := none }] a)
    (h1 : ∀ (y : Later wb) (K : Act → World → Prop), I y.at_ → (∀ q ∈ Γ, depOn o q.1 = true → q.2 y.at_) → (∀ v w', psi S k v → LaxS.theta T k v w' → Below y.at_.heap.size y.at_ w' → K (a.put o.dst v) w') → wpList P ops (fun e a' w' => e = .normal ∧ K a' w') [o] a y.at_) : Walk P ops Q (parQ Sk S T I) wb (m + 1) (o :: rest) k a Γ := by
  refine walk_call hsk hw hk (fun h => by rw [h] at hd; cases hd) (fun x hIx hG => ?_) (fun v hv _ => Go.Lax.mv_on (h2 v hv))
  exact h1 x (fun a' w' => ∃ v, a' = a.put o.dst v ∧ _) hIx hG fun v w' hv ht hb' => ⟨v, rfl, hv, ht, x.ok.trans (hb'.mono x.ok.size), hI _ _ hIx hb', hb', fun h => by rw [h] at hd; cases hd⟩
theorem q_end {ops : Array Oper} {k : Nat} {rest : List Oper} {a : Act} {Γ : List (Nat × (World → Prop))} (h : ∀ x : Later wb, I x.at_ → (∀ q ∈ Γ, q.2 x.at_) → wpList P ops Q rest a x.at_) : Walk P ops Q (parQ Sk S T I) wb 0 rest k a Γ := h
end

end Go.LaxQ
