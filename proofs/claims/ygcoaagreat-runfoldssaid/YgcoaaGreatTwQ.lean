/-
  Two runs of one text: a region whose first operations come in any order.
-/
import Derived.Test.YgcoaaGreatTwP
import Derived.Test.YgcoaaGreatLaxS
set_option linter.unusedVariables false
set_option linter.unusedSimpArgs false
namespace Go.Tw
open Go.Mix

/-- Each operation that is listed has its edges listed. -/
def Down (ops : Array Oper) (listed : Array Bool) : Prop := ∀ (j : Nat) o, ops[j]? = some o → listed.getD j false = true → ∀ e ∈ o.after, Region.binds .any e = true → listed.getD e.on false = true

/-- The shape: n0 operations in any order, then the rest in the order of the text. -/
structure Shaped (ops : Array Oper) (n0 : Nat) : Prop where
  le : n0 ≤ ops.size
  low : ∀ (i : Nat) (o : Oper), ops[i]? = some o → ∀ e ∈ o.after, Region.binds .any e = true → e.on < i
  seq : ∀ k, n0 ≤ k → k ≤ ops.size → Region.ready .any ops (upto ops.size k) = if k < ops.size then [k] else []
  last : ∀ i, n0 ≤ i → ∀ listed : Array Bool, listed.size = ops.size → Down ops listed → i ∈ Region.ready .any ops listed → ∀ j, j < n0 → listed.getD j false = true

section
variable {P : Program} {ops : Array Oper} {n0 : Nat} {Q : Exit → Act → World → Prop}

theorem down_set {listed : Array Bool} {i : Nat} {o : Oper} (hd : Down ops listed) (ho : ops[i]? = some o) (hl : i < listed.size) (he : ∀ e ∈ o.after, Region.binds .any e = true → listed.getD e.on false = true) : Down ops (listed.setIfInBounds i true) := by
  intro j oj hj hlj e hee hb
  by_cases hji : i = j
  · subst hji
    rw [ho] at hj
    cases hj
    exact getD_set_true (he e hee hb)
  · rw [getD_set_ne false hji] at hlj
    exact getD_set_true (hd j oj hj hlj e hee hb)

theorem all_listed (hS : Shaped ops n0) {listed : Array Bool} (hsz : listed.size = ops.size) (hpre : ∀ k, n0 ≤ k → listed.getD k false = false) (hall : ∀ j, j < n0 → listed.getD j false = true) : listed = upto ops.size n0 := by
  have hle := hS.le
  apply Array.ext_getElem?
  intro i
  by_cases hi : i < ops.size
  · rw [upto_get _ _ i hle hi]
    have hil : i < listed.size := by rw [hsz]; exact hi
    by_cases hn : i < n0
    · have := hall i hn
      simp [hil] at this
      simp [hil, hn, this]
    · have := hpre i (by omega)
      simp [hil] at this
      simp [hil, hn, this]
  · rw [Array.getElem?_eq_none (by rw [hsz]; omega), Array.getElem?_eq_none (by rw [upto_size hle]; omega)]

/-- While one of the first is left, one of the first is ready, and none of the rest. -/
theorem one_ready (hS : Shaped ops n0) {listed : Array Bool} (hsz : listed.size = ops.size) (hdown : Down ops listed) (hall : ¬ ∀ j, j < n0 → listed.getD j false = true) :
    Region.ready .any ops listed ≠ [] ∧ ∀ i ∈ Region.ready .any ops listed, i < n0 := by
  have hle := hS.le
  refine ⟨fun hr => ?_, fun i hi => ?_⟩
  · have hex : ∃ j, j < n0 ∧ listed.getD j false = false := by
      refine Classical.byContradiction fun h => hall fun j hj => ?_
      cases hb : listed.getD j false
      · exact absurd ⟨j, hj, hb⟩ h
      · rfl
    obtain ⟨j, hj, hjf, hmin⟩ : ∃ j, j < n0 ∧ listed.getD j false = false ∧ ∀ k, k < j → listed.getD k false = true := by
      have key : ∀ n j, j ≤ n → j < n0 → listed.getD j false = false → ∃ j, j < n0 ∧ listed.getD j false = false ∧ ∀ k, k < j → listed.getD k false = true := by
        intro n
        induction n with
        | zero =>
          intro j hj hjn hjf
          exact ⟨j, hjn, hjf, fun k hk => by omega⟩
        | succ n ihn =>
          intro j hj hjn hjf
          by_cases hk : ∀ k, k < j → listed.getD k false = true
          · exact ⟨j, hjn, hjf, hk⟩
          · obtain ⟨k, hkj, hkf⟩ : ∃ k, k < j ∧ listed.getD k false = false := by
              refine Classical.byContradiction fun h => hk fun k hkj => ?_
              cases hb : listed.getD k false
              · exact absurd ⟨k, hkj, hb⟩ h
              · rfl
            exact ihn k (by omega) (by omega) hkf
      obtain ⟨j, hj, hjf⟩ := hex
      exact key j j (Nat.le_refl _) hj hjf
    have hjo : j < ops.size := by omega
    have hjl : j < listed.size := by rw [hsz]; exact hjo
    have hm : j ∈ Region.ready .any ops listed := by
      refine mem_ready.2 ⟨?_, ops[j], by simp [hjo], fun e he hb => hmin e.on (hS.low j _ (by simp [hjo]) e he hb)⟩
      simpa [hjl] using hjf
    rw [hr] at hm
    cases hm
  · rcases Nat.lt_or_ge i n0 with h | h
    · exact h
    · exact absurd (hS.last i h listed hsz hdown hi) hall

theorem any_of (hS : Shaped ops n0) (I : Array Bool → Act → World → Prop)
    (hstep : ∀ (i : Nat) o, i < n0 → ops[i]? = some o → ∀ (listed : Array Bool) a w, listed.size = ops.size → (∀ k, n0 ≤ k → listed.getD k false = false) → Down ops listed → listed.getD i false = false →
      (∀ e ∈ o.after, Region.binds .any e = true → listed.getD e.on false = true) → I listed a w → wpOp P ops Q i (fun a' w' => I (listed.setIfInBounds i true) a' w') a w)
    (hend : ∀ a w, I (upto ops.size n0) a w → wpOps P ops Q (List.range' n0 (ops.size - n0)) a w) :
    ∀ (fuel : Nat) (listed : Array Bool) (a : Act) (w : World), listed.size = ops.size → listed.count false ≤ fuel → (∀ k, n0 ≤ k → listed.getD k false = false) → Down ops listed → I listed a w → wpAny P .any ops Q fuel listed a w := by
  have hle := hS.le
  have fin : ∀ (fuel : Nat) (listed : Array Bool) (a : Act) (w : World), listed.size = ops.size → listed.count false ≤ fuel → (∀ k, n0 ≤ k → listed.getD k false = false) → I listed a w → (∀ j, j < n0 → listed.getD j false = true) → wpAny P .any ops Q fuel listed a w := by
    intro fuel listed a w hsz hc hpre hI hall
    have hl := all_listed hS hsz hpre hall
    have hcc : ops.size - n0 ≤ fuel := by
      rw [hl] at hc
      simpa [upto, Array.count_append, Array.count_replicate] using hc
    rw [hl] at hI
    rw [hl]
    exact suffix_any hS.seq fuel n0 a w (Nat.le_refl _) hle hcc (hend a w hI)
  intro fuel
  induction fuel with
  | zero =>
    intro listed a w hsz hc hpre hdown hI
    refine fin 0 listed a w hsz hc hpre hI fun j hj => ?_
    have hjl : j < listed.size := by rw [hsz]; omega
    have h0 : ¬ (false ∈ listed) := Array.not_mem_of_count_eq_zero (by omega)
    have : listed[j] ≠ false := fun e => h0 (e ▸ Array.getElem_mem hjl)
    simp [hjl]
    simpa using this
  | succ fuel ih =>
    intro listed a w hsz hc hpre hdown hI
    by_cases hall : ∀ j, j < n0 → listed.getD j false = true
    · exact fin _ listed a w hsz hc hpre hI hall
    · obtain ⟨hne, hlow⟩ := one_ready hS hsz hdown hall
      refine ⟨fun hr => absurd hr hne, fun i hi => ?_⟩
      have hin0 := hlow i hi
      obtain ⟨hun, o, ho, hdeps⟩ := mem_ready.1 hi
      have hio : i < ops.size := (Array.getElem?_eq_some_iff.1 ho).1
      have hil : i < listed.size := by rw [hsz]; exact hio
      have hif : listed[i] = false := by simpa [hil] using hun
      have hif' : listed.getD i false = false := by simp [hil, hif]
      refine wpOp_mono ?_ (hstep i o hin0 ho listed a w hsz hpre hdown hif' hdeps hI)
      intro a' w' hI'
      refine ih _ a' w' (by simp [hsz]) ?_ ?_ (down_set hdown ho hil hdeps) hI'
      · have := Array.count_set (xs := listed) (i := i) (a := true) (b := false) hil
        rw [Array.setIfInBounds_def, dif_pos hil, this, hif]
        simp
        omega
      · intro k hk
        rw [getD_set_ne false (by omega)]
        exact hpre k hk
end
end Go.Tw
