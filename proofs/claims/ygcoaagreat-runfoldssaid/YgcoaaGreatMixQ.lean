/-
  A region that draws its order: its first n0 operations are quiet in a class of worlds (Derived/Deep/Quiet.lean), the others come behind them all, in the order of the text (a store at the end).
-/
import Derived.Test.YgcoaaGreatMixB
import Derived.Deep.Quiet
set_option linter.unusedVariables false
namespace Go.Mix
open Go.RowKit

section
variable {P : Program} {C : World → Prop} {Q : Exit → Act → World → Prop}

theorem lit_congr (ops : Array Oper) (V V' : Nat → Value) (a : Act) : ∀ k, (∀ j, j < k → V j = V' j) → lit ops V k a = lit ops V' k a
  | 0, _ => rfl
  | k + 1, h => by
    simp only [lit]
    rw [lit_congr ops V V' a k (fun j hj => h j (by omega)), h k (by omega)]

/-- Any order of the first n0, quiet: then what follows in every world of the class. -/
theorem prefixQ {ops : Array Oper} {n0 : Nat} (hS : Shape ops n0) {a0 : Act} (hin : ∀ i t, i < n0 → dst ops i = some t → t < a0.tmps.size) (V : Nat → Value)
    (hseq : ∀ k, n0 ≤ k → k ≤ ops.size → Region.ready .any ops (upto ops.size k) = if k < ops.size then [k] else [])
    (hlast : ∀ i, n0 ≤ i → ∀ listed : Array Bool, listed.size = ops.size → (∀ j o, ops[j]? = some o → listed.getD j false = true → ∀ e ∈ o.after, Region.binds .any e = true → listed.getD e.on false = true) → i ∈ Region.ready .any ops listed → ∀ j, j < n0 → listed.getD j false = true)
    (hq : ∀ i o, i < n0 → ops[i]? = some o → ∀ w, C w → o.quietAt P (lit ops V i a0) C w (V i))
    (hsuf : ∀ w, C w → wpOps P ops Q (List.range' n0 (ops.size - n0)) (lit ops V n0 a0) w) (w0 : World) :
    ∀ (fuel : Nat) (listed : Array Bool) (a : Act) (w : World), listed.count false ≤ fuel → C w → (∀ j o, ops[j]? = some o → listed.getD j false = true → ∀ e ∈ o.after, Region.binds .any e = true → listed.getD e.on false = true) →
      Inv ops n0 (fun i v _ => v = V i) (fun _ => false) a0 w listed a w → wpAny P .any ops Q fuel listed a w := by
  have fin : ∀ (fuel : Nat) (listed : Array Bool) (a : Act) (w : World), listed.count false ≤ fuel → C w → Inv ops n0 (fun i v _ => v = V i) (fun _ => false) a0 w listed a w → (∀ j, j < n0 → listed.getD j false = true) → wpAny P .any ops Q fuel listed a w := by
    intro fuel listed a w hc hC hI hall
    have hle := hS.le
    have hl : listed = upto ops.size n0 := by
      apply Array.ext_getElem?
      intro i
      by_cases hi : i < ops.size
      · rw [upto_get _ _ i hle hi]
        have hil : i < listed.size := by rw [hI.size]; exact hi
        by_cases hn : i < n0
        · have := hall i hn
          simp [hil] at this
          simp [hil, hn, this]
        · have := hI.pre i (by omega)
          simp [hil] at this
          simp [hil, hn, this]
      · rw [Array.getElem?_eq_none (by rw [hI.size]; omega), Array.getElem?_eq_none (by rw [upto_size hle]; omega)]
    have ha : lit ops (val ops a) n0 a0 = a := by
      have h1 : (lit ops (val ops a) n0 a0).tmps = a.tmps := by
        apply Array.ext_getElem?
        intro t
        exact inv_lit hS hin hI n0 (Nat.le_refl _) t fun j hj _ => ⟨hj, hall j hj⟩
      have h2 : (lit ops (val ops a) n0 a0).defers = a.defers := by rw [lit_defers, hI.defers]
      cases hx : lit ops (val ops a) n0 a0
      cases a
      rw [hx] at h1 h2
      simp at h1 h2
      simp [h1, h2]
    have hcc : ops.size - n0 ≤ fuel := by
      rw [hl] at hc
      simpa [upto, Array.count_append, Array.count_replicate] using hc
    have hs := hsuf w hC
    have hv : lit ops V n0 a0 = a := by
      rw [← ha]
      exact (lit_congr ops V (val ops a) a0 n0 fun j hj => (hI.fact j hj (hall j hj)).symm)
    rw [hv] at hs
    rw [hl]
    exact suffix_any hseq fuel n0 a w (Nat.le_refl _) hle hcc hs
  intro fuel
  induction fuel with
  | zero =>
    intro listed a w hc hC hdown hI
    refine fin 0 listed a w hc hC hI fun j hj => ?_
    have hle := hS.le
    have hjl : j < listed.size := by rw [hI.size]; omega
    have h0 : ¬ (false ∈ listed) := Array.not_mem_of_count_eq_zero (by omega)
    have : listed[j] ≠ false := fun e => h0 (e ▸ Array.getElem_mem hjl)
    simp [hjl]
    simpa using this
  | succ fuel ih =>
    intro listed a w hc hC hdown hI
    by_cases hall : ∀ j, j < n0 → listed.getD j false = true
    · exact fin _ listed a w hc hC hI hall
    · have hex : ∃ j, j < n0 ∧ listed.getD j false = false := by
        refine Classical.byContradiction fun h => hall fun j hj => ?_
        cases hb : listed.getD j false
        · exact absurd ⟨j, hj, hb⟩ h
        · rfl
      refine ⟨fun hr => ?_, fun i hi => ?_⟩
      · exfalso
        obtain ⟨j, hj, hjf, hmin⟩ : ∃ j, j < n0 ∧ listed.getD j false = false ∧ ∀ k, k < j → listed.getD k false = true := by
          have key : ∀ n j, j ≤ n → j < n0 → listed.getD j false = false → ∃ j, j < n0 ∧ listed.getD j false = false ∧ ∀ k, k < j → listed.getD k false = true := by
            intro n
            induction n with
            | zero =>
              intro j hj hjn hjf
              exact ⟨j, hjn, hjf, fun k hk => by omega⟩
            | succ n ihn =>
              intro j hj hjn hjf
              by_cases hk : ∀ k, k < j → listed.getD k false = true
              · exact ⟨j, hjn, hjf, hk⟩
              · obtain ⟨k, hkj, hkf⟩ : ∃ k, k < j ∧ listed.getD k false = false := by
                  refine Classical.byContradiction fun h => hk fun k hkj => ?_
                  cases hb : listed.getD k false
                  · exact absurd ⟨k, hkj, hb⟩ h
                  · rfl
                exact ihn k (by omega) (by omega) hkf
          obtain ⟨j, hj, hjf⟩ := hex
          exact key j j (Nat.le_refl _) hj hjf
        have hle := hS.le
        have hjo : j < ops.size := by omega
        have hjl : j < listed.size := by rw [hI.size]; exact hjo
        have hm : j ∈ Region.ready .any ops listed := by
          refine mem_ready.2 ⟨?_, ops[j], by simp [hjo], fun e he hb => hmin e.on (hS.low j _ (by simp [hjo]) e he hb)⟩
          simpa [hjl] using hjf
        rw [hr] at hm
        cases hm
      · have hin0 : i < n0 := by
          rcases Nat.lt_or_ge i n0 with h | h
          · exact h
          · exact absurd (hlast i h listed hI.size hdown hi) hall
        obtain ⟨hun, o, ho, hdeps⟩ := mem_ready.1 hi
        have hio : i < ops.size := (Array.getElem?_eq_some_iff.1 ho).1
        have hil : i < listed.size := by rw [hI.size]; exact hio
        have hif : listed[i] = false := by simpa [hil] using hun
        obtain ⟨t, hd⟩ := hS.some_ i hin0
        have ht := hin i t hin0 hd
        have hta : t < a.tmps.size := by rw [hI.tsize]; exact ht
        have hod : o.dst = dst ops i := by simp [dst, ho]
        have hcongr : execOp (lit ops V i a0).eval o = execOp a.eval o := by
          refine execOp_congr o (fun cs b => hS.nosel i o cs b hin0 ho) fun x hx => ?_
          cases x with
          | tmp t' =>
            have : (lit ops V i a0).tmps[t']? = a.tmps[t']? := by
              have h1 := inv_lit hS hin hI i (by omega) t' fun j hj hdj => by
                obtain ⟨e, he, hb, hon⟩ := hS.looks i o hin0 ho t' hx j hj hdj
                subst hon
                exact ⟨hS.low i o ho e he hb, hdeps e he hb⟩
              rw [← h1]
              by_cases hex : ∃ j, j < n0 ∧ dst ops j = some t'
              · obtain ⟨j, hj, hdj⟩ := hex
                obtain ⟨e, he, hb, hon⟩ := hS.looks i o hin0 ho t' hx j hj hdj
                subst hon
                have hji := hS.low i o ho e he hb
                have htj := hin e.on t' hj hdj
                rw [lit_hit ops V a0 t' htj e.on hdj i hji (fun k hk hdk => hS.dist k e.on t' (by omega) hj hdk hdj), lit_hit ops (val ops a) a0 t' htj e.on hdj i hji (fun k hk hdk => hS.dist k e.on t' (by omega) hj hdk hdj)]
                rw [hI.fact e.on hj (hdeps e he hb)]
              · have hno : ∀ j, j < i → dst ops j ≠ some t' := fun j hj hdj => hex ⟨j, by omega, hdj⟩
                rw [lit_miss ops V a0 t' i hno, lit_miss ops (val ops a) a0 t' i hno]
            simp only [Act.eval, Array.getD_eq_getD_getElem?, this]
          | _ => rfl
        have hw : Region.wanted o (yielded ops a.tmps) = true := by simp [Region.wanted, hS.noguard i o hin0 ho]
        unfold wpOp
        simp only [ho, hw, if_true]
        refine .inl ?_
        have hquiet : o.quiet P a C (fun a' => a' = a.put o.dst (V i)) := ⟨V i, fun w1 hw1 => by
          have := hq i o hin0 ho w1 hw1
          unfold Oper.quietAt at this ⊢
          rw [hcongr] at this
          exact this, rfl⟩
        refine Oper.wp_of_quiet hC (fun a' w' hC' ha' => ?_) hquiet
        subst ha'
        rw [hod]
        have hother : ∀ j, j < n0 → j ≠ i → dst ops j ≠ some t := fun j hj hne e => hne (hS.dist j i t hj hin0 e hd)
        refine ih _ _ _ ?_ hC' ?_ ⟨by simp [hI.size], Below.refl _ _, ?_, ?_, ?_, ?_, ?_, ?_, ?_⟩
        · have hcs : (listed.setIfInBounds i true).count false = listed.count false - 1 := by
            rw [Array.setIfInBounds, dif_pos hil, Array.count_set hil]
            simp [hif]
          omega
        · intro j oj hoj hlj e he hbe
          rw [getD_set hil] at hlj ⊢
          rcases hlj with rfl | hlj
          · rw [ho] at hoj
            obtain rfl := Option.some.inj hoj
            exact .inr (hdeps e he hbe)
          · exact .inr (hdown j oj hoj hlj e he hbe)
        · rw [hd]; exact hI.defers
        · rw [hd]; simp [Act.put, hI.tsize]
        · intro u hu
          have hui : dst ops i ≠ some u := hu i ((getD_set hil).2 (.inl rfl))
          have hne : t ≠ u := fun e => hui (by rw [hd, e])
          rw [hd]
          simp only [Act.put, Array.getElem?_setIfInBounds_ne hne]
          exact hI.rest u fun j hj => hu j ((getD_set hil).2 (.inr hj))
        · intro j hj hlj
          by_cases hji : j = i
          · subst hji; rw [val_put_same hd hta]
          · rw [val_put_other hd (hother j hj hji)]
            exact hI.fact j hj (((getD_set hil).1 hlj).resolve_left hji)
        · intro j hj
          have hne : i ≠ j := by omega
          rw [getD_set_ne false hne]; exact hI.pre j hj
        · intro j hj hmj hlj; cases hmj
        · intro j k hj hk hne hmj; cases hmj

theorem quiet_vals {ops : Array Oper} {R : Act → Prop} {a0 : Act} : ∀ (m : List Oper) (k : Nat) (V0 : Nat → Value), (∀ j, j < m.length → m[j]? = ops[k + j]?) → (∀ o ∈ m, o.guard = none) → wpQuiet P ops C R m (lit ops V0 k a0) →
    ∃ V : Nat → Value, (∀ j, j < k → V j = V0 j) ∧ (∀ i o, k ≤ i → i < k + m.length → ops[i]? = some o → ∀ w, C w → o.quietAt P (lit ops V i a0) C w (V i)) ∧ R (lit ops V (k + m.length) a0)
  | [], k, V0, _, _, h => ⟨V0, fun _ _ => rfl, fun i o h1 h2 => by simp at h2; omega, by simpa [wpQuiet] using h⟩
  | o :: rest, k, V0, hm, hg, h => by
    have h0 : ops[k]? = some o := by simpa using (hm 0 (by simp)).symm
    simp only [wpQuiet, Region.wanted, hg o (by simp), if_true] at h
    obtain ⟨v, hv, hn⟩ := h
    have e1 : lit ops (fun j => if j = k then v else V0 j) (k + 1) a0 = (lit ops V0 k a0).put o.dst v := by
      simp only [lit, h0, Option.bind_some, if_true]
      rw [lit_congr ops _ V0 a0 k (fun j hj => by simp; omega)]
    rw [← e1] at hn
    obtain ⟨V, hV, hq, hR⟩ := quiet_vals rest (k + 1) _ (fun j hj => by
      have := hm (j + 1) (by simpa using hj)
      simpa [Nat.add_assoc, Nat.add_comm 1 j] using this) (fun o' ho' => hg o' (by simp [ho'])) hn
    have hVk : V k = v := by have := hV k (by omega); simpa using this
    have hlow : ∀ j, j < k → V j = V0 j := fun j hj => by
      have := hV j (by omega)
      rw [this]; simp; omega
    refine ⟨V, hlow, ?_, ?_⟩
    · intro i o' h1 h2 ho' w hw
      by_cases hik : i = k
      · subst hik
        rw [h0] at ho'
        obtain rfl := Option.some.inj ho'
        rw [lit_congr ops V V0 a0 i hlow, hVk]
        exact hv w hw
      · exact hq i o' (by omega) (by simp at h2; omega) ho' w hw
    · have e2 : k + (o :: rest).length = k + 1 + rest.length := by simp; omega
      rw [e2]; exact hR

/-- THE LAW: the first n0 quiet in the class, the rest behind them. -/
theorem wp_region_quiet_then {id : Nat} {l : List Oper} {a0 : Act} {w : World} (n0 f : Nat) (hm : P.follows .mixedOrders = true) (hB : shapeB l.toArray n0 f = true)
    (hin : ((List.range n0).all fun i => match dst l.toArray i with | some t => decide (t < a0.tmps.size) | none => true) = true)
    (hC : C { w with drawn := w.drawn + 1 })
    (h : wpQuiet P l.toArray C (fun a' => ∀ w', C w' → wpList P l.toArray Q (l.drop n0) a' w') (l.take n0) a0) : (Code.region id l.toArray true).wp P Q a0 w := by
  obtain ⟨hS, hseq, hlast⟩ := shape_of hB
  have hle : n0 ≤ l.length := by simpa using hS.le
  have hin' : ∀ i t, i < n0 → dst l.toArray i = some t → t < a0.tmps.size := by
    intro i t hi hd
    have := (List.all_eq_true.1 hin) i (List.mem_range.2 hi)
    rw [hd] at this
    simpa using this
  have hlen : (l.take n0).length = n0 := by simp; omega
  obtain ⟨V, _, hq, hR⟩ := quiet_vals (P := P) (C := C) (ops := l.toArray) (a0 := a0) (l.take n0) 0 (fun _ => undef) (fun j hj => by rw [hlen] at hj; simp [hj]) (by
    intro o ho
    obtain ⟨i, hi, rfl⟩ := List.mem_iff_getElem.1 ho
    rw [hlen] at hi
    exact hS.noguard i _ hi (by simp)) h
  rw [hlen] at hq hR
  simp only [Nat.zero_add] at hR hq
  refine wp_region_any hm ?_
  refine prefixQ (C := C) (n0 := n0) hS hin' V hseq hlast (fun i o hi ho => hq i o (by omega) hi ho) ?_ w _ _ a0 _ (by simp) hC ?_ ?_
  · intro w1 hw1
    have := hR w1 hw1
    have e := wpOps_eq_wpList (P := P) (ops := l.toArray) (Q := Q) (l.drop n0) n0 (by intro j; simp)
    rw [List.length_drop] at e
    simp only [List.size_toArray]
    rw [e]
    exact this
  · intro j o hj hl
    rw [rep_false] at hl; cases hl
  · refine ⟨by simp, Below.refl _ _, rfl, rfl, fun t _ => rfl, ?_, ?_, ?_, ?_⟩
    · intro i hi hl; rw [rep_false] at hl; cases hl
    · intro i hi; exact rep_false _ _
    · intro i hi _ hl; rw [rep_false] at hl; cases hl
    · intro i j _ _ _ _ _ hl; rw [rep_false] at hl; cases hl
end

end Go.Mix
