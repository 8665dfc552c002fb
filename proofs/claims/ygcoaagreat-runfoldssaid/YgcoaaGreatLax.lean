/-
  A region that draws its order, holds calls and may make memory, and stores at its end: a walk in the order of the text in which an operation that only reads yields a value by reckoning, and a call (or an allocation) SOME value with a fact.
-/
import Derived.Test.YgcoaaGreatMixQ
set_option linter.unusedVariables false
namespace Go.Lax
open Go.RowKit Go.Mix

def isCall (o : Oper) : Bool := match o.op with | .call _ => true | _ => false

theorem run_v {s : Sem Value} {P : Program} {w : World} {f : FuncId} {args : Array Value} {w' : World} : (do let x ← s; pure (Next.value x) : Sem Next).run P w ≠ .ok (.enter f args) w' := by
  rw [Sem.run_bind]
  cases s.run P w <;> simp [Result.andThen]
theorem run_u {s : Sem Unit} {P : Program} {w : World} {f : FuncId} {args : Array Value} {w' : World} : (do s; pure Next.skip : Sem Next).run P w ≠ .ok (.enter f args) w' := by
  rw [Sem.run_bind]
  cases s.run P w <;> simp [Result.andThen]

/-- The operations that this law lets read: none enters a function. -/
def plain (o : Oper) : Bool := match o.op with
  | .move .. | .assign .. | .build .. | .load .. | .binOp .. | .unOp .. | .convert .. | .slice .. | .fieldAddr .. | .field .. | .indexAddr .. | .index .. | .extract .. => true
  | _ => false

theorem no_enter {o : Oper} (h : plain o = true) {ρ : Operand → Value} {P : Program} {w : World} {f : FuncId} {args : Array Value} {w' : World} : (execOp ρ o).run P w ≠ .ok (.enter f args) w' := by
  unfold plain at h
  unfold execOp
  split at h
  all_goals first
    | (rename_i hop; rw [hop]; first | exact run_v | exact run_u | simp)
    | exact absurd h (by simp)

section
variable {P : Program} {ops : Array Oper} {n0 : Nat} {Φ : Nat → (Nat → Value) → Value → World → Prop} {mk : Nat → Bool} {a0 : Act} {w0 : World} {Q : Exit → Act → World → Prop}

/-- What is known while the operations below n0 come up. -/
structure Inv (ops : Array Oper) (n0 : Nat) (Φ : Nat → (Nat → Value) → Value → World → Prop) (mk : Nat → Bool) (a0 : Act) (w0 : World) (listed : Array Bool) (a : Act) (w : World) : Prop where
  size : listed.size = ops.size
  bel : Below w0.heap.size w0 w
  defers : a.defers = a0.defers
  tsize : a.tmps.size = a0.tmps.size
  rest : ∀ t, (∀ i, listed.getD i false = true → dst ops i ≠ some t) → a.tmps[t]? = a0.tmps[t]?
  fact : ∀ i, i < n0 → listed.getD i false = true → Φ i (val ops a) (val ops a i) w
  pre : ∀ i, n0 ≤ i → listed.getD i false = false
  mkv : ∀ i, i < n0 → mk i = true → listed.getD i false = true → ∃ b, val ops a i = .pointer (some ⟨b, 0, none⟩) ∧ b < w.heap.size
  mkd : ∀ i j, i < n0 → j < n0 → i ≠ j → mk i = true → mk j = true → listed.getD i false = true → listed.getD j false = true → val ops a i ≠ val ops a j

theorem Inv.old {listed : Array Bool} {a : Act} {w : World} (hI : Inv ops n0 Φ mk a0 w0 listed a w) : Mix.Inv ops n0 (fun _ _ _ => True) (fun _ => false) a0 w0 listed a w :=
  ⟨hI.size, hI.bel, hI.defers, hI.tsize, hI.rest, fun _ _ _ => trivial, hI.pre, fun _ _ h => by simp at h, fun _ _ _ _ _ h => by simp at h⟩

theorem prefix_any (hS : Shape ops n0) (hin : ∀ i t, i < n0 → dst ops i = some t → t < a0.tmps.size)
    (hst : ∀ i vals v w w', i < n0 → Φ i vals v w → Below w.heap.size w w' → Φ i vals v w')
    (hcong : ∀ i o vals vals' v w, i < n0 → ops[i]? = some o → (∀ e ∈ o.after, Region.binds .any e = true → vals e.on = vals' e.on) → Φ i vals v w → Φ i vals' v w)
    (hseq : ∀ k, n0 ≤ k → k ≤ ops.size → Region.ready .any ops (upto ops.size k) = if k < ops.size then [k] else [])
    (hlast : ∀ i, n0 ≤ i → ∀ listed : Array Bool, listed.size = ops.size → (∀ j o, ops[j]? = some o → listed.getD j false = true → ∀ e ∈ o.after, Region.binds .any e = true → listed.getD e.on false = true) → i ∈ Region.ready .any ops listed → ∀ j, j < n0 → listed.getD j false = true)
    (hstep : ∀ i o, i < n0 → ops[i]? = some o → ∀ (L : Nat → Prop) (vals : Nat → Value) (w : World), Below w0.heap.size w0 w →
      (∀ j oj, ops[j]? = some oj → L j → ∀ e ∈ oj.after, Region.binds .any e = true → L e.on) →
      (∀ j, j < n0 → L j → Φ j vals (vals j) w) → (∀ e ∈ o.after, Region.binds .any e = true → L e.on) →
      Mix.step P o (lit ops vals i a0) w (fun v w' => Φ i vals v w' ∧ (mk i = true → v = .pointer (some ⟨w.heap.size, 0, none⟩) ∧ w.heap.size < w'.heap.size)))
    (hsuf : ∀ (vals : Nat → Value) (w : World), Below w0.heap.size w0 w → (∀ i, i < n0 → Φ i vals (vals i) w) → (∀ i j, i < n0 → j < n0 → i ≠ j → mk i = true → mk j = true → vals i ≠ vals j) →
      wpOps P ops Q (List.range' n0 (ops.size - n0)) (lit ops vals n0 a0) w) :
    ∀ (fuel : Nat) (listed : Array Bool) (a : Act) (w : World), listed.count false ≤ fuel → (∀ j o, ops[j]? = some o → listed.getD j false = true → ∀ e ∈ o.after, Region.binds .any e = true → listed.getD e.on false = true) →
      Inv ops n0 Φ mk a0 w0 listed a w → wpAny P .any ops Q fuel listed a w := by
  have fin : ∀ (fuel : Nat) (listed : Array Bool) (a : Act) (w : World), listed.count false ≤ fuel → Inv ops n0 Φ mk a0 w0 listed a w → (∀ j, j < n0 → listed.getD j false = true) → wpAny P .any ops Q fuel listed a w := by
    intro fuel listed a w hc hI hall
    have hle := hS.le
    have hl : listed = upto ops.size n0 := by
      apply Array.ext_getElem?
      intro i
      by_cases hi : i < ops.size
      · rw [upto_get _ _ i hle hi]
        have hil : i < listed.size := by rw [hI.size]; exact hi
        by_cases hn : i < n0
        · have := hall i hn
          simp [hil] at this
          simp [hil, hn, this]
        · have := hI.pre i (by omega)
          simp [hil] at this
          simp [hil, hn, this]
      · rw [Array.getElem?_eq_none (by rw [hI.size]; omega), Array.getElem?_eq_none (by rw [upto_size hle]; omega)]
    have ha : lit ops (val ops a) n0 a0 = a := by
      have h1 : (lit ops (val ops a) n0 a0).tmps = a.tmps := by
        apply Array.ext_getElem?
        intro t
        exact inv_lit hS hin hI.old n0 (Nat.le_refl _) t fun j hj _ => ⟨hj, hall j hj⟩
      have h2 : (lit ops (val ops a) n0 a0).defers = a.defers := by rw [lit_defers, hI.defers]
      cases hx : lit ops (val ops a) n0 a0
      cases a
      rw [hx] at h1 h2
      simp at h1 h2
      simp [h1, h2]
    have hcc : ops.size - n0 ≤ fuel := by
      rw [hl] at hc
      simpa [upto, Array.count_append, Array.count_replicate] using hc
    have hs := hsuf (val ops a) w hI.bel (fun i hi => hI.fact i hi (hall i hi)) (fun i j hi hj hne mi mj => hI.mkd i j hi hj hne mi mj (hall i hi) (hall j hj))
    rw [ha] at hs
    rw [hl]
    exact suffix_any hseq fuel n0 a w (Nat.le_refl _) hle hcc hs
  intro fuel
  induction fuel with
  | zero =>
    intro listed a w hc hdown hI
    refine fin 0 listed a w hc hI fun j hj => ?_
    have hle := hS.le
    have hjl : j < listed.size := by rw [hI.size]; omega
    have h0 : ¬ (false ∈ listed) := Array.not_mem_of_count_eq_zero (by omega)
    have : listed[j] ≠ false := fun e => h0 (e ▸ Array.getElem_mem hjl)
    simp [hjl]
    simpa using this
  | succ fuel ih =>
    intro listed a w hc hdown hI
    by_cases hall : ∀ j, j < n0 → listed.getD j false = true
    · exact fin _ listed a w hc hI hall
    · have hex : ∃ j, j < n0 ∧ listed.getD j false = false := by
        refine Classical.byContradiction fun h => hall fun j hj => ?_
        cases hb : listed.getD j false
        · exact absurd ⟨j, hj, hb⟩ h
        · rfl
      refine ⟨fun hr => ?_, fun i hi => ?_⟩
      · exfalso
        obtain ⟨j, hj, hjf, hmin⟩ : ∃ j, j < n0 ∧ listed.getD j false = false ∧ ∀ k, k < j → listed.getD k false = true := by
          have key : ∀ n j, j ≤ n → j < n0 → listed.getD j false = false → ∃ j, j < n0 ∧ listed.getD j false = false ∧ ∀ k, k < j → listed.getD k false = true := by
            intro n
            induction n with
            | zero =>
              intro j hj hjn hjf
              exact ⟨j, hjn, hjf, fun k hk => by omega⟩
            | succ n ihn =>
              intro j hj hjn hjf
              by_cases hk : ∀ k, k < j → listed.getD k false = true
              · exact ⟨j, hjn, hjf, hk⟩
              · obtain ⟨k, hkj, hkf⟩ : ∃ k, k < j ∧ listed.getD k false = false := by
                  refine Classical.byContradiction fun h => hk fun k hkj => ?_
                  cases hb : listed.getD k false
                  · exact absurd ⟨k, hkj, hb⟩ h
                  · rfl
                exact ihn k (by omega) (by omega) hkf
          obtain ⟨j, hj, hjf⟩ := hex
          exact key j j (Nat.le_refl _) hj hjf
        have hle := hS.le
        have hjo : j < ops.size := by omega
        have hjl : j < listed.size := by rw [hI.size]; exact hjo
        have hm : j ∈ Region.ready .any ops listed := by
          refine mem_ready.2 ⟨?_, ops[j], by simp [hjo], fun e he hb => hmin e.on (hS.low j _ (by simp [hjo]) e he hb)⟩
          simpa [hjl] using hjf
        rw [hr] at hm
        cases hm
      · have hin0 : i < n0 := by
          rcases Nat.lt_or_ge i n0 with h | h
          · exact h
          · exact absurd (hlast i h listed hI.size hdown hi) hall
        obtain ⟨hun, o, ho, hdeps⟩ := mem_ready.1 hi
        have hio : i < ops.size := (Array.getElem?_eq_some_iff.1 ho).1
        have hil : i < listed.size := by rw [hI.size]; exact hio
        have hif : listed[i] = false := by simpa [hil] using hun
        have hif' : listed.getD i false = false := by simp [hil, hif]
        obtain ⟨t, hd⟩ := hS.some_ i hin0
        have ht := hin i t hin0 hd
        have hta : t < a.tmps.size := by rw [hI.tsize]; exact ht
        have hod : o.dst = dst ops i := by simp [dst, ho]
        have hcongr : execOp (lit ops (val ops a) i a0).eval o = execOp a.eval o := by
          refine execOp_congr o (fun cs b => hS.nosel i o cs b hin0 ho) fun x hx => ?_
          cases x with
          | tmp t' =>
            have := inv_lit hS hin hI.old i (by omega) t' fun j hj hdj => by
              obtain ⟨e, he, hb, hon⟩ := hS.looks i o hin0 ho t' hx j hj hdj
              subst hon
              exact ⟨hS.low i o ho e he hb, hdeps e he hb⟩
            simp only [Act.eval, Array.getD_eq_getD_getElem?, this]
          | _ => rfl
        have hs := hstep i o hin0 ho (fun j => listed.getD j false = true) (val ops a) w hI.bel hdown (fun j hj hl => hI.fact j hj hl) hdeps
        have hw : Region.wanted o (yielded ops a.tmps) = true := by simp [Region.wanted, hS.noguard i o hin0 ho]
        unfold wpOp
        simp only [ho, hw, if_true]
        refine .inl ?_
        have hs' : Mix.step P o a w (fun v w' => Φ i (val ops a) v w' ∧ (mk i = true → v = .pointer (some ⟨w.heap.size, 0, none⟩) ∧ w.heap.size < w'.heap.size)) := by
          unfold Mix.step at hs ⊢
          rw [hcongr] at hs
          exact hs
        refine step_wp hs' (fun v w' hφ hb => ?_)
        obtain ⟨hφ, hmk⟩ := hφ
        rw [hod]
        have hother : ∀ j, j < n0 → j ≠ i → dst ops j ≠ some t := fun j hj hne e => hne (hS.dist j i t hj hin0 e hd)
        have hsame : ∀ j oj, j < n0 → ops[j]? = some oj → (j = i ∨ listed.getD j false = true) → ∀ e ∈ oj.after, Region.binds .any e = true → val ops a e.on = val ops (a.put (dst ops i) v) e.on := by
          intro j oj hj hoj hlj e he hbe
          have hle' : listed.getD e.on false = true := by
            rcases hlj with rfl | hlj
            · rw [ho] at hoj
              obtain rfl := Option.some.inj hoj
              exact hdeps e he hbe
            · exact hdown j oj hoj hlj e he hbe
          have hne : e.on ≠ i := fun h => by rw [h, hif'] at hle'; cases hle'
          rw [val_put_other hd (hother e.on (by have := hS.low j oj hoj e he hbe; omega) hne)]
        refine ih _ _ _ ?_ ?_ ⟨by simp [hI.size], hI.bel.trans (hb.mono hI.bel.size), ?_, ?_, ?_, ?_, ?_, ?_, ?_⟩
        · have hcs : (listed.setIfInBounds i true).count false = listed.count false - 1 := by
            rw [Array.setIfInBounds, dif_pos hil, Array.count_set hil]
            simp [hif]
          omega
        · intro j oj hoj hlj e he hbe
          rw [getD_set hil] at hlj ⊢
          rcases hlj with rfl | hlj
          · rw [ho] at hoj
            obtain rfl := Option.some.inj hoj
            exact .inr (hdeps e he hbe)
          · exact .inr (hdown j oj hoj hlj e he hbe)
        · rw [hd]; exact hI.defers
        · rw [hd]; simp [Act.put, hI.tsize]
        · intro u hu
          have hui : dst ops i ≠ some u := hu i ((getD_set hil).2 (.inl rfl))
          have hne : t ≠ u := fun e => hui (by rw [hd, e])
          rw [hd]
          simp only [Act.put, Array.getElem?_setIfInBounds_ne hne]
          exact hI.rest u fun j hj => hu j ((getD_set hil).2 (.inr hj))
        · intro j hj hlj
          have hjo : j < ops.size := by have := hS.le; omega
          have hoj : ops[j]? = some ops[j] := by simp [hjo]
          refine hcong j _ (val ops a) _ _ _ hj hoj (hsame j _ hj hoj ((getD_set hil).1 hlj)) ?_
          by_cases hji : j = i
          · subst hji; rw [val_put_same hd hta]; exact hφ
          · rw [val_put_other hd (hother j hj hji)]
            exact hst j _ _ w w' hj (hI.fact j hj (((getD_set hil).1 hlj).resolve_left hji)) hb
        · intro j hj
          have hne : i ≠ j := by omega
          rw [getD_set_ne false hne]; exact hI.pre j hj
        · intro j hj hmj hlj
          by_cases hji : j = i
          · subst hji
            rw [val_put_same hd hta]
            exact ⟨w.heap.size, (hmk hmj).1, (hmk hmj).2⟩
          · rw [val_put_other hd (hother j hj hji)]
            obtain ⟨b, hb1, hb2⟩ := hI.mkv j hj hmj (((getD_set hil).1 hlj).resolve_left hji)
            exact ⟨b, hb1, by have := hb.size; omega⟩
        · intro j k hj hk hne hmj hmk' hlj hlk
          by_cases hji : j = i
          · subst hji
            have hki : k ≠ j := fun e => hne e.symm
            rw [val_put_same hd hta, val_put_other hd (hother k hk hki)]
            obtain ⟨b, hb1, hb2⟩ := hI.mkv k hk hmk' (((getD_set hil).1 hlk).resolve_left hki)
            rw [hb1, (hmk hmj).1]
            intro e
            simp at e
            omega
          · by_cases hki : k = i
            · subst hki
              rw [val_put_same hd hta, val_put_other hd (hother j hj hji)]
              obtain ⟨b, hb1, hb2⟩ := hI.mkv j hj hmj (((getD_set hil).1 hlj).resolve_left hji)
              rw [hb1, (hmk hmk').1]
              intro e
              simp at e
              omega
            · rw [val_put_other hd (hother j hj hji), val_put_other hd (hother k hk hki)]
              exact hI.mkd j k hj hk hne hmj hmk' (((getD_set hil).1 hlj).resolve_left hji) (((getD_set hil).1 hlk).resolve_left hki)
end

end Go.Lax
