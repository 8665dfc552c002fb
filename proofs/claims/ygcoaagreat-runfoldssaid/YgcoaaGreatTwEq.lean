/-
  Two runs of one text: '==' of structs and arrays whose parts are bools, integers and strings.
-/
import Derived.Test.YgcoaaGreatTwV
set_option linter.unusedVariables false
set_option linter.unusedSimpArgs false
namespace Go.Tw
section
variable {st : Bool} {P : Program} {β : Rel}

/-- A type of one cell that holds no place. -/
def leafT (P : Program) (t : TypeId) : Bool := noCC P t && (match P.underlying t with | some .bool | some (.int _) | some .string => true | _ => false)

theorem SR.leafPtr {d : Nat} {t : TypeId} {a a' b b' : Addr} (hG : P.globals.size ≤ 1) (hl : leafT P t = true) (ha : adr β a a') (hb : adr β b b') :
    SR st P (fun _ a b => a = b) β (Op.equalIn (d + 1) t (.pointer (some a)) (.pointer (some b))) (Op.equalIn (d + 1) t (.pointer (some a')) (.pointer (some b'))) := by
  simp only [leafT, Bool.and_eq_true] at hl
  obtain ⟨hcc, hl⟩ := hl
  refine SR.under fun d hd => ?_
  rw [hd] at hl
  cases d <;> first
    | exact SR.dead rfl rfl
    | (exfalso; simp at hl; done)
    | skip
  refine SR.behind ha fun c c' l hc => ?_
  refine SR.behind hb fun d d' l2 hd => ?_
  have f1 : (c.block == d.block && decide (c.block < P.globals.size)) = false := by
    have := hc.2.2.2.1
    simp only [Bool.and_eq_false_iff, decide_eq_false_iff_not]
    exact .inr (by omega)
  have f2 : (c'.block == d'.block && decide (c'.block < P.globals.size)) = false := by
    have := hc.2.2.2.2
    simp only [Bool.and_eq_false_iff, decide_eq_false_iff_not]
    exact .inr (by omega)
  show SR st P _ β (if (c.block == d.block && decide (c.block < P.globals.size)) = true then _ else _) (if (c'.block == d'.block && decide (c'.block < P.globals.size)) = true then _ else _)
  rw [f1, f2]
  refine SR.info fun i hi => ?_
  unfold noCC at hcc
  rw [hi] at hcc
  dsimp only at hcc ⊢
  split
  · rename_i e
    rw [e] at hcc
    exact absurd hcc (by simp)
  · exact SR.dead rfl rfl

set_option maxHeartbeats 4000000 in
theorem SR.leaf {d : Nat} {t : TypeId} {x x' y y' : Value} (hG : P.globals.size ≤ 1) (hl : leafT P t = true) (hx : one β x x') (hy : one β y y') : SR st P (fun _ a b => a = b) β (Op.equalIn (d + 1) t x y) (Op.equalIn (d + 1) t x' y') := by
  have hl2 : (match P.underlying t with | some .bool | some (.int _) | some .string => true | _ => false) = true := by
    simp only [leafT, Bool.and_eq_true] at hl
    exact hl.2
  rcases one_kinds hx with ⟨b, rfl, rfl⟩ | ⟨k, (_ | n) | n, rfl, rfl⟩ | ⟨s, rfl, rfl⟩ | ⟨_ | a, _ | a', rfl, rfl, ha⟩ | ⟨_ | a, _ | a', n, c, rfl, rfl, ha⟩ | ⟨f, rfl, rfl⟩ | ⟨rfl, rfl⟩ | ⟨a, a', rfl, rfl, ha⟩ <;>
  rcases one_kinds hy with ⟨b2, rfl, rfl⟩ | ⟨k2, (_ | n2) | n2, rfl, rfl⟩ | ⟨s2, rfl, rfl⟩ | ⟨_ | c2, _ | c2', rfl, rfl, hc⟩ | ⟨_ | c2, _ | c2', n2, d2, rfl, rfl, hc⟩ | ⟨f2, rfl, rfl⟩ | ⟨rfl, rfl⟩ | ⟨c2, c2', rfl, rfl, hc⟩
  all_goals first
    | exact ha.elim
    | exact hc.elim
    | exact SR.leafPtr hG hl ha hc
    | (refine SR.under fun d hd => ?_
       rw [hd] at hl2
       cases d <;> first
         | (exfalso; simp at hl2; done)
         | exact SR.dead rfl rfl
         | exact rfl
         | (by_cases e : k = k2 <;> simp only [e, if_true, if_false] <;> first | exact rfl | exact SR.dead rfl rfl))

theorem SR.forIn {α σ : Type} {body body' : α → σ → Sem (ForInStep σ)} : ∀ {l : List α} {β : Rel} {s : σ}, (∀ (β' : Rel) f, f ∈ l → Le β β' → ∀ s, SR st P (fun _ a b => a = b) β' (body f s) (body' f s)) → SR st P (fun _ a b => a = b) β (forIn l s body) (forIn l s body')
  | [], β, s, h => by rw [List.forIn_nil, List.forIn_nil]; exact rfl
  | x :: l, β, s, h => by
    rw [List.forIn_cons, List.forIn_cons]
    refine SR.bind' (h β x (by simp) (Le.refl β) s) fun β' r r' hle e => ?_
    subst e
    cases r with
    | done r => exact rfl
    | yield r => exact SR.forIn fun β'' f hf hle' s => h β'' f (by simp [hf]) (hle.trans hle') s

theorem SR.range {σ : Type} {n : Nat} {body body' : Nat → σ → Sem (ForInStep σ)} {β : Rel} {s : σ} (h : ∀ (β' : Rel) i, Le β β' → ∀ s, SR st P (fun _ a b => a = b) β' (body i s) (body' i s)) : SR st P (fun _ a b => a = b) β (ForIn.forIn [0:n] s body) (ForIn.forIn [0:n] s body') := by
  rw [Std.Legacy.Range.forIn_eq_forIn_range', Std.Legacy.Range.forIn_eq_forIn_range']
  exact SR.forIn fun β' f _ hle s => h β' f hle s

/-- A struct or an array of such. -/
def flatT (P : Program) (t : TypeId) : Bool := match P.underlying t with
  | some (.struct fs) => !P.stoodInHeld t && fs.all fun f => leafT P f.type
  | some (.array _ e) => leafT P e
  | _ => false

theorem eqOk_flat {t : TypeId} (hG : P.globals.size ≤ 1) (h : flatT P t = true) : EqOk P t := by
  intro st β xs xs' ys ys' hx hy
  show SR st P _ β (Op.equalIn (9998 + 1 + 1) t (.agg xs) (.agg ys)) (Op.equalIn (9998 + 1 + 1) t (.agg xs') (.agg ys'))
  refine SR.under fun d hd => ?_
  unfold flatT at h
  rw [hd] at h
  cases d <;> first | (exfalso; simp at h; done) | skip
  · rename_i n e
    refine SR.size fun m => ?_
    refine SR.bind' (SR.range fun β' i hle s => ?_) fun β' r r' hle e => ?_
    · refine SR.bind' (SR.part (arr.mono (fun _ _ => cel.mono hle) hx)) fun β2 u u' hle2 hu => ?_
      refine SR.bind' (SR.part (arr.mono (fun _ _ => cel.mono (hle.trans hle2)) hy)) fun β3 v v' hle3 hv => ?_
      refine SR.bind' (SR.leaf hG h (one.mono hle3 hu) hv) fun β4 r r' hle4 e => ?_
      subst e
      cases r <;> exact rfl
    · subst e
      obtain ⟨r1, r2⟩ := r
      cases r1 <;> exact rfl
  · rename_i fs
    simp only [Bool.and_eq_true, Bool.not_eq_true', Array.all_eq_true_iff_forall_mem] at h
    obtain ⟨h1, h2⟩ := h
    show SR st P _ β (if P.stoodInHeld t = true then _ else _) (if P.stoodInHeld t = true then _ else _)
    rw [h1]
    simp only [Bool.false_eq_true, if_false]
    rw [← Array.forIn_toList, ← Array.forIn_toList]
    refine SR.bind' (SR.forIn fun β' f hf hle s => ?_) fun β' r r' hle e => ?_
    · have hfl := h2 f (by simpa using hf)
      by_cases hn : f.name ≠ "_"
      · simp only [hn, ne_eq, not_false_eq_true, if_true]
        refine SR.bind' (SR.part (arr.mono (fun _ _ => cel.mono hle) hx)) fun β2 u u' hle2 hu => ?_
        refine SR.bind' (SR.part (arr.mono (fun _ _ => cel.mono (hle.trans hle2)) hy)) fun β3 v v' hle3 hv => ?_
        refine SR.bind' (SR.leaf hG hfl (one.mono hle3 hu) hv) fun β4 r r' hle4 e => ?_
        subst e
        cases r <;> exact rfl
      · simp only [hn, if_false]
        exact rfl
    · subst e
      obtain ⟨r1, r2⟩ := r
      cases r1 <;> exact rfl
end
end Go.Tw
