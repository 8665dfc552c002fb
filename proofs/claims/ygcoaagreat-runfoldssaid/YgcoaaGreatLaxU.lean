/-
  YgcoaaGreatLaxT, made handy: calls that return some value, stores into a box of the function's own of which an invariant is kept.
-/
import Derived.Test.YgcoaaGreatLaxT
import Derived.Test.YgcoaaGreatRebase
set_option linter.unusedVariables false
namespace Go.LaxS
open Go.RowKit Go.Mix Go.Lax
open Go.Proofs.YgcoaaGreat.NatW (Later Ret)

/-- The facts of the calls by a list; the stores by their numbers; what is kept. -/
def par (S : List (Nat × (Value → Prop))) (st : List Nat) (I : World → Prop) : Par :=
  { K := fun k => isAt S k || st.contains k, sil := fun k => st.contains k, Ψ := psi S, Θ := fun _ _ _ => True, I := I }

section
variable {P : Program} {Q : Exit → Act → World → Prop} {a0 : Act} {wb : World} {S : List (Nat × (Value → Prop))} {st : List Nat} {I : World → Prop}

theorem region_stores {id : Nat} {l : List Oper} (x : Later wb) (n0 f : Nat) (S : List (Nat × (Value → Prop))) (st : List Nat) (I : World → Prop) (hm : P.follows .mixedOrders = true) (hB : shapeSB l.toArray n0 f = true)
    (hin : ((List.range n0).all fun i => match dst l.toArray i with | some t => decide (t < a0.tmps.size) | none => true) = true)
    (hst : (List.range n0).all (fun k => !(isAt S k || st.contains k) || (match dst l.toArray k with | none => !isAt S k | some _ => true)) = true)
    (hI0 : I x.at_) (hI : ∀ w w', I w → Below w.heap.size w w' → I w') (hex : ∀ p ∈ S, ∃ v, p.2 v)
    (h : Walk P l.toArray Q (par S st I) wb n0 l 0 a0 []) : (Code.region id l.toArray true).wp P Q a0 x.at_ := by
  refine wp_region_laxS x n0 f (par S st I) hm hB hin hI0 hI (fun w hw => hI _ _ hw (Below.refl _ w).drew) (fun _ _ _ _ _ _ => trivial) ?_ h
  intro k hk hK
  have hs := (List.all_eq_true.1 hst) k (List.mem_range.2 hk)
  have hK' : (isAt S k || st.contains k) = true := hK
  rw [hK'] at hs
  simp only [Bool.not_true, Bool.false_or] at hs
  show ∃ v, psi S k v ∧ _
  cases hl : S.lookup k with
  | none => exact ⟨undef, by unfold psi; rw [hl]; trivial, fun _ => rfl⟩
  | some φ =>
    have hd : dst l.toArray k ≠ none := by
      intro hd
      rw [hd] at hs
      simp [isAt, hl] at hs
    have hmem : (k, φ) ∈ S := by
      clear hK h hB hin hs hst hK'
      induction S with
      | nil => simp at hl
      | cons p S ih =>
        obtain ⟨j, ψ⟩ := p
        rw [List.lookup_cons] at hl
        split at hl
        · rename_i hkj
          have : k = j := by simpa using hkj
          simp at hl
          subst this; subst hl; simp
        · exact List.mem_cons_of_mem _ (ih (fun p hp => hex p (List.mem_cons_of_mem _ hp)) hl)
    obtain ⟨v, hv⟩ := hex _ hmem
    exact ⟨v, by unfold psi; rw [hl]; exact hv, fun h => absurd h hd⟩

theorem call_at {ops : Array Oper} {m k : Nat} {o : Oper} {rest : List Oper} {a : Act} {Γ : List (Nat × (World → Prop))} (hk : (isAt S k || st.contains k) = true) (hs : st.contains k = false) (hd : o.dst.isSome = true) (hI : ∀ w w', I w → Below w.heap.size w w' → I w')
    (h2 : ∀ v, psi S k v → wpQuiet P ops (fun _ => True) (fun a__ => Walk P ops Q (par S st I) wb m rest (k + 1) a__ ((k, fun _ => True) :: Γ)) [{ dst := o.dst, op := .move (.const v), type := 0, pos := "", after := #[], guard := none }] a)
    (h1 : ∀ (y : Later wb) (K : Act → World → Prop), (∀ v w', psi S k v → Below y.at_.heap.size y.at_ w' → K (a.put o.dst v) w') → wpList P ops (fun e a' w' => e = .normal ∧ K a' w') [o] a y.at_) : Walk P ops Q (par S st I) wb (m + 1) (o :: rest) k a Γ := by
  refine walk_call hk (fun h => by rw [h] at hd; cases hd) (fun x hIx _ => ?_) (fun v hv _ => Go.Lax.mv_on (h2 v hv))
  exact h1 x (fun a' w' => ∃ v, a' = a.put o.dst v ∧ _) fun v w' hv hb' => ⟨v, rfl, hv, trivial, x.ok.trans (hb'.mono x.ok.size), hI _ _ hIx hb', by
    show Rl (par S st I) k x.at_ w'
    unfold Rl par
    simp only [hs]
    exact hb', fun h => by rw [h] at hd; cases hd⟩

theorem store_at {ops : Array Oper} {m k : Nat} {o : Oper} {rest : List Oper} {a : Act} {Γ : List (Nat × (World → Prop))} (hk : st.contains k = true) (hS : S.lookup k = none) (hd : o.dst = none) (hs : isStore o = true)
    (h2 : Walk P ops Q (par S st I) wb m rest (k + 1) a ((k, fun _ => True) :: Γ))
    (h1 : ∀ (y : Later wb) (K : Act → World → Prop), I y.at_ → (∀ w', Below wb.heap.size wb w' → I w' → K a w') → wpList P ops (fun e a' w' => e = .normal ∧ K a' w') [o] a y.at_) : Walk P ops Q (par S st I) wb (m + 1) (o :: rest) k a Γ := by
  refine walk_call (by show (isAt S k || st.contains k) = true; rw [hk, Bool.or_true]) (fun _ => hs) (fun x hIx _ => ?_) (fun v hv _ => by rw [hd]; exact h2)
  refine h1 x (fun a' w' => ∃ v, a' = a.put o.dst v ∧ _) hIx fun w' hb hI' => ⟨undef, by rw [hd]; rfl, ?_, trivial, hb, hI', ?_, fun _ => rfl⟩
  · show psi S k undef
    unfold psi
    rw [hS]
    trivial
  · show Rl (par S st I) k x.at_ w'
    unfold Rl par
    simp only [hk, if_true]
    exact fun _ _ _ _ => trivial
end



end Go.LaxS
