/-
  Regions of any order: calls whose answers lie in memory (a fact of the world that lasts), and stores into memory of the function's own.
-/
import Derived.Test.YgcoaaGreatLaxO
set_option linter.unusedVariables false
set_option linter.unusedSimpArgs false
namespace Go.LaxS
open Go.RowKit Go.Mix Go.Lax
open Go.Proofs.YgcoaaGreat.NatW (Later Ret)

def theta (T : List (Nat × (Value → World → Prop))) (k : Nat) (v : Value) (w : World) : Prop := match T.lookup k with | some θ => θ v w | none => True
def parG (S : List (Nat × (Value → Prop))) (T : List (Nat × (Value → World → Prop))) (st : List Nat) (I : World → Prop) : Par :=
  { K := fun k => isAt S k || st.contains k, sil := fun k => st.contains k, Ψ := psi S, Θ := theta T, I := I }

theorem lookup_mem {α : Type} {S : List (Nat × α)} {k : Nat} {φ : α} (hl : S.lookup k = some φ) : (k, φ) ∈ S := by
  induction S with
  | nil => simp at hl
  | cons p S ih =>
    obtain ⟨j, ψ⟩ := p
    rw [List.lookup_cons] at hl
    split at hl
    · rename_i hkj
      have : k = j := by simpa using hkj
      simp at hl
      subst this; subst hl; simp
    · exact List.mem_cons_of_mem _ (ih hl)

section
variable {P : Program} {Q : Exit → Act → World → Prop} {a0 : Act} {wb : World} {S : List (Nat × (Value → Prop))} {T : List (Nat × (Value → World → Prop))} {st : List Nat} {I : World → Prop}

theorem region_gen {id : Nat} {l : List Oper} (x : Later wb) (n0 f : Nat) (S : List (Nat × (Value → Prop))) (T : List (Nat × (Value → World → Prop))) (st : List Nat) (I : World → Prop) (hm : P.follows .mixedOrders = true) (hB : shapeSB l.toArray n0 f = true)
    (hin : ((List.range n0).all fun i => match dst l.toArray i with | some t => decide (t < a0.tmps.size) | none => true) = true)
    (hst : (List.range n0).all (fun k => !(isAt S k || st.contains k) || (match dst l.toArray k with | none => !isAt S k | some _ => true)) = true)
    (hI0 : I x.at_) (hI : ∀ w w', I w → Below w.heap.size w w' → I w') (hT : ∀ p ∈ T, ∀ v w w', p.2 v w → Below w.heap.size w w' → p.2 v w') (hex : ∀ p ∈ S, ∃ v, p.2 v)
    (h : Walk P l.toArray Q (parG S T st I) wb n0 l 0 a0 []) : (Code.region id l.toArray true).wp P Q a0 x.at_ := by
  refine wp_region_laxS x n0 f (parG S T st I) hm hB hin hI0 hI (fun w hw => hI _ _ hw (Below.refl _ w).drew) ?_ ?_ h
  · intro i v w w' ht hb
    show theta T i v w'
    have ht' : theta T i v w := ht
    unfold theta at ht' ⊢
    cases hl : T.lookup i with
    | none => trivial
    | some θ =>
      rw [hl] at ht'
      exact hT _ (lookup_mem hl) v w w' ht' hb
  intro k hk hK
  have hs := (List.all_eq_true.1 hst) k (List.mem_range.2 hk)
  have hK' : (isAt S k || st.contains k) = true := hK
  rw [hK'] at hs
  simp only [Bool.not_true, Bool.false_or] at hs
  show ∃ v, psi S k v ∧ _
  cases hl : S.lookup k with
  | none => exact ⟨undef, by unfold psi; rw [hl]; trivial, fun _ => rfl⟩
  | some φ =>
    have hd : dst l.toArray k ≠ none := by
      intro hd
      rw [hd] at hs
      simp [isAt, hl] at hs
    obtain ⟨v, hv⟩ := hex _ (lookup_mem hl)
    exact ⟨v, by unfold psi; rw [hl]; exact hv, fun h => absurd h hd⟩

theorem gen_call {ops : Array Oper} {m k : Nat} {o : Oper} {rest : List Oper} {a : Act} {Γ : List (Nat × (World → Prop))} (hk : (isAt S k || st.contains k) = true) (hs : st.contains k = false) (hd : o.dst.isSome = true) (hI : ∀ w w', I w → Below w.heap.size w w' → I w')
    (h2 : ∀ v, psi S k v → wpQuiet P ops (fun _ => True) (fun a__ => Walk P ops Q (parG S T st I) wb m rest (k + 1) a__ ((k, theta T k v) :: Γ)) [{ dst := o.dst, op := .move (.const v), type := 0, pos := "", after := #[], guard := none }] a)
    (h1 : ∀ (y : Later wb) (K : Act → World → Prop), I y.at_ → (∀ q ∈ Γ, depOn o q.1 = true → q.2 y.at_) → (∀ v w', psi S k v → theta T k v w' → Below y.at_.heap.size y.at_ w' → K (a.put o.dst v) w') → wpList P ops (fun e a' w' => e = .normal ∧ K a' w') [o] a y.at_) : Walk P ops Q (parG S T st I) wb (m + 1) (o :: rest) k a Γ := by
  refine walk_call hk (fun h => by rw [h] at hd; cases hd) (fun x hIx hG => ?_) (fun v hv _ => Go.Lax.mv_on (h2 v hv))
  exact h1 x (fun a' w' => ∃ v, a' = a.put o.dst v ∧ _) hIx hG fun v w' hv ht hb' => ⟨v, rfl, hv, ht, x.ok.trans (hb'.mono x.ok.size), hI _ _ hIx hb', by
    show Rl (parG S T st I) k x.at_ w'
    unfold Rl parG
    simp only [hs]
    exact hb', fun h => by rw [h] at hd; cases hd⟩

/-- A call that writes (the dice): it yields a value and keeps I and the facts. -/
theorem gen_sil {ops : Array Oper} {m k : Nat} {o : Oper} {rest : List Oper} {a : Act} {Γ : List (Nat × (World → Prop))} (hk : (isAt S k || st.contains k) = true) (hs : st.contains k = true) (hd : o.dst.isSome = true)
    (h2 : ∀ v, psi S k v → wpQuiet P ops (fun _ => True) (fun a__ => Walk P ops Q (parG S T st I) wb m rest (k + 1) a__ ((k, theta T k v) :: Γ)) [{ dst := o.dst, op := .move (.const v), type := 0, pos := "", after := #[], guard := none }] a)
    (h1 : ∀ (y : Later wb) (K : Act → World → Prop), I y.at_ → (∀ q ∈ Γ, depOn o q.1 = true → q.2 y.at_) → (∀ v w', psi S k v → theta T k v w' → Below wb.heap.size wb w' → I w' → (∀ i u, i ≠ k → theta T i u y.at_ → theta T i u w') → K (a.put o.dst v) w') → wpList P ops (fun e a' w' => e = .normal ∧ K a' w') [o] a y.at_) : Walk P ops Q (parG S T st I) wb (m + 1) (o :: rest) k a Γ := by
  refine walk_call hk (fun h => by rw [h] at hd; cases hd) (fun x hIx hG => ?_) (fun v hv _ => Go.Lax.mv_on (h2 v hv))
  exact h1 x (fun a' w' => ∃ v, a' = a.put o.dst v ∧ _) hIx hG fun v w' hv ht hb' hI' hkeep => ⟨v, rfl, hv, ht, hb', hI', by
    show Rl (parG S T st I) k x.at_ w'
    unfold Rl parG
    simp only [hs, if_true]
    exact hkeep, fun h => by rw [h] at hd; cases hd⟩

theorem gen_store {ops : Array Oper} {m k : Nat} {o : Oper} {rest : List Oper} {a : Act} {Γ : List (Nat × (World → Prop))} (hk : st.contains k = true) (hS : S.lookup k = none) (hTk : T.lookup k = none) (hd : o.dst = none) (hs : isStore o = true)
    (h2 : Walk P ops Q (parG S T st I) wb m rest (k + 1) a ((k, theta T k undef) :: Γ))
    (h1 : ∀ (y : Later wb) (K : Act → World → Prop), I y.at_ → (∀ q ∈ Γ, depOn o q.1 = true → q.2 y.at_) → (∀ w', Below wb.heap.size wb w' → I w' → (∀ i u, i ≠ k → theta T i u y.at_ → theta T i u w') → K a w') → wpList P ops (fun e a' w' => e = .normal ∧ K a' w') [o] a y.at_) : Walk P ops Q (parG S T st I) wb (m + 1) (o :: rest) k a Γ := by
  refine walk_call (by show (isAt S k || st.contains k) = true; rw [hk, Bool.or_true]) (fun _ => hs) (fun x hIx hG => ?_) (fun v hv hu => by rw [hu hd, hd]; exact h2)
  refine h1 x (fun a' w' => ∃ v, a' = a.put o.dst v ∧ _) hIx hG fun w' hb hI' hkeep => ⟨undef, by rw [hd]; rfl, ?_, ?_, hb, hI', ?_, fun _ => rfl⟩
  · show psi S k undef
    unfold psi
    rw [hS]
    trivial
  · show theta T k undef w'
    unfold theta
    rw [hTk]
    trivial
  · show Rl (parG S T st I) k x.at_ w'
    unfold Rl parG
    simp only [hk, if_true]
    exact hkeep

theorem gen_end {ops : Array Oper} {k : Nat} {rest : List Oper} {a : Act} {Γ : List (Nat × (World → Prop))} (h : ∀ x : Later wb, I x.at_ → (∀ q ∈ Γ, q.2 x.at_) → wpList P ops Q rest a x.at_) : Walk P ops Q (parG S T st I) wb 0 rest k a Γ := h
end


end Go.LaxS
