/-
  YgcoaaGreatLaxB, made handy: calls that return some value, allocations, then the stores.
-/
import Derived.Test.YgcoaaGreatLaxC
import Derived.Test.YgcoaaGreatRebase
set_option linter.unusedVariables false
namespace Go.LaxA
open Go.RowKit Go.Mix Go.Lax
open Go.Proofs.YgcoaaGreat.NatW (Later Ret)

abbrev ptr (b : Nat) : Value := .pointer (some ⟨b, 0, none⟩)
def KA (S : List (Nat × (Value → Prop))) (A : List Nat) (k : Nat) : Bool := isAt S k || A.contains k
def psiA (S : List (Nat × (Value → Prop))) (A : List Nat) (k : Nat) (v : Value) : Prop := if A.contains k then ∃ b, v = ptr b else psi S k v
def thtA (wb : World) (A : List Nat) (obj : Obj) (k : Nat) (v : Value) (w : World) : Prop := if A.contains k then ∃ b, v = ptr b ∧ wb.heap.size ≤ b ∧ w.heap[b]? = some obj else True
def mkA (A : List Nat) (k : Nat) : Bool := A.contains k

theorem thtA_ptr {wb : World} {A : List Nat} {obj : Obj} {k b : Nat} {w : World} (h : thtA wb A obj k (ptr b) w) (hk : A.contains k = true) : wb.heap.size ≤ b ∧ w.heap[b]? = some obj := by
  unfold thtA at h
  rw [if_pos hk] at h
  obtain ⟨c, hc, h1⟩ := h
  simp at hc
  subst hc
  exact h1

section
variable {P : Program} {Q : Exit → Act → World → Prop} {a0 : Act} {wb : World} {S : List (Nat × (Value → Prop))} {A : List Nat} {obj : Obj}

theorem region_allocs {id : Nat} {l : List Oper} (x : Later wb) (n0 f : Nat) (S : List (Nat × (Value → Prop))) (A : List Nat) (obj : Obj) (hm : P.follows .mixedOrders = true) (hB : shapeB l.toArray n0 f = true)
    (hin : ((List.range n0).all fun i => match dst l.toArray i with | some t => decide (t < a0.tmps.size) | none => true) = true)
    (hex : ∀ p ∈ S, ∃ v, p.2 v)
    (h : Walk P l.toArray Q (KA S A) (psiA S A) (thtA wb A obj) (mkA A) wb n0 l 0 a0 [] []) : (Code.region id l.toArray true).wp P Q a0 x.at_ := by
  refine wp_region_lax_at n0 f (KA S A) (psiA S A) (thtA wb A obj) (mkA A) hm hB hin x.ok ?_ ?_ (fun k hk => by unfold KA; unfold mkA at hk; rw [hk, Bool.or_true]) h
  · intro i v w w' _ _ ht hb
    unfold thtA at ht ⊢
    split
    · rename_i hc
      rw [if_pos hc] at ht
      obtain ⟨b, h1, h2, h3⟩ := ht
      exact ⟨b, h1, h2, by rw [hb.block b (Array.getElem?_eq_some_iff.1 h3).1]; exact h3⟩
    · trivial
  · intro k hk hK
    unfold psiA
    split
    · exact ⟨_, 0, rfl⟩
    · rename_i hc
      unfold KA isAt at hK
      unfold psi
      cases hl : S.lookup k with
      | none => exact ⟨undef, trivial⟩
      | some φ =>
        have hmem : (k, φ) ∈ S := by
          clear hK h hB hin
          induction S with
          | nil => simp at hl
          | cons p S ih =>
            obtain ⟨j, ψ⟩ := p
            rw [List.lookup_cons] at hl
            split at hl
            · rename_i hkj
              have : k = j := by simpa using hkj
              simp at hl
              subst this; subst hl; simp
            · exact List.mem_cons_of_mem _ (ih (fun p hp => hex p (List.mem_cons_of_mem _ hp)) hl)
        exact hex _ hmem

theorem call_at {ops : Array Oper} {m k : Nat} {o : Oper} {rest : List Oper} {a : Act} {D : List Value} {Γ : List (Nat × (World → Prop))} (hk : KA S A k = true) (hA : A.contains k = false)
    (h2 : ∀ v, psi S k v → wpQuiet P ops (fun _ => True) (fun a__ => Walk P ops Q (KA S A) (psiA S A) (thtA wb A obj) (mkA A) wb m rest (k + 1) a__ ((k, thtA wb A obj k v) :: Γ) D) [{ dst := o.dst, op := .move (.const v), type := 0, pos := "", after := #[], guard := none }] a)
    (h1 : ∀ (y : Later wb) (K : Act → World → Prop), (∀ v w', psi S k v → Below y.at_.heap.size y.at_ w' → K (a.put o.dst v) w') → wpList P ops (fun e a' w' => e = .normal ∧ K a' w') [o] a y.at_) : Walk P ops Q (KA S A) (psiA S A) (thtA wb A obj) (mkA A) wb (m + 1) (o :: rest) k a Γ D := by
  have hp : ∀ v, psiA S A k v = psi S k v := fun v => by unfold psiA; rw [if_neg (by rw [hA]; simp)]
  have hm : mkA A k = false := hA
  refine walk_call hk (fun w hb _ => ?_) (fun v hv => by rw [hm]; exact Go.Lax.mv_on (h2 v (by rw [← hp]; exact hv)))
  exact h1 ⟨w, hb⟩ (fun a' w' => ∃ v, a' = a.put o.dst v ∧ fact (psiA S A) (thtA wb A obj) (mkA A) k w v w' ∧ Below w.heap.size w w') fun v w' hv hb' => ⟨v, rfl, ⟨by rw [hp]; exact hv, by unfold thtA; rw [if_neg (by rw [hA]; simp)]; trivial, fun h => by rw [hm] at h; cases h⟩, hb'⟩

theorem alloc_at {ops : Array Oper} {m k : Nat} {o : Oper} {rest : List Oper} {a : Act} {D : List Value} {Γ : List (Nat × (World → Prop))} (hA : A.contains k = true)
    (h2 : ∀ b, wpQuiet P ops (fun _ => True) (fun a__ => Walk P ops Q (KA S A) (psiA S A) (thtA wb A obj) (mkA A) wb m rest (k + 1) a__ ((k, thtA wb A obj k (ptr b)) :: Γ) (ptr b :: D)) [{ dst := o.dst, op := .move (.const (ptr b)), type := 0, pos := "", after := #[], guard := none }] a)
    (h1 : ∀ (y : Later wb) (K : Act → World → Prop), K (a.put o.dst (ptr y.at_.heap.size)) (y.at_.alloc obj) → wpList P ops (fun e a' w' => e = .normal ∧ K a' w') [o] a y.at_) : Walk P ops Q (KA S A) (psiA S A) (thtA wb A obj) (mkA A) wb (m + 1) (o :: rest) k a Γ D := by
  have hm : mkA A k = true := hA
  refine walk_call (by unfold KA; rw [hA, Bool.or_true]) (fun w hb _ => ?_) (fun v hv => ?_)
  · refine h1 ⟨w, hb⟩ (fun a' w' => ∃ v, a' = a.put o.dst v ∧ fact (psiA S A) (thtA wb A obj) (mkA A) k w v w' ∧ Below w.heap.size w w') ⟨_, rfl, ⟨?_, ?_, ?_⟩, (Below.refl _ _).alloc (Nat.le_refl _) _⟩
    · unfold psiA; rw [if_pos hA]; exact ⟨_, rfl⟩
    · unfold thtA; rw [if_pos hA]; exact ⟨_, rfl, hb.size, heap_alloc_new _ _⟩
    · exact fun _ => ⟨rfl, by simp⟩
  · unfold psiA at hv
    rw [if_pos hA] at hv
    obtain ⟨b, rfl⟩ := hv
    rw [hm]
    exact Go.Lax.mv_on (h2 b)

theorem end_at {ops : Array Oper} {k : Nat} {rest : List Oper} {a : Act} {Γ : List (Nat × (World → Prop))} {D : List Value} {K : Nat → Bool} {Ψ : Nat → Value → Prop} {Θ : Nat → Value → World → Prop} {mk : Nat → Bool}
    (h : ∀ y : Later wb, (∀ p ∈ Γ, p.2 y.at_) → D.Pairwise (· ≠ ·) → wpList P ops Q rest a y.at_) : Walk P ops Q K Ψ Θ mk wb 0 rest k a Γ D := fun w hb h1 h2 => h ⟨w, hb⟩ h1 h2
end




end Go.LaxA
