/-
  Regions m.Out = append(m.Out, f(..)): append among the operations of any order.
-/
import Derived.Test.YgcoaaGreatLaxW
import Derived.Test.YgcoaaGreatAppK
set_option linter.unusedVariables false
set_option linter.unusedSimpArgs false
namespace Go.LaxS
open Go.RowKit Go.Mix Go.Lax
open Go.Proofs.YgcoaaGreat.NatW (Later Ret)

/-- Facts of the operations by a list; bs builds the slice of one element, ap appends it. -/
def parO (S : List (Nat × (Value → Prop))) (bs ap : Nat) (I : World → Prop) (B A : Value → World → Prop) : Par :=
  { K := isAt S, sil := fun k => k == ap, Ψ := psi S, Θ := fun k v w => if k = bs then B v w else if k = ap then A v w else True, I := I }

section
variable {P : Program} {Q : Exit → Act → World → Prop} {a0 : Act} {wb : World} {S : List (Nat × (Value → Prop))} {bs ap : Nat} {I : World → Prop} {B A : Value → World → Prop}

theorem region_out {id : Nat} {l : List Oper} (x : Later wb) (n0 f : Nat) (S : List (Nat × (Value → Prop))) (bs ap : Nat) (I : World → Prop) (B A : Value → World → Prop) (hm : P.follows .mixedOrders = true) (hB : shapeSB l.toArray n0 f = true)
    (hin : ((List.range n0).all fun i => match dst l.toArray i with | some t => decide (t < a0.tmps.size) | none => true) = true)
    (hst : (List.range n0).all (fun k => !(isAt S k) || (dst l.toArray k).isSome) = true)
    (hI0 : I x.at_) (hI : ∀ w w', I w → Below w.heap.size w w' → I w') (hBk : ∀ v w w', B v w → Below w.heap.size w w' → B v w') (hAk : ∀ v w w', A v w → Below w.heap.size w w' → A v w') (hex : ∀ p ∈ S, ∃ v, p.2 v)
    (h : Walk P l.toArray Q (parO S bs ap I B A) wb n0 l 0 a0 []) : (Code.region id l.toArray true).wp P Q a0 x.at_ := by
  refine wp_region_laxS x n0 f (parO S bs ap I B A) hm hB hin hI0 hI (fun w hw => hI _ _ hw (Below.refl _ w).drew) ?_ ?_ h
  · intro i v w w' ht hb
    show (if i = bs then B v w' else if i = ap then A v w' else True)
    have ht' : (if i = bs then B v w else if i = ap then A v w else True) := ht
    split
    · rename_i e; rw [if_pos e] at ht'; exact hBk _ _ _ ht' hb
    · rename_i e
      rw [if_neg e] at ht'
      split
      · rename_i e2; rw [if_pos e2] at ht'; exact hAk _ _ _ ht' hb
      · trivial
  intro k hk hK
  have hs := (List.all_eq_true.1 hst) k (List.mem_range.2 hk)
  have hK' : isAt S k = true := hK
  rw [hK'] at hs
  simp only [Bool.not_true, Bool.false_or] at hs
  show ∃ v, psi S k v ∧ _
  have hd : dst l.toArray k ≠ none := fun hd => by rw [hd] at hs; cases hs
  cases hl : S.lookup k with
  | none => simp [isAt, hl] at hK'
  | some φ =>
    have hmem : (k, φ) ∈ S := by
      clear hK h hB hin hs hst hK'
      induction S with
      | nil => simp at hl
      | cons p S ih =>
        obtain ⟨j, ψ⟩ := p
        rw [List.lookup_cons] at hl
        split at hl
        · rename_i hkj
          have : k = j := by simpa using hkj
          simp at hl
          subst this; subst hl; simp
        · exact List.mem_cons_of_mem _ (ih (fun p hp => hex p (List.mem_cons_of_mem _ hp)) hl)
    obtain ⟨v, hv⟩ := hex _ hmem
    exact ⟨v, by unfold psi; rw [hl]; exact hv, fun h => absurd h hd⟩

theorem out_call {ops : Array Oper} {m k : Nat} {o : Oper} {rest : List Oper} {a : Act} {Γ : List (Nat × (World → Prop))} (hk : isAt S k = true) (hnb : k ≠ bs) (hna : k ≠ ap) (hd : o.dst.isSome = true) (hI : ∀ w w', I w → Below w.heap.size w w' → I w')
    (h2 : ∀ v, psi S k v → wpQuiet P ops (fun _ => True) (fun a__ => Walk P ops Q (parO S bs ap I B A) wb m rest (k + 1) a__ ((k, (parO S bs ap I B A).Θ k v) :: Γ)) [{ dst := o.dst, op := .move (.const v), type := 0, pos := "", after := #[], guard := none }] a)
    (h1 : ∀ (y : Later wb) (K : Act → World → Prop), I y.at_ → (∀ v w', psi S k v → Below y.at_.heap.size y.at_ w' → K (a.put o.dst v) w') → wpList P ops (fun e a' w' => e = .normal ∧ K a' w') [o] a y.at_) : Walk P ops Q (parO S bs ap I B A) wb (m + 1) (o :: rest) k a Γ := by
  refine walk_call hk (fun h => by rw [h] at hd; cases hd) (fun x hIx _ => ?_) (fun v hv _ => Go.Lax.mv_on (h2 v hv))
  exact h1 x (fun a' w' => ∃ v, a' = a.put o.dst v ∧ _) hIx fun v w' hv hb' => ⟨v, rfl, hv, by
    show (if k = bs then B v w' else if k = ap then A v w' else True)
    rw [if_neg hnb, if_neg hna]; trivial, x.ok.trans (hb'.mono x.ok.size), hI _ _ hIx hb', by
    show Rl (parO S bs ap I B A) k x.at_ w'
    unfold Rl parO
    simp only [beq_iff_eq, hna, if_false]
    exact hb', fun h => by rw [h] at hd; cases hd⟩

theorem out_bs {ops : Array Oper} {m : Nat} {o : Oper} {rest : List Oper} {a : Act} {Γ : List (Nat × (World → Prop))} (hk : isAt S bs = true) (hna : bs ≠ ap) (hd : o.dst.isSome = true) (hI : ∀ w w', I w → Below w.heap.size w w' → I w')
    (h2 : ∀ v, psi S bs v → wpQuiet P ops (fun _ => True) (fun a__ => Walk P ops Q (parO S bs ap I B A) wb m rest (bs + 1) a__ ((bs, (parO S bs ap I B A).Θ bs v) :: Γ)) [{ dst := o.dst, op := .move (.const v), type := 0, pos := "", after := #[], guard := none }] a)
    (h1 : ∀ (y : Later wb) (K : Act → World → Prop), I y.at_ → (∀ v w', psi S bs v → B v w' → Below y.at_.heap.size y.at_ w' → K (a.put o.dst v) w') → wpList P ops (fun e a' w' => e = .normal ∧ K a' w') [o] a y.at_) : Walk P ops Q (parO S bs ap I B A) wb (m + 1) (o :: rest) bs a Γ := by
  refine walk_call hk (fun h => by rw [h] at hd; cases hd) (fun x hIx _ => ?_) (fun v hv _ => Go.Lax.mv_on (h2 v hv))
  exact h1 x (fun a' w' => ∃ v, a' = a.put o.dst v ∧ _) hIx fun v w' hv hB hb' => ⟨v, rfl, hv, by
    show (if bs = bs then B v w' else if bs = ap then A v w' else True)
    rw [if_pos rfl]; exact hB, x.ok.trans (hb'.mono x.ok.size), hI _ _ hIx hb', by
    show Rl (parO S bs ap I B A) bs x.at_ w'
    unfold Rl parO
    simp only [beq_iff_eq, hna, if_false]
    exact hb', fun h => by rw [h] at hd; cases hd⟩

theorem out_ap {ops : Array Oper} {m : Nat} {o : Oper} {rest : List Oper} {a : Act} {Γ : List (Nat × (World → Prop))} (vb : Value) (hk : isAt S ap = true) (hna : bs ≠ ap) (hd : o.dst.isSome = true)
    (hdep : depOn o bs = true) (hΓ : (bs, (parO S bs ap I B A).Θ bs vb) ∈ Γ)
    (h2 : ∀ v, psi S ap v → wpQuiet P ops (fun _ => True) (fun a__ => Walk P ops Q (parO S bs ap I B A) wb m rest (ap + 1) a__ ((ap, (parO S bs ap I B A).Θ ap v) :: Γ)) [{ dst := o.dst, op := .move (.const v), type := 0, pos := "", after := #[], guard := none }] a)
    (h1 : ∀ (y : Later wb) (K : Act → World → Prop), I y.at_ → B vb y.at_ → (∀ v w', psi S ap v → A v w' → Below wb.heap.size wb w' → I w' → (∀ u, B u y.at_ → B u w') → K (a.put o.dst v) w') → wpList P ops (fun e a' w' => e = .normal ∧ K a' w') [o] a y.at_) : Walk P ops Q (parO S bs ap I B A) wb (m + 1) (o :: rest) ap a Γ := by
  refine walk_call hk (fun h => by rw [h] at hd; cases hd) (fun x hIx hG => ?_) (fun v hv _ => Go.Lax.mv_on (h2 v hv))
  have hB : B vb x.at_ := by
    have : (if bs = bs then B vb x.at_ else if bs = ap then A vb x.at_ else True) := hG _ hΓ hdep
    rwa [if_pos rfl] at this
  exact h1 x (fun a' w' => ∃ v, a' = a.put o.dst v ∧ _) hIx hB fun v w' hv hA hb' hI' hkeep => ⟨v, rfl, hv, by
    show (if ap = bs then B v w' else if ap = ap then A v w' else True)
    rw [if_neg (Ne.symm hna), if_pos rfl]; exact hA, hb', hI', by
    show Rl (parO S bs ap I B A) ap x.at_ w'
    unfold Rl parO
    simp only [beq_self_eq_true, if_true]
    intro i u hi ht
    split
    · rename_i e; rw [if_pos e] at ht; exact hkeep _ ht
    · rename_i e
      rw [if_neg e] at ht
      simp [hi], fun h => by rw [h] at hd; cases hd⟩

theorem out_end {ops : Array Oper} {k : Nat} {rest : List Oper} {a : Act} {Γ : List (Nat × (World → Prop))} (va : Value) (hna : bs ≠ ap) (hΓ : (ap, (parO S bs ap I B A).Θ ap va) ∈ Γ) (h : ∀ x : Later wb, I x.at_ → A va x.at_ → wpList P ops Q rest a x.at_) : Walk P ops Q (parO S bs ap I B A) wb 0 rest k a Γ := by
  intro x hI hG
  have hA : A va x.at_ := by
    have : (if ap = bs then B va x.at_ else if ap = ap then A va x.at_ else True) := hG _ hΓ
    rwa [if_neg (Ne.symm hna), if_pos rfl] at this
  exact h x hI hA
end






end Go.LaxS

namespace Go.Proofs.YgcoaaGreat.NatW
attribute [local go_sem] Go.Instr.field Go.asAgg
open Go.RowKit

def OutI (W : World) (S0 S1 mb n : Nat) (vo : Value) (w : World) : Prop := Own w (mb + 1) 9 vo n isS ∧ S1 ≤ w.heap.size ∧ ∀ k, S0 ≤ k → k < S1 → w.heap[k]? = W.heap[k]?
def OutB (S0 : Nat) (v : Value) (w : World) : Prop := ∃ b s, v = .slice (some ⟨b, 0, none⟩) 1 1 ∧ S0 ≤ b ∧ w.cell? ⟨b, 0, none⟩ = some (.string s)
def OutA (mb n : Nat) (v : Value) (w : World) : Prop := Own w (mb + 1) 9 v (n + 1) isS

theorem OutI.later {W : World} {S0 S1 mb n : Nat} {vo : Value} (w w' : World) (h : OutI W S0 S1 mb n vo w) (hb : Below w.heap.size w w') : OutI W S0 S1 mb n vo w' :=
  ⟨h.1.kept hb, Nat.le_trans h.2.1 hb.size, fun k h0 h1 => (hb.block k (Nat.lt_of_lt_of_le h1 h.2.1)).trans (h.2.2 k h0 h1)⟩
theorem OutB.later {S0 : Nat} (v : Value) (w w' : World) (h : OutB S0 v w) (hb : Below w.heap.size w w') : OutB S0 v w' := by
  obtain ⟨b, s, h1, h2, h3⟩ := h
  exact ⟨b, s, h1, h2, (hb.cell (p := ⟨b, 0, none⟩) (World.block_lt_of_cell? _ _ h3)).trans h3⟩
theorem OutA.later {mb n : Nat} (v : Value) (w w' : World) (h : OutA mb n v w) (hb : Below w.heap.size w w') : OutA mb n v w' := Own.kept h hb
theorem OutI.cell {W : World} {S0 S1 mb n : Nat} {vo : Value} {w : World} (h : OutI W S0 S1 mb n vo w) {k i : Nat} (h0 : S0 ≤ k) (h1 : k < S1) : w.cell? ⟨k, i, none⟩ = W.cell? ⟨k, i, none⟩ := World.cell?_of_block (a := ⟨k, i, none⟩) (h.2.2 k h0 h1)

/-- The append, as the region's law asks. -/
theorem out_app {W : World} {S0 S1 mb n : Nat} {vo : Value} (hg0 : ∀ k, vo.ownBlock = some k → k < S0 ∧ mb + 1 ≤ k) (hn : n ≤ 1000) (hS : mb + 1 ≤ S1) (ty : TypeId) {w : World} (h : OutI W S0 S1 mb n vo w) {vb : Value} (hb : OutB S0 vb w) :
    ∃ v' w', (Builtin.append_ #[87, 87] ty #[vo, vb]).run Oaag.prog w = .ok v' w' ∧ OutA mb n v' w' ∧ OutI W S0 S1 mb n vo w' ∧ (∀ u, OutB S0 u w → OutB S0 u w') ∧ Below (mb + 1) w w' := by
  obtain ⟨b, s, rfl, hS0, hc⟩ := hb
  obtain ⟨v', w', h1, h2, h3, h4⟩ := append_keep w 87 ty 9 (.string ⟨#[]⟩) 16 info9 rfl NatW.u87 (by decide) h.1 b hc rfl ⟨s, rfl⟩ (by omega) (Nat.le_trans hS h.2.1)
  refine ⟨v', w', h1, h2, ⟨h3, ?_, ?_⟩, ?_, ?_⟩
  · exact Nat.le_trans h.2.1 h4.size
  · intro k h5 h6
    refine (h4.block k (Nat.lt_of_lt_of_le h6 h.2.1) fun e => ?_).trans (h.2.2 k h5 h6)
    have := (hg0 k e.symm).1
    omega
  · rintro u ⟨c, t, rfl, e1, e2⟩
    have hlt := World.block_lt_of_cell? _ _ e2
    refine ⟨c, t, rfl, e1, ?_⟩
    rw [← e2]
    refine World.cell?_of_block (a := ⟨c, 0, none⟩) (h4.block c hlt fun e => ?_)
    have := (hg0 c e.symm).1
    omega
  · exact (Below.refl _ _).grown h4 (Nat.le_trans hS h.2.1) (fun k hk => (hg0 k hk).2)

theorem wpList_appO {w : World} {ops : Array Oper} {rest : List Oper} {o : Oper} {a : Act} {Q : Exit → Act → World → Prop} {t : TypeId} {v u : Value} (hgd : o.guard = none) (s x : Operand) (ho : o.op = .call { callee := .builtin .append, args := #[s, x], argTypes := #[t, t] })
    (hs : a.eval s = v) (hx : a.eval x = u) (hrun : ∀ ty, ∃ v'' w'', (Builtin.append_ #[t, t] ty #[v, u]).run Oaag.prog w = .ok v'' w'' ∧ wpList Oaag.prog ops Q rest (a.put o.dst v'') w'') : wpList Oaag.prog ops Q (o :: rest) a w := by
  refine wpList_plain hgd fun K hK => ?_
  obtain ⟨v'', w'', h1, h2⟩ := hrun o.type
  unfold Oper.wp execOp
  simp only [ho, resolve, invoke, builtin, Sem.run_bind, Sem.run_pure, Result.andThen_ok, List.map_toArray, List.map_cons, List.map_nil, hs, hx, h1]
  exact hK _ _ h2

theorem Own.block {w : World} {base n : Nat} {e : TypeId} {v : Value} {p : Value → Prop} (h : Own w base e v n p) (k : Nat) (hk : v.ownBlock = some k) : k < w.heap.size ∧ base ≤ k := by
  obtain ⟨xs, h1, _⟩ := h
  have := h1.lt k hk
  exact ⟨this.2, this.1⟩

/-- A base of the first S blocks. -/
theorem trunc2 (w : World) (S : Nat) (h : S ≤ w.heap.size) : ∃ (wb : World) (_ : Below wb.heap.size wb w), wb.heap.size = S ∧ (∀ x : Later wb, ∀ k, k < S → x.at_.heap[k]? = w.heap[k]?) ∧ ∀ x : Later wb, w.heap.size ≤ x.at_.heap.size → Below S w x.at_ := by
  let wb : World := { w with heap := w.heap.extract 0 S }
  have hs : wb.heap.size = S := by simp [wb]; omega
  have hk : ∀ k, k < S → wb.heap[k]? = w.heap[k]? := fun k hk => by
    have : (w.heap.extract 0 S)[k]? = w.heap[k]? := by rw [Array.getElem?_extract]; simp; intro hc; omega
    exact this
  have hx : Below wb.heap.size wb w := ⟨rfl, rfl, rfl, by omega, fun k h => (hk k (by omega)).symm⟩
  refine ⟨wb, hx, hs, fun x k hkS => (x.ok.block k (by omega)).trans (hk k hkS), fun x hz => ⟨x.ok.os, x.ok.tape, x.ok.output, hz, fun k hkS => (x.ok.block k (by omega)).trans (hk k hkS)⟩⟩
end Go.Proofs.YgcoaaGreat.NatW
