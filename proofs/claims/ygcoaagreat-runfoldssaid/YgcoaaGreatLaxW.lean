/-
  Regions with stores, on: reads of memory of one's own by the invariant; a base without the function's own blocks.
-/
import Derived.Test.YgcoaaGreatAgg
import Derived.Test.YgcoaaGreatTabz
set_option linter.unusedVariables false
namespace Go.LaxS
open Go.RowKit Go.Mix Go.Lax
open Go.Proofs.YgcoaaGreat.NatW (Later Ret)
section
variable {P : Program} {Q : Exit → Act → World → Prop} {a0 : Act} {wb : World} {S : List (Nat × (Value → Prop))} {st : List Nat} {I : World → Prop}
theorem call_atI {ops : Array Oper} {m k : Nat} {o : Oper} {rest : List Oper} {a : Act} {Γ : List (Nat × (World → Prop))} (hk : (isAt S k || st.contains k) = true) (hs : st.contains k = false) (hd : o.dst.isSome = true) (hI : ∀ w w', I w → Below w.heap.size w w' → I w')
    (h2 : ∀ v, psi S k v → wpQuiet P ops (fun _ => True) (fun a__ => Walk P ops Q (par S st I) wb m rest (k + 1) a__ ((k, fun _ => True) :: Γ)) [{ dst := o.dst, op := .move (.const v), type := 0, pos := "", after := #[], guard := none }] a)
    (h1 : ∀ (y : Later wb) (K : Act → World → Prop), I y.at_ → (∀ v w', psi S k v → Below y.at_.heap.size y.at_ w' → K (a.put o.dst v) w') → wpList P ops (fun e a' w' => e = .normal ∧ K a' w') [o] a y.at_) : Walk P ops Q (par S st I) wb (m + 1) (o :: rest) k a Γ := by
  refine walk_call hk (fun h => by rw [h] at hd; cases hd) (fun x hIx _ => ?_) (fun v hv _ => Go.Lax.mv_on (h2 v hv))
  exact h1 x (fun a' w' => ∃ v, a' = a.put o.dst v ∧ _) hIx fun v w' hv hb' => ⟨v, rfl, hv, trivial, x.ok.trans (hb'.mono x.ok.size), hI _ _ hIx hb', by
    show Rl (par S st I) k x.at_ w'
    unfold Rl par
    simp only [hs]
    exact hb', fun h => by rw [h] at hd; cases hd⟩
end
end Go.LaxS

namespace Go.Proofs.YgcoaaGreat.NatW
attribute [local go_sem] Go.Instr.field Go.asAgg
open Go.RowKit
/-- A base of the first S blocks. -/
theorem trunc (w : World) (S : Nat) (h : S ≤ w.heap.size) : ∃ (wb : World) (x0 : Later wb), w = x0.at_ ∧ wb.heap.size = S ∧ ∀ x : Later wb, (∀ k, k < S → x.at_.heap[k]? = w.heap[k]?) ∧ (∀ (w0 : World) (r : Option Nat), w0.heap.size = S → w0.grownBy w r → w0.grownBy x.at_ r) := by
  let wb : World := { w with heap := w.heap.extract 0 S }
  have hs : wb.heap.size = S := by simp [wb]; omega
  have hk : ∀ k, k < S → wb.heap[k]? = w.heap[k]? := fun k hk => by
    have : (w.heap.extract 0 S)[k]? = w.heap[k]? := by rw [Array.getElem?_extract]; simp; intro hc; omega
    exact this
  have hx : Below wb.heap.size wb w := ⟨rfl, rfl, rfl, by omega, fun k h => (hk k (by omega)).symm⟩
  refine ⟨wb, ⟨w, hx⟩, rfl, hs, fun x => ?_⟩
  have hb := x.ok
  have hkk : ∀ k, k < S → x.at_.heap[k]? = w.heap[k]? := fun k hkS => (hb.block k (by omega)).trans (hk k hkS)
  refine ⟨hkk, fun w0 r h0 hg => ⟨hb.os.trans hg.os, hb.tape.trans hg.tape, hb.output.trans hg.output, ?_, fun k hk0 hr => (hkk k (by omega)).trans (hg.block k hk0 hr)⟩⟩
  have := hb.size
  omega

theorem Exps.same {w w' : World} {d n : Nat} {top sig prec : Int} (h : Exps w d n top sig prec) (hb : w'.heap[d]? = w.heap[d]?) : Exps w' d n top sig prec := by
  have hc : ∀ i, w'.cell? ⟨d, i, none⟩ = w.cell? ⟨d, i, none⟩ := fun i => World.cell?_of_block (a := ⟨d, i, none⟩) hb
  have hf : ∀ i, w'.frozen? ⟨d, i, none⟩ = w.frozen? ⟨d, i, none⟩ := fun i => World.frozen?_of_block (a := ⟨d, i, none⟩) hb
  refine ⟨⟨?_, fun i => by rw [hf]; exact h.own.2 i⟩, fun i hi => by rw [hc]; exact h.dig i hi, by rw [hc]; exact h.n_, by rw [hc]; exact h.top_, by rw [hc]; exact h.sig_, by rw [hc]; exact h.prec_, h.le, h.top64, h.sig64, h.prec64⟩
  have := h.n_
  rw [← hc] at this
  exact World.block_lt_of_cell? _ _ this
end Go.Proofs.YgcoaaGreat.NatW
