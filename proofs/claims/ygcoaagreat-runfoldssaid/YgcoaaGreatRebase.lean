/-
  Behind a store into a box of the function's own: a new base.
-/
import Derived.Test.YgcoaaGreatSoftA
set_option linter.unusedVariables false
namespace Go.Proofs.YgcoaaGreat.NatW
attribute [local go_sem] Go.Instr.field Go.asAgg
open Go.RowKit

theorem rebase (w W : World) (hW : Below w.heap.size w W) : ∃ (wb : World) (x0 : Later wb), W = x0.at_ ∧ (∀ (b : Nat) (o : Obj), W.heap[b]? = some o → wb.heap[b]? = some o) ∧ (∀ x : Later wb, Below w.heap.size w x.at_) ∧ ∀ x : Later wb, W.heap.size ≤ x.at_.heap.size :=
  ⟨W, ⟨W, Below.refl _ _⟩, rfl, fun _ _ h => h, fun x => hW.trans (x.ok.mono hW.size), fun x => x.ok.size⟩

def setc (i : Nat) (v : Value) : Obj → Obj
  | .cells vs t f => .cells (vs.setIfInBounds i v) t f
  | o => o

theorem heap_set (w : World) (b i : Nat) (v : Value) (k : Nat) : (w.setCell ⟨b, i, none⟩ v).heap[k]? = if b = k then (w.heap[k]?).map (setc i v) else w.heap[k]? := by
  by_cases h : b = k
  · subst h
    rw [if_pos rfl]
    simp only [World.setCell, Array.getElem?_modify, if_true]
    cases hb : w.heap[b]? with
    | none => rfl
    | some o => cases o <;> simp [setc]
  · rw [if_neg h]
    exact Below.heap_setCell _ _ _ _ (by simpa using Ne.symm h)

theorem heap_new (w : World) (o : Obj) (k : Nat) : (w.alloc o).heap[k]? = if k < w.heap.size then w.heap[k]? else if k = w.heap.size then some o else none := by
  by_cases h : k < w.heap.size
  · rw [if_pos h, Below.heap_alloc _ _ _ h]
  · rw [if_neg h]
    by_cases h2 : k = w.heap.size
    · subst h2; rw [if_pos rfl, heap_alloc_new]
    · rw [if_neg h2]
      exact Array.getElem?_eq_none (by simp; omega)





end Go.Proofs.YgcoaaGreat.NatW
