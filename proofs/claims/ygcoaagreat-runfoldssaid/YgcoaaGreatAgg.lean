/-
  Loads and stores of a whole struct of many cells.
-/
import Derived.Test.YgcoaaGreatExpA
import Derived.Laws.IdiomCopy
set_option linter.unusedVariables false
set_option linter.unusedSimpArgs false
namespace Go.Proofs.YgcoaaGreat.NatW
attribute [local go_sem] Go.Instr.field Go.asAgg
open Go.RowKit



theorem load_agg (w : World) (t n : Nat) (d : TypeDesc) (hd : Oaag.prog.underlying t = some d) (ha : (match d with | .struct _ | .array _ _ => true | _ => false) = true) (hs : (Oaag.prog.info? t).map (·.size) = some n) (b : Nat) (cs : List Value) (hn : cs.length = n) (h : ∀ j v, cs[j]? = some v → w.cell? ⟨b, j, none⟩ = some v) :
    (loadVar t ⟨b, 0, none⟩).run Oaag.prog w = .ok (.agg cs.toArray) w := by
  have hsz : (sizeOf t).run Oaag.prog w = .ok n w := by
    cases hi : Oaag.prog.info? t with
    | none => rw [hi] at hs; cases hs
    | some i => rw [hi] at hs; simp at hs; simp [sizeOf, typeInfo, hi, hs]
  have hag : (isAgg t).run Oaag.prog w = .ok true w := by
    simp only [isAgg, Sem.run_bind, run_underlying hd, Result.andThen_ok]
    cases d <;> first | rfl | exact absurd ha (by simp)
  have hl := run_loadCells_list (P := Oaag.prog) w ⟨b, 0, none⟩ cs (fun j v hj => by rw [ptr_add, Nat.zero_add]; exact h j v hj)
  rw [hn] at hl
  simp [loadVar, hag, hsz, hl]

theorem store_agg (w : World) (t n : Nat) (hs : (Oaag.prog.info? t).map (·.size) = some n) (b : Nat) (cs : List Value) (hn : cs.length = n) (hc : ∀ j, j < n → ∃ v, w.cell? ⟨b, j, none⟩ = some v) (hf : ∀ j, w.frozen? ⟨b, j, none⟩ = false) (h1 : ∀ v ∈ cs, v.oneCell' = true) :
    (storeVar t ⟨b, 0, none⟩ (.agg cs.toArray)).run Oaag.prog w = .ok () (w.setCells b 0 cs) := by
  have hsz : (sizeOf t).run Oaag.prog w = .ok n w := by
    cases hi : Oaag.prog.info? t with
    | none => rw [hi] at hs; cases hs
    | some i => rw [hi] at hs; simp at hs; simp [sizeOf, typeInfo, hi, hs]
  have hst := run_storeCells_cells (P := Oaag.prog) b 0 cs 0 w (fun j hj => by
      obtain ⟨v, hv⟩ := hc j (by omega)
      rw [show 0 + 0 + j = j by omega, hv]; rfl) (fun j hj => hf _) h1
  have hst' : (storeCells ⟨b, 0, none⟩ cs).run Oaag.prog w = .ok () (w.setCells b 0 cs) := hst
  simp [storeVar, Value.cells, hsz, hn, hst']

theorem setCells_grow (b : Nat) : ∀ (cs : List Value) (o : Nat) (w : World), w.grownBy (w.setCells b o cs) (some b)
  | [], _, w => grow_refl w _
  | v :: r, o, w => grow_trans (grow_set w b o v) (setCells_grow b r (o + 1) _)
theorem setCells_at (b : Nat) (cs : List Value) (w : World) (hc : ∀ j, j < cs.length → ∃ v, w.cell? ⟨b, j, none⟩ = some v) (j : Nat) (v : Value) (hj : cs[j]? = some v) : (w.setCells b 0 cs).cell? ⟨b, j, none⟩ = some v := by
  obtain ⟨hlt, hv⟩ := List.getElem?_eq_some_iff.1 hj
  have := World.cell?_setCells_in b cs 0 w (fun j hj => by
    obtain ⟨v, hv⟩ := hc j hj
    rw [Nat.zero_add, hv]; rfl) j hlt
  rwa [Nat.zero_add, hv] at this

/-- A load of a whole variable. -/
theorem wpList_ldA {w : World} {ops : Array Oper} {rest : List Oper} {o : Oper} {a : Act} {Q : Exit → Act → World → Prop} (hg : o.guard = none) (t : TypeId) (x : Operand) (hop : o.op = .load t x) (b : Nat) (hx : a.eval x = .pointer (some ⟨b, 0, none⟩)) (v : Value) (hl : (loadVar t ⟨b, 0, none⟩).run Oaag.prog w = .ok v w)
    (h : wpList Oaag.prog ops Q rest (a.put o.dst v) w) : wpList Oaag.prog ops Q (o :: rest) a w := by
  refine wpList_plain hg fun K hK' => ?_
  unfold Oper.wp
  simp [execOp, hop, hx, Instr.loadAt, Instr.sureAddr, hl, Result.andThen]
  exact hK' _ _ h

theorem wpList_stA {w w' : World} {ops : Array Oper} {rest : List Oper} {o : Oper} {a : Act} {Q : Exit → Act → World → Prop} (hg : o.guard = none) (hd : o.dst = none) (t : TypeId) (p x : Operand) (hop : o.op = .store t p x) (b : Nat) (hp : a.eval p = .pointer (some ⟨b, 0, none⟩)) (v : Value) (hx : a.eval x = v) (hl : (storeVar t ⟨b, 0, none⟩ v).run Oaag.prog w = .ok () w')
    (h : wpList Oaag.prog ops Q rest a w') : wpList Oaag.prog ops Q (o :: rest) a w := by
  refine wpList_plain hg fun K hK' => ?_
  unfold Oper.wp
  simp [execOp, hop, hp, hx, Instr.storeAt, Instr.sureAddr, hl, Result.andThen]
  exact hK' _ _ (by rw [hd]; exact h)

end Go.Proofs.YgcoaaGreat.NatW
