/-
  Package slow: isZero.
-/
import Derived.Test.YgcoaaGreatSlF
import Derived.Test.YgcoaaGreatAgg
set_option linter.unusedVariables false
set_option linter.unusedSimpArgs false
set_option maxRecDepth 20000
namespace Go.Proofs.YgcoaaGreat.NatW
open Go.RowKit
open Go.Proofs.YgcoaaGreat.Det
attribute [local go_sem] Go.Instr.field Go.asAgg

theorem u220 : Oaag.prog.underlying 220 = some (.array 52 30) := by kernel_rfl
theorem s220 : (Oaag.prog.info? 220).map (·.size) = some 52 := by kernel_rfl
theorem idx_arr (cs : Array Value) (i : Nat) (hi : i < 52) (x : Value) (hx : cs[i]? = some x) (w : World) : (Instr.index 220 (.agg cs) (.int .i64 (i : Int))).run Oaag.prog w = .ok x w := by
  have h1 : 0 ≤ (i : Int) ∧ (i : Int) < ((52 : Nat) : Int) := by omega
  simp [Instr.index, run_underlying u220, asIntOf, h1, go_sem]
  rw [if_pos hi, hx]
  rfl
theorem load_arr (w : World) (b : Nat) (cs : List Value) (hn : cs.length = 52) (h : ∀ j v, cs[j]? = some v → w.cell? ⟨b, 1 + j, none⟩ = some v) :
    (loadVar 220 ⟨b, 1, none⟩).run Oaag.prog w = .ok (.agg cs.toArray) w := by
  have hsz : (sizeOf 220).run Oaag.prog w = .ok 52 w := by
    have hs := s220
    cases hi : Oaag.prog.info? 220 with
    | none => rw [hi] at hs; cases hs
    | some i => rw [hi] at hs; simp at hs; simp [sizeOf, typeInfo, hi, hs]
  have hag : (isAgg 220).run Oaag.prog w = .ok true w := by
    simp only [isAgg, Sem.run_bind, run_underlying u220, Result.andThen_ok]
    rfl
  have hl := run_loadCells_list (P := Oaag.prog) w ⟨b, 1, none⟩ cs (fun j v hj => by rw [ptr_add]; exact h j v hj)
  rw [hn] at hl
  simp [loadVar, hag, hsz, hl]
theorem wpList_ldArr {w : World} {ops : Array Oper} {rest : List Oper} {o : Oper} {a : Act} {Q : Exit → Act → World → Prop} (hg : o.guard = none) (t : TypeId) (x : Operand) (hop : o.op = .load t x) (b : Nat) (hx : a.eval x = .pointer (some ⟨b, 1, none⟩)) (v : Value) (hl : (loadVar t ⟨b, 1, none⟩).run Oaag.prog w = .ok v w)
    (h : wpList Oaag.prog ops Q rest (a.put o.dst v) w) : wpList Oaag.prog ops Q (o :: rest) a w := by
  refine wpList_plain hg fun K hK' => ?_
  unfold Oper.wp
  simp [execOp, hop, hx, Instr.loadAt, Instr.sureAddr, hl, Result.andThen]
  exact hK' _ _ h

set_option maxHeartbeats 4000000 in
theorem isZero_run (w : World) (b n : Nat) (c : Nat → Nat) (hX : BigX b n c w) :
    Calls Oaag.prog 361 #[.pointer (some ⟨b, 0, none⟩)] w (fun z w' => ∃ v, z = .returned v ∧ BoolR v ∧ w' = w) := by
  have hla := load_arr w b ((List.range 52).map fun i => Value.int .u64 (c i)) (by simp) (fun j v hj => by
    rw [List.getElem?_map] at hj
    rcases Nat.lt_or_ge j 52 with h | h
    · rw [List.getElem?_range h] at hj
      simp at hj
      subst hj
      exact hX.cw j h
    · rw [List.getElem?_eq_none (by simpa using h)] at hj
      cases hj)
  have hcs : ∀ i, i < 52 → (((List.range 52).map fun i => Value.int .u64 (c i)).toArray)[i]? = some (.int .u64 (c i)) := fun i hi => by
    rw [List.getElem?_toArray, List.getElem?_map, List.getElem?_range hi]; rfl
  generalize ((List.range 52).map fun i => Value.int .u64 (c i)).toArray = cs at *
  go_enter Oaag.func361, Oaag.ntmps361
  go_wp2_with (first
    | (with_reducible refine at_load 220 ?_
       refine wpList_ldArr rfl 220 _ rfl b rfl (.agg cs) hla ?_)
    | fail)
  go_loop [3, 5, 10] (fun t3 _ t10 => ∃ (i : Nat) (v : Int), i ≤ 52 ∧ t10 = .int .i64 i ∧ t3 = .int .u64 v) (fun _ _ t10 => 52 - (intOf t10).toNat)
  case atStart => exact ⟨0, 0, by omega, rfl, rfl⟩
  case round =>
    obtain ⟨i, v, hi, rfl, rfl⟩ := hrel
    by_cases hl : i < 52
    · have hix := idx_arr cs i hl _ (hcs i hl)
      go_wp2_with fail
      exact ⟨⟨i + 1, _, by omega, by simp, rfl⟩, by simp [intOf]; omega⟩
    · go_wp2_with fail
      go_ret
      exact ⟨_, rfl, ⟨_, rfl⟩, rfl⟩
end Go.Proofs.YgcoaaGreat.NatW
