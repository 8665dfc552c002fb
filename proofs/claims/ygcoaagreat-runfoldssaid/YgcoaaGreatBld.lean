/-
  A new expansion.
-/
import Derived.Test.YgcoaaGreatExpE
set_option linter.unusedVariables false
set_option linter.unusedSimpArgs false
namespace Go.Proofs.YgcoaaGreat.NatW
attribute [local go_sem] Go.Instr.field Go.asAgg
open Go.RowKit

def Z300 : Array Value := (((((Array.replicate 1441 (.int .u8 0)).push (.int .i64 0)).push (.int .i64 0)).push (.int .i64 0)).push (.int .i64 0))
theorem z300 : ((Oaag.prog.info? 300).bind fun i => i.zero.map fun z => z.cells) = some Z300 := by kernel_rfl
theorem size300 : (Oaag.prog.info? 300).map (·.size) = some 1445 := by kernel_rfl
theorem Z300_size : Z300.size = 1445 := by simp [Z300]
theorem sz298 (w : World) : (sizeOf 298).run Oaag.prog w = .ok 1441 w := by
  have hs : (Oaag.prog.info? 298).map (·.size) = some 1441 := by kernel_rfl
  cases hi : Oaag.prog.info? 298 with
  | none => rw [hi] at hs; cases hs
  | some i => rw [hi] at hs; simp at hs; simp [sizeOf, typeInfo, hi, hs]
theorem sz3 (w : World) : (sizeOf 3).run Oaag.prog w = .ok 1 w := by
  have hs : (Oaag.prog.info? 3).map (·.size) = some 1 := by kernel_rfl
  cases hi : Oaag.prog.info? 3 with
  | none => rw [hi] at hs; cases hs
  | some i => rw [hi] at hs; simp at hs; simp [sizeOf, typeInfo, hi, hs]
theorem zero300 (w : World) : ∃ z : Value, z.cells = Z300 ∧ (zeroValue 300).run Oaag.prog w = .ok z w := by
  have h := z300
  cases hi : Oaag.prog.info? 300 with
  | none => rw [hi] at h; cases h
  | some i =>
    rw [hi] at h
    cases hz : i.zero with
    | none => simp [hz] at h
    | some z =>
      simp [hz] at h
      exact ⟨z, h, by simp [zeroValue, typeInfo, hi, hz]⟩

theorem cells_int (k : IntKind) (x : Int) : (Value.int k x).cells = #[.int k x] := rfl
theorem build300 (w : World) (s p : Int) : (Instr.build 300 #[(3, .int .i64 s), (4, .int .i64 p)]).run Oaag.prog w = .ok (.agg ((Z300.setIfInBounds 1443 (.int .i64 s)).setIfInBounds 1444 (.int .i64 p))) w := by
  obtain ⟨z, hz, hr⟩ := zero300 w
  simp only [Instr.build, Sem.run_bind, hr, Result.andThen_ok, run_underlying Oaag.underlying300]
  rw [hz]
  simp [sz298, sz3, Instr.fill, Z300_size, cells_int]

theorem wpList_bldX {w : World} {ops : Array Oper} {rest : List Oper} {o : Oper} {a : Act} {Q : Exit → Act → World → Prop} (hg : o.guard = none) (x y : Operand) (hop : o.op = .build 300 #[(3, x), (4, y)]) (s p : Int) (hx : a.eval x = .int .i64 s) (hy : a.eval y = .int .i64 p)
    (h : wpList Oaag.prog ops Q rest (a.put o.dst (.agg ((Z300.setIfInBounds 1443 (.int .i64 s)).setIfInBounds 1444 (.int .i64 p)))) w) : wpList Oaag.prog ops Q (o :: rest) a w := by
  refine wpList_plain hg fun K hK' => ?_
  unfold Oper.wp
  simp [execOp, hop, hx, hy, build300, Result.andThen]
  exact hK' _ _ h

theorem Z300_at (i : Nat) (hi : i < 1441) : Z300[i]? = some (.int .u8 0) := by
  unfold Z300
  rw [Array.getElem?_push, if_neg (by simp; omega), Array.getElem?_push, if_neg (by simp; omega), Array.getElem?_push, if_neg (by simp; omega), Array.getElem?_push, if_neg (by simp; omega), Array.getElem?_replicate, if_pos hi]
theorem Z300_n : Z300[1441]? = some (.int .i64 0) := by
  unfold Z300
  rw [Array.getElem?_push, if_neg (by simp), Array.getElem?_push, if_neg (by simp), Array.getElem?_push, if_neg (by simp), Array.getElem?_push, if_pos (by simp)]
theorem Z300_t : Z300[1442]? = some (.int .i64 0) := by
  unfold Z300
  rw [Array.getElem?_push, if_neg (by simp), Array.getElem?_push, if_neg (by simp), Array.getElem?_push, if_pos (by simp)]
theorem Z300_ints : ∀ v ∈ Z300.toList, v.oneCell' = true := by
  intro v hv
  have hv' : v ∈ Z300 := by simpa using hv
  unfold Z300 at hv'
  simp only [Array.mem_push, Array.mem_replicate] at hv'
  rcases hv' with (((h | h) | h) | h) | h
  · rw [h.2]; rfl
  all_goals rw [h]; rfl

theorem exps_new (w : World) (s p : Int) (hs : I64 s) (hp : I64 p) :
    ∃ W, (storeVar 300 ⟨w.heap.size, 0, none⟩ (.agg ((Z300.setIfInBounds 1443 (.int .i64 s)).setIfInBounds 1444 (.int .i64 p)))).run Oaag.prog (w.alloc (.cells Z300 300)) = .ok () W ∧ Below w.heap.size w W ∧ Exps W w.heap.size 0 0 s p := by
  obtain ⟨X, hX⟩ : ∃ X, X = w.alloc (.cells Z300 300) := ⟨_, rfl⟩
  have hmX : Mine X w.heap.size := by rw [hX]; exact Mine.new w _ _
  have hbX : Below w.heap.size w X := by rw [hX]; exact (Below.refl _ _).alloc (Nat.le_refl _) _
  obtain ⟨A, hA⟩ : ∃ A, A = (Z300.setIfInBounds 1443 (.int .i64 s)).setIfInBounds 1444 (.int .i64 p) := ⟨_, rfl⟩
  have hAs : A.toList.length = 1445 := by rw [hA]; simp [Z300_size]
  have hold : ∀ j, j < 1445 → ∃ v, X.cell? ⟨w.heap.size, j, none⟩ = some v := fun j hj => by
    rw [hX, World.cell?_alloc_new]
    exact ⟨_, Array.getElem?_eq_getElem (by rw [Z300_size]; omega)⟩
  have hAat : ∀ i : Nat, i < 1443 → A.toList[i]? = Z300[i]? := fun i hi => by
    rw [hA, Array.getElem?_toList, Array.getElem?_setIfInBounds, if_neg (by omega), Array.getElem?_setIfInBounds, if_neg (by omega)]
  have hA3 : A.toList[1443]? = some (.int .i64 s) := by
    rw [hA, Array.getElem?_toList, Array.getElem?_setIfInBounds, if_neg (by omega), Array.getElem?_setIfInBounds]
    simp [Z300_size]
  have hA4 : A.toList[1444]? = some (.int .i64 p) := by
    rw [hA, Array.getElem?_toList, Array.getElem?_setIfInBounds]
    simp [Z300_size]
  have hone : ∀ v ∈ A.toList, v.oneCell' = true := by
    intro v hv
    obtain ⟨j, hj, rfl⟩ := List.getElem_of_mem hv
    have he : A.toList[j]? = some A.toList[j] := List.getElem?_eq_getElem hj
    by_cases h1 : j < 1443
    · rw [hAat j h1] at he
      exact Z300_ints _ (by rw [← Array.getElem?_toList] at he; exact List.mem_of_getElem? he)
    · by_cases h2 : j = 1443
      · subst h2; rw [hA3] at he; simp only [Option.some.injEq] at he; rw [← he]; rfl
      · have h3 : j = 1444 := by omega
        subst h3; rw [hA4] at he; simp only [Option.some.injEq] at he; rw [← he]; rfl
  have hg := setCells_grow w.heap.size A.toList 0 X
  have hat := setCells_at w.heap.size A.toList X (fun j hj => hold j (by omega))
  have hst := store_agg X 300 1445 size300 w.heap.size A.toList hAs hold hmX.2 hone
  rw [Array.toArray_toList] at hst
  rw [← hX, ← hA]
  refine ⟨_, hst, ?_, ?_⟩
  · exact ⟨hg.os.trans hbX.os, hg.tape.trans hbX.tape, hg.output.trans hbX.output, Nat.le_trans hbX.size hg.size, fun k hk => (hg.block k (Nat.lt_of_lt_of_le hk hbX.size) (by simp; omega)).trans (hbX.block k hk)⟩
  · refine ⟨⟨Nat.lt_of_lt_of_le hmX.1 hg.size, fun i => by rw [World.frozen?_setCells]; exact hmX.2 i⟩, fun i hi => ⟨0, ?_, trivial⟩, hat _ _ ?_, hat _ _ ?_, hat _ _ hA3, hat _ _ hA4, by omega, ⟨by decide, by decide⟩, hs, hp⟩
    · rw [Nat.zero_add]; exact hat _ _ (by rw [hAat i (by omega)]; exact Z300_at i hi)
    · rw [hAat _ (by omega)]; exact Z300_n
    · rw [hAat _ (by omega)]; exact Z300_t

end Go.Proofs.YgcoaaGreat.NatW
