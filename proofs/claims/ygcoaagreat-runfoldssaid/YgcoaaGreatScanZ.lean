/-
  Package dec: Scan of the empty text.
-/
import Derived.Test.YgcoaaGreatTacB
set_option linter.unusedVariables false
set_option linter.unusedSimpArgs false
namespace Go.Proofs.YgcoaaGreat.NatW
attribute [local go_sem] Go.Instr.field Go.asAgg
open Go.RowKit
open Go.Proofs.YgcoaaGreat.Limbs Go.Proofs.YgcoaaGreat.Bits

set_option maxRecDepth 20000 in
set_option maxHeartbeats 2000000 in
theorem finish_zero (s : Option Addr) (c : Nat) : Ret 377 #[.agg #[.bool false, .bool false, .slice s 0 c, .int .i64 0, .int .i64 0], .int .i64 0, .string ⟨#[]⟩, .int .i64 0, .int .i64 0] (fun v => v = .agg #[.int .u8 3, .bool false, .string ⟨#[]⟩, .int .i16 0, .int .i64 0, .int .i32 (-1)]) := by
  intro w K hK
  have HK := hide hK
  clear hK
  obtain ⟨wb, x0, hwb, r0, r1, hB, hZ⟩ := boxes2 w #[.bool false, .bool false, .slice s 0 c, .int .i64 0, .int .i64 0] #[.int .u8 0, .bool false, .string ⟨#[]⟩, .int .i16 0, .int .i64 0, .int .i32 0] 343 244
  have c00 : ∀ x : Later wb, _ = some (.bool false : Value) := Later.cell r0 0 _ rfl
  have c01 : ∀ x : Later wb, _ = some (.bool false : Value) := Later.cell r0 1 _ rfl
  have c02 : ∀ x : Later wb, _ = some (.slice s 0 c : Value) := Later.cell r0 2 _ rfl
  have c03 : ∀ x : Later wb, _ = some (.int .i64 0 : Value) := Later.cell r0 3 _ rfl
  have c04 : ∀ x : Later wb, _ = some (.int .i64 0 : Value) := Later.cell r0 4 _ rfl
  have c10 : ∀ x : Later wb, _ = some (.int .u8 0 : Value) := Later.cell r1 0 _ rfl
  have f10 := Later.frz r1 0
  have c11 : ∀ x : Later wb, _ = some (.bool false : Value) := Later.cell r1 1 _ rfl
  have f11 := Later.frz r1 1
  have c12 : ∀ x : Later wb, _ = some (.string ⟨#[]⟩ : Value) := Later.cell r1 2 _ rfl
  have f12 := Later.frz r1 2
  have c13 : ∀ x : Later wb, _ = some (.int .i16 0 : Value) := Later.cell r1 3 _ rfl
  have f13 := Later.frz r1 3
  have c14 : ∀ x : Later wb, _ = some (.int .i64 0 : Value) := Later.cell r1 4 _ rfl
  have f14 := Later.frz r1 4
  have c15 : ∀ x : Later wb, _ = some (.int .i32 0 : Value) := Later.cell r1 5 _ rfl
  have f15 := Later.frz r1 5
  have R0 := hide r0
  have R1 := hide r1
  clear r0 r1
  have hne : Nonempty (Later wb) := ⟨x0⟩
  go_enter Oaag.func377, Oaag.ntmps377
  go_wp2_with fail
  refine bodyPost_box rfl ?_
  intro r hr
  simp [results, Oaag.results377, go_sem, c10, c11, c12, c13, c14, c15] at hr
  subst hr
  refine ⟨_, rfl, ?_⟩
  refine unhide HK _ _ ?_ (below_store (below_store (below_store (below_store (below_store (below_store (hB _) (by omega) _) (by omega) _) (by omega) _) (by omega) _) (by omega) _) (by omega) _)
  rfl


end Go.Proofs.YgcoaaGreat.NatW
