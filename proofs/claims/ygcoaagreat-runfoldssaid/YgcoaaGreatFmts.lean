/-
  Package ieee: the named formats.
-/
import Derived.Test.YgcoaaGreatTacB
set_option linter.unusedVariables false
set_option linter.unusedSimpArgs false
namespace Go.Proofs.YgcoaaGreat.NatW
attribute [local go_sem] Go.Instr.field Go.asAgg
open Go.RowKit
open Go.Proofs.YgcoaaGreat.Limbs Go.Proofs.YgcoaaGreat.Bits

set_option maxRecDepth 20000 in
set_option maxHeartbeats 2000000 in
theorem fmt71_ret  : Ret 71 #[] (fun v => v = fmt 5 10) := by
  intro w K hK
  have HK := hide hK
  clear hK
  obtain ⟨wb, x0, hwb, r0, hB, hZ⟩ := boxes1 w #[.int .u8 0, .int .u8 0] 23
  have c00 : ∀ x : Later wb, _ = some (.int .u8 0 : Value) := Later.cell r0 0 _ rfl
  have f00 := Later.frz r0 0
  have c01 : ∀ x : Later wb, _ = some (.int .u8 0 : Value) := Later.cell r0 1 _ rfl
  have f01 := Later.frz r0 1
  have R0 := hide r0
  clear r0
  have hne : Nonempty (Later wb) := ⟨x0⟩
  go_enter Oaag.func71, Oaag.ntmps71
  go_wp2_with fail
  refine bodyPost_box rfl ?_
  intro r hr
  simp [results, Oaag.results71, go_sem, c00, c01] at hr
  subst hr
  refine ⟨_, rfl, ?_⟩
  refine unhide HK _ _ ?_ (below_store (below_store (hB _) (by omega) _) (by omega) _)
  rfl

set_option maxRecDepth 20000 in
set_option maxHeartbeats 2000000 in
theorem fmt72_ret  : Ret 72 #[] (fun v => v = fmt 8 7) := by
  intro w K hK
  have HK := hide hK
  clear hK
  obtain ⟨wb, x0, hwb, r0, hB, hZ⟩ := boxes1 w #[.int .u8 0, .int .u8 0] 23
  have c00 : ∀ x : Later wb, _ = some (.int .u8 0 : Value) := Later.cell r0 0 _ rfl
  have f00 := Later.frz r0 0
  have c01 : ∀ x : Later wb, _ = some (.int .u8 0 : Value) := Later.cell r0 1 _ rfl
  have f01 := Later.frz r0 1
  have R0 := hide r0
  clear r0
  have hne : Nonempty (Later wb) := ⟨x0⟩
  go_enter Oaag.func72, Oaag.ntmps72
  go_wp2_with fail
  refine bodyPost_box rfl ?_
  intro r hr
  simp [results, Oaag.results72, go_sem, c00, c01] at hr
  subst hr
  refine ⟨_, rfl, ?_⟩
  refine unhide HK _ _ ?_ (below_store (below_store (hB _) (by omega) _) (by omega) _)
  rfl

set_option maxRecDepth 20000 in
set_option maxHeartbeats 2000000 in
theorem fmt73_ret  : Ret 73 #[] (fun v => v = fmt 8 23) := by
  intro w K hK
  have HK := hide hK
  clear hK
  obtain ⟨wb, x0, hwb, r0, hB, hZ⟩ := boxes1 w #[.int .u8 0, .int .u8 0] 23
  have c00 : ∀ x : Later wb, _ = some (.int .u8 0 : Value) := Later.cell r0 0 _ rfl
  have f00 := Later.frz r0 0
  have c01 : ∀ x : Later wb, _ = some (.int .u8 0 : Value) := Later.cell r0 1 _ rfl
  have f01 := Later.frz r0 1
  have R0 := hide r0
  clear r0
  have hne : Nonempty (Later wb) := ⟨x0⟩
  go_enter Oaag.func73, Oaag.ntmps73
  go_wp2_with fail
  refine bodyPost_box rfl ?_
  intro r hr
  simp [results, Oaag.results73, go_sem, c00, c01] at hr
  subst hr
  refine ⟨_, rfl, ?_⟩
  refine unhide HK _ _ ?_ (below_store (below_store (hB _) (by omega) _) (by omega) _)
  rfl

set_option maxRecDepth 20000 in
set_option maxHeartbeats 2000000 in
theorem fmt74_ret  : Ret 74 #[] (fun v => v = fmt 11 52) := by
  intro w K hK
  have HK := hide hK
  clear hK
  obtain ⟨wb, x0, hwb, r0, hB, hZ⟩ := boxes1 w #[.int .u8 0, .int .u8 0] 23
  have c00 : ∀ x : Later wb, _ = some (.int .u8 0 : Value) := Later.cell r0 0 _ rfl
  have f00 := Later.frz r0 0
  have c01 : ∀ x : Later wb, _ = some (.int .u8 0 : Value) := Later.cell r0 1 _ rfl
  have f01 := Later.frz r0 1
  have R0 := hide r0
  clear r0
  have hne : Nonempty (Later wb) := ⟨x0⟩
  go_enter Oaag.func74, Oaag.ntmps74
  go_wp2_with fail
  refine bodyPost_box rfl ?_
  intro r hr
  simp [results, Oaag.results74, go_sem, c00, c01] at hr
  subst hr
  refine ⟨_, rfl, ?_⟩
  refine unhide HK _ _ ?_ (below_store (below_store (hB _) (by omega) _) (by omega) _)
  rfl

set_option maxRecDepth 20000 in
set_option maxHeartbeats 2000000 in
theorem fmt75_ret  : Ret 75 #[] (fun v => v = fmt 4 3) := by
  intro w K hK
  have HK := hide hK
  clear hK
  obtain ⟨wb, x0, hwb, r0, hB, hZ⟩ := boxes1 w #[.int .u8 0, .int .u8 0] 23
  have c00 : ∀ x : Later wb, _ = some (.int .u8 0 : Value) := Later.cell r0 0 _ rfl
  have f00 := Later.frz r0 0
  have c01 : ∀ x : Later wb, _ = some (.int .u8 0 : Value) := Later.cell r0 1 _ rfl
  have f01 := Later.frz r0 1
  have R0 := hide r0
  clear r0
  have hne : Nonempty (Later wb) := ⟨x0⟩
  go_enter Oaag.func75, Oaag.ntmps75
  go_wp2_with fail
  refine bodyPost_box rfl ?_
  intro r hr
  simp [results, Oaag.results75, go_sem, c00, c01] at hr
  subst hr
  refine ⟨_, rfl, ?_⟩
  refine unhide HK _ _ ?_ (below_store (below_store (hB _) (by omega) _) (by omega) _)
  rfl

set_option maxRecDepth 20000 in
set_option maxHeartbeats 2000000 in
theorem fmt76_ret  : Ret 76 #[] (fun v => v = fmt 5 2) := by
  intro w K hK
  have HK := hide hK
  clear hK
  obtain ⟨wb, x0, hwb, r0, hB, hZ⟩ := boxes1 w #[.int .u8 0, .int .u8 0] 23
  have c00 : ∀ x : Later wb, _ = some (.int .u8 0 : Value) := Later.cell r0 0 _ rfl
  have f00 := Later.frz r0 0
  have c01 : ∀ x : Later wb, _ = some (.int .u8 0 : Value) := Later.cell r0 1 _ rfl
  have f01 := Later.frz r0 1
  have R0 := hide r0
  clear r0
  have hne : Nonempty (Later wb) := ⟨x0⟩
  go_enter Oaag.func76, Oaag.ntmps76
  go_wp2_with fail
  refine bodyPost_box rfl ?_
  intro r hr
  simp [results, Oaag.results76, go_sem, c00, c01] at hr
  subst hr
  refine ⟨_, rfl, ?_⟩
  refine unhide HK _ _ ?_ (below_store (below_store (hB _) (by omega) _) (by omega) _)
  rfl


end Go.Proofs.YgcoaaGreat.NatW
