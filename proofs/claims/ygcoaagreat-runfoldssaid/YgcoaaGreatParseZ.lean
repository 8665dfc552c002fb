/-
  Packages dec, parse, second: at the zero Dec.
-/
import Derived.Test.YgcoaaGreatTacB
set_option linter.unusedVariables false
set_option linter.unusedSimpArgs false
namespace Go.Proofs.YgcoaaGreat.NatW
attribute [local go_sem] Go.Instr.field Go.asAgg
open Go.RowKit
open Go.Proofs.YgcoaaGreat.Limbs Go.Proofs.YgcoaaGreat.Bits

abbrev dec0 : Value := .agg #[.bool false, .string ⟨#[]⟩, .int .i16 0]

set_option maxRecDepth 20000 in
set_option maxHeartbeats 2000000 in
theorem decOk_zero  : Ret 39 #[dec0] (fun v => v = .bool true) := by
  intro w K hK
  have HK := hide hK
  clear hK
  obtain ⟨wb, x0, hwb, r0, hB, hZ⟩ := boxes1 w #[.bool false, .string ⟨#[]⟩, .int .i16 0] 74
  have c00 : ∀ x : Later wb, _ = some (.bool false : Value) := Later.cell r0 0 _ rfl
  have c01 : ∀ x : Later wb, _ = some (.string ⟨#[]⟩ : Value) := Later.cell r0 1 _ rfl
  have c02 : ∀ x : Later wb, _ = some (.int .i16 0 : Value) := Later.cell r0 2 _ rfl
  have R0 := hide r0
  clear r0
  have hne : Nonempty (Later wb) := ⟨x0⟩
  go_enter Oaag.func39, Oaag.ntmps39
  go_wp2_with fail
  all_goals first | exact unhide HK _ _ rfl (hB _) | skip

set_option maxRecDepth 20000 in
set_option maxHeartbeats 2000000 in
theorem parse_zero (E M : Nat) (hf : fok E M = true) (b : Nat) (m : Int) (q : Bool) : Ret 54 #[.pointer (some ⟨b, 0, none⟩), fmt E M, .int .u8 m, dec0, .bool q] (fun v => v = .tuple #[.int .u64 0, .int .u8 0]) := by
  obtain ⟨g1, g2, g3, g4⟩ := fok_bd hf
  intro w K hK
  have HK := hide hK
  clear hK
  obtain ⟨wb, x0, hwb, r0, r1, hB, hZ⟩ := boxes2 w #[.int .u8 E, .int .u8 M] #[.bool false, .string ⟨#[]⟩, .int .i16 0] 23 74
  have c00 : ∀ x : Later wb, _ = some (.int .u8 E : Value) := Later.cell r0 0 _ rfl
  have c01 : ∀ x : Later wb, _ = some (.int .u8 M : Value) := Later.cell r0 1 _ rfl
  have c10 : ∀ x : Later wb, _ = some (.bool false : Value) := Later.cell r1 0 _ rfl
  have c11 : ∀ x : Later wb, _ = some (.string ⟨#[]⟩ : Value) := Later.cell r1 1 _ rfl
  have c12 : ∀ x : Later wb, _ = some (.int .i16 0 : Value) := Later.cell r1 2 _ rfl
  have R0 := hide r0
  have R1 := hide r1
  clear r0 r1
  have hne : Nonempty (Later wb) := ⟨x0⟩
  go_enter Oaag.func54, Oaag.ntmps54
  go_wp2_with (first | (with_reducible refine Go.Proofs.YgcoaaGreat.NatW.at_later 67 ?_; refine Go.Proofs.YgcoaaGreat.NatW.Ret.run (fmtOk_ret E M hf) _ ?_; rintro _ y__ rfl) | (with_reducible refine Go.Proofs.YgcoaaGreat.NatW.at_later 39 ?_; refine Go.Proofs.YgcoaaGreat.NatW.Ret.run decOk_zero _ ?_; rintro _ y__ rfl))
  all_goals first | exact unhide HK _ _ rfl (hB _) | skip

set_option maxRecDepth 20000 in
set_option maxHeartbeats 2000000 in
theorem second_zero (E M : Nat) (hf : fok E M = true) (b : Nat) (m : Int) (q : Bool) : Ret 55 #[.pointer (some ⟨b, 0, none⟩), fmt E M, .int .u8 m, dec0, .bool q] (fun v => v = .tuple #[.int .u64 0, .int .u8 0]) := by
  obtain ⟨g1, g2, g3, g4⟩ := fok_bd hf
  intro w K hK
  have HK := hide hK
  clear hK
  obtain ⟨wb, x0, hwb, r0, r1, hB, hZ⟩ := boxes2 w #[.int .u8 E, .int .u8 M] #[.bool false, .string ⟨#[]⟩, .int .i16 0] 23 74
  have c00 : ∀ x : Later wb, _ = some (.int .u8 E : Value) := Later.cell r0 0 _ rfl
  have c01 : ∀ x : Later wb, _ = some (.int .u8 M : Value) := Later.cell r0 1 _ rfl
  have c10 : ∀ x : Later wb, _ = some (.bool false : Value) := Later.cell r1 0 _ rfl
  have c11 : ∀ x : Later wb, _ = some (.string ⟨#[]⟩ : Value) := Later.cell r1 1 _ rfl
  have c12 : ∀ x : Later wb, _ = some (.int .i16 0 : Value) := Later.cell r1 2 _ rfl
  have R0 := hide r0
  have R1 := hide r1
  clear r0 r1
  have hne : Nonempty (Later wb) := ⟨x0⟩
  go_enter Oaag.func55, Oaag.ntmps55
  go_wp2_with (first | (with_reducible refine Go.Proofs.YgcoaaGreat.NatW.at_later 67 ?_; refine Go.Proofs.YgcoaaGreat.NatW.Ret.run (fmtOk_ret E M hf) _ ?_; rintro _ y__ rfl) | (with_reducible refine Go.Proofs.YgcoaaGreat.NatW.at_later 39 ?_; refine Go.Proofs.YgcoaaGreat.NatW.Ret.run decOk_zero _ ?_; rintro _ y__ rfl))
  all_goals first | exact unhide HK _ _ rfl (hB _) | skip


end Go.Proofs.YgcoaaGreat.NatW
