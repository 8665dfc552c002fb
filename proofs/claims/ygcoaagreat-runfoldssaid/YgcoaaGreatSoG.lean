/-
  Package so: readFlags, hexFlags at the empty text.
-/
import Derived.Test.YgcoaaGreatScB
import Derived.Test.YgcoaaGreatSoF
set_option linter.unusedVariables false
set_option linter.unusedSimpArgs false
namespace Go.Proofs.YgcoaaGreat.NatW
attribute [local go_sem] Go.Instr.field Go.asAgg
open Go.RowKit
open Go.Proofs.YgcoaaGreat.Limbs Go.Proofs.YgcoaaGreat.Bits

set_option maxRecDepth 20000 in
set_option maxHeartbeats 4000000 in
theorem readFlags_zero (E M : Nat) (hf : fok E M = true) (m : Int) : Ret 268 #[fmt E M, .int .u8 m, .string ⟨#[]⟩] (fun v => ∃ s : ByteArray, v = .string s ∧ s.size ≤ 300000) := by
  obtain ⟨g1, g2, g3, g4⟩ := fok_bd hf
  intro w K hK
  have HK := hide hK
  clear hK
  obtain ⟨wb, x0, hwb, r0, hB, hZ⟩ := boxes1 w #[.int .u8 E, .int .u8 M] 23
  have c00 : ∀ x : Later wb, _ = some (.int .u8 E : Value) := Later.cell r0 0 _ rfl
  have c01 : ∀ x : Later wb, _ = some (.int .u8 M : Value) := Later.cell r0 1 _ rfl
  have R0 := hide r0
  clear r0
  have hne : Nonempty (Later wb) := ⟨x0⟩
  go_enter Oaag.func268, Oaag.ntmps268
  go_wp2_with (first
    | ((with_reducible refine Go.Proofs.YgcoaaGreat.NatW.at_later 254 ?_); refine Ret.run scan_zero _ ?_; rintro _ y rfl))
  all_goals first | exact unhide HK _ _ ⟨_, rfl, by decide⟩ (hB ⟨y.at_.alloc _, y.ok.alloc y.ok.size _⟩) | skip

set_option maxRecDepth 20000 in
set_option maxHeartbeats 4000000 in
theorem hexFlags_zero (E M : Nat) (hf : fok E M = true) (m : Int) : Ret 269 #[fmt E M, .int .u8 m, .string ⟨#[]⟩] (fun v => ∃ s : ByteArray, v = .string s ∧ s.size ≤ 300000) := by
  obtain ⟨g1, g2, g3, g4⟩ := fok_bd hf
  intro w K hK
  have HK := hide hK
  clear hK
  obtain ⟨wb, x0, hwb, r0, hB, hZ⟩ := boxes1 w #[.int .u8 E, .int .u8 M] 23
  have c00 : ∀ x : Later wb, _ = some (.int .u8 E : Value) := Later.cell r0 0 _ rfl
  have c01 : ∀ x : Later wb, _ = some (.int .u8 M : Value) := Later.cell r0 1 _ rfl
  have R0 := hide r0
  clear r0
  have hne : Nonempty (Later wb) := ⟨x0⟩
  go_enter Oaag.func269, Oaag.ntmps269
  go_wp2_with (first
    | ((with_reducible refine Go.Proofs.YgcoaaGreat.NatW.at_later 266 ?_); refine Ret.run hscan_zero _ ?_; rintro _ y rfl))
  all_goals first | exact unhide HK _ _ ⟨_, rfl, by decide⟩ (hB ⟨y.at_.alloc _, y.ok.alloc y.ok.size _⟩) | skip


end Go.Proofs.YgcoaaGreat.NatW
