/-
  Package kit: FlagText.
-/
import Derived.Test.YgcoaaGreatSoC
set_option linter.unusedVariables false
set_option linter.unusedSimpArgs false
namespace Go.Proofs.YgcoaaGreat.NatW
attribute [local go_sem] Go.Instr.field Go.asAgg
open Go.RowKit
open Go.Proofs.YgcoaaGreat.Limbs Go.Proofs.YgcoaaGreat.Bits

attribute [local go_sem] Go.Instr.index

theorem app1b (S : ByteArray) (b : UInt8) (n : Nat) (h : S.size ≤ n) : (S ++ ⟨#[b]⟩).size ≤ n + 1 := by
  rw [ByteArray.size_append]
  exact Nat.add_le_add_right h 1

set_option maxRecDepth 20000 in
set_option maxHeartbeats 2000000 in
theorem flagText_any (f : Int) : Ret 237 #[.int .u8 f] (fun v => ∃ s, v = .string s ∧ s.size ≤ 5) := by
  intro w K hK
  have HK := hide hK
  clear hK
  obtain ⟨wb, x0, hwb, hB⟩ := boxes0 w
  subst hwb
  have hne : Nonempty (Later wb) := ⟨x0⟩
  go_enter Oaag.func237, Oaag.ntmps237
  go_wp2_with fail
  go_loop [3, 4, 5, 7] (fun s i l k => ∃ (S : ByteArray) (n : Nat), s = .string S ∧ S.size ≤ n ∧ n ≤ 5 ∧ k = .int .i64 n) (fun s i l k => (5 - intOf k).toNat)
  case atStart => exact ⟨_, 0, rfl, by decide, by omega, rfl⟩
  case round =>
    obtain ⟨S, n, rfl, hS, hn, rfl⟩ := hrel
    have HS := hide hS
    rcases (show n = 0 ∨ n = 1 ∨ n = 2 ∨ n = 3 ∨ n = 4 ∨ n = 5 by omega) with rfl | rfl | rfl | rfl | rfl | rfl
    all_goals go_wp2_with fail
    all_goals first
      | exact unhide HK _ _ ⟨_, rfl, by first | decide | exact unhide HS⟩ (hB _)
      | exact ⟨⟨_, 1, rfl, app1b S _ 0 (unhide HS), by omega, rfl⟩, by simp [intOf]⟩
      | exact ⟨⟨_, 1, rfl, Nat.le_succ_of_le (unhide HS), by omega, rfl⟩, by simp [intOf]⟩
      | exact ⟨⟨_, 2, rfl, app1b S _ 1 (unhide HS), by omega, rfl⟩, by simp [intOf]⟩
      | exact ⟨⟨_, 2, rfl, Nat.le_succ_of_le (unhide HS), by omega, rfl⟩, by simp [intOf]⟩
      | exact ⟨⟨_, 3, rfl, app1b S _ 2 (unhide HS), by omega, rfl⟩, by simp [intOf]⟩
      | exact ⟨⟨_, 3, rfl, Nat.le_succ_of_le (unhide HS), by omega, rfl⟩, by simp [intOf]⟩
      | exact ⟨⟨_, 4, rfl, app1b S _ 3 (unhide HS), by omega, rfl⟩, by simp [intOf]⟩
      | exact ⟨⟨_, 4, rfl, Nat.le_succ_of_le (unhide HS), by omega, rfl⟩, by simp [intOf]⟩
      | exact ⟨⟨_, 5, rfl, app1b S _ 4 (unhide HS), by omega, rfl⟩, by simp [intOf]⟩
      | exact ⟨⟨_, 5, rfl, Nat.le_succ_of_le (unhide HS), by omega, rfl⟩, by simp [intOf]⟩
      | skip


end Go.Proofs.YgcoaaGreat.NatW
