/-
  Package so: convFlags.
-/
import Derived.Test.YgcoaaGreatTacB
import Derived.Test.YgcoaaGreatSoftO
import Derived.Test.YgcoaaGreatSoftQ
import Derived.Test.YgcoaaGreatSoftQb
import Derived.Test.YgcoaaGreatSoftR
import Derived.Test.YgcoaaGreatSoftS
import Derived.Test.YgcoaaGreatSoftV
import Derived.Test.YgcoaaGreatSoftW
import Derived.Test.YgcoaaGreatSoftX
import Derived.Test.YgcoaaGreatSoftY
import Derived.Test.YgcoaaGreatSoftZ
set_option linter.unusedVariables false
set_option linter.unusedSimpArgs false
namespace Go.Proofs.YgcoaaGreat.NatW
attribute [local go_sem] Go.Instr.field Go.asAgg
open Go.RowKit
open Go.Proofs.YgcoaaGreat.Limbs Go.Proofs.YgcoaaGreat.Bits

theorem fmtOk_g (G N : Nat) (h : fok G N = false) : Ret 67 #[fmt G N] (fun u => u = .bool false) := Ret.of fun w => by
  have := fmtOk_any G N w
  rw [h] at this
  exact this

set_option maxRecDepth 20000 in
set_option maxHeartbeats 2000000 in
theorem convertFlags_no (E M : Nat) (hf : fok E M = true) (G N : Nat) (hg : fok G N = false) (m a : Int) : Ret 190 #[fmt E M, fmt G N, .int .u8 m, .int .u64 a] (fun v => ∃ r f, v = .tuple #[.int .u64 r, .int .u8 f]) := by
  obtain ⟨g1, g2, g3, g4⟩ := fok_bd hf
  intro w K hK
  have HK := hide hK
  clear hK
  obtain ⟨wb, x0, hwb, r0, r1, hB, hZ⟩ := boxes2 w #[.int .u8 E, .int .u8 M] #[.int .u8 G, .int .u8 N] 23 23
  have c00 : ∀ x : Later wb, _ = some (.int .u8 E : Value) := Later.cell r0 0 _ rfl
  have c01 : ∀ x : Later wb, _ = some (.int .u8 M : Value) := Later.cell r0 1 _ rfl
  have c10 : ∀ x : Later wb, _ = some (.int .u8 G : Value) := Later.cell r1 0 _ rfl
  have c11 : ∀ x : Later wb, _ = some (.int .u8 N : Value) := Later.cell r1 1 _ rfl
  have R0 := hide r0
  have R1 := hide r1
  clear r0 r1
  have hne : Nonempty (Later wb) := ⟨x0⟩
  go_enter Oaag.func190, Oaag.ntmps190
  go_wp2_with (first | (with_reducible refine Go.Proofs.YgcoaaGreat.NatW.at_later 67 ?_; refine Go.Proofs.YgcoaaGreat.NatW.Ret.run (fmtOk_ret E M hf) _ ?_; rintro _ y__ rfl) | (with_reducible refine Go.Proofs.YgcoaaGreat.NatW.at_later 67 ?_; refine Go.Proofs.YgcoaaGreat.NatW.Ret.run (fmtOk_g G N hg) _ ?_; rintro _ y__ rfl))
  all_goals exact unhide HK _ _ ⟨_, _, rfl⟩ (hB _)

theorem convertFlags_any (E M : Nat) (hf : fok E M = true) (G N m a : Int) (hG : 0 ≤ G) (hN : 0 ≤ N) (ha : U64 a) : Ret 190 #[fmt E M, .agg #[.int .u8 G, .int .u8 N], .int .u8 m, .int .u64 a] (fun v => ∃ r f, v = .tuple #[.int .u64 r, .int .u8 f]) := by
  obtain ⟨g, rfl⟩ := Int.eq_ofNat_of_zero_le hG
  obtain ⟨n, rfl⟩ := Int.eq_ofNat_of_zero_le hN
  cases h : fok g n with
  | true => exact (convertFlags_ret E M hf g n h m a ha).mono fun v ⟨r, f, e, _⟩ => ⟨r, f, e⟩
  | false => exact convertFlags_no E M hf g n h m a
theorem fmtOk_i (G N : Int) (hG : 0 ≤ G) (hN : 0 ≤ N) : Ret 67 #[.agg #[.int .u8 G, .int .u8 N]] (fun u => u = .bool (fok G.toNat N.toNat)) := by
  obtain ⟨g, rfl⟩ := Int.eq_ofNat_of_zero_le hG
  obtain ⟨n, rfl⟩ := Int.eq_ofNat_of_zero_le hN
  exact Ret.of fun w => fmtOk_any g n w


end Go.Proofs.YgcoaaGreat.NatW
