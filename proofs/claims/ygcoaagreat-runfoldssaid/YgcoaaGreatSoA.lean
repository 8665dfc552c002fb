/-
  Package so: flags.
-/
import Derived.Test.YgcoaaGreatTacB
import Derived.Test.YgcoaaGreatSoftO
import Derived.Test.YgcoaaGreatSoftQ
import Derived.Test.YgcoaaGreatSoftQb
import Derived.Test.YgcoaaGreatSoftR
import Derived.Test.YgcoaaGreatSoftS
import Derived.Test.YgcoaaGreatSoftV
import Derived.Test.YgcoaaGreatSoftW
import Derived.Test.YgcoaaGreatSoftX
import Derived.Test.YgcoaaGreatSoftY
import Derived.Test.YgcoaaGreatSoftZ
set_option linter.unusedVariables false
set_option linter.unusedSimpArgs false
namespace Go.Proofs.YgcoaaGreat.NatW
attribute [local go_sem] Go.Instr.field Go.asAgg
open Go.RowKit
open Go.Proofs.YgcoaaGreat.Limbs Go.Proofs.YgcoaaGreat.Bits

set_option maxRecDepth 20000 in
set_option maxHeartbeats 2000000 in
theorem flags_ret (E M : Nat) (hf : fok E M = true) (m q a b k : Int) (ha : U64 a) (hb : U64 b) (hk : U64 k) : Ret 264 #[fmt E M, .int .u8 m, .int .u64 q, .int .u64 a, .int .u64 b, .int .u64 k] (fun v => ∃ f, v = .int .u8 f) := by
  obtain ⟨g1, g2, g3, g4⟩ := fok_bd hf
  intro w K hK
  have HK := hide hK
  clear hK
  obtain ⟨wb, x0, hwb, r0, hB, hZ⟩ := boxes1 w #[.int .u8 E, .int .u8 M] 23
  have c00 : ∀ x : Later wb, _ = some (.int .u8 E : Value) := Later.cell r0 0 _ rfl
  have c01 : ∀ x : Later wb, _ = some (.int .u8 M : Value) := Later.cell r0 1 _ rfl
  have R0 := hide r0
  clear r0
  have hne : Nonempty (Later wb) := ⟨x0⟩
  go_enter Oaag.func264, Oaag.ntmps264
  go_wp2_with (first
    | (with_reducible refine Go.Proofs.YgcoaaGreat.NatW.at_later 246 ?_; refine Go.Proofs.YgcoaaGreat.NatW.Ret.run (addFlags_ret E M hf m a b ha hb) _ ?_; rintro _ y__ ⟨rr, ff, rfl, hrr⟩)
    | (with_reducible refine Go.Proofs.YgcoaaGreat.NatW.at_later 247 ?_; refine Go.Proofs.YgcoaaGreat.NatW.Ret.run (subFlags_ret E M hf m a b ha hb) _ ?_; rintro _ y__ ⟨rr, ff, rfl, hrr⟩)
    | (with_reducible refine Go.Proofs.YgcoaaGreat.NatW.at_later 248 ?_; refine Go.Proofs.YgcoaaGreat.NatW.Ret.run (mulFlags_ret E M hf m a b ha hb) _ ?_; rintro _ y__ ⟨rr, ff, rfl, hrr⟩)
    | (with_reducible refine Go.Proofs.YgcoaaGreat.NatW.at_later 249 ?_; refine Go.Proofs.YgcoaaGreat.NatW.Ret.run (divFlags_ret E M hf m a b ha hb) _ ?_; rintro _ y__ ⟨rr, ff, rfl, hrr⟩)
    | (with_reducible refine Go.Proofs.YgcoaaGreat.NatW.at_later 250 ?_; refine Go.Proofs.YgcoaaGreat.NatW.Ret.run (sqrtFlags_ret E M hf m a ha) _ ?_; rintro _ y__ ⟨rr, ff, rfl, hrr⟩)
    | (with_reducible refine Go.Proofs.YgcoaaGreat.NatW.at_later 309 ?_; refine Go.Proofs.YgcoaaGreat.NatW.Ret.run (fmaFlags_ret E M hf m a b k ha hb hk) _ ?_; rintro _ y__ ⟨rr, ff, rfl, hrr⟩)
    | (with_reducible refine Go.Proofs.YgcoaaGreat.NatW.at_later 310 ?_; refine Go.Proofs.YgcoaaGreat.NatW.Ret.run (remFlags_ret E M hf a b ha hb) _ ?_; rintro _ y__ ⟨rr, ff, rfl, hrr⟩)
    | (with_reducible refine Go.Proofs.YgcoaaGreat.NatW.at_later 311 ?_; refine Go.Proofs.YgcoaaGreat.NatW.Ret.run (roundIntFlags_ret E M hf m a ha) _ ?_; rintro _ y__ ⟨rr, ff, rfl, hrr⟩))
  all_goals first | exact unhide HK _ _ ⟨_, rfl⟩ (hB _) | skip


end Go.Proofs.YgcoaaGreat.NatW
