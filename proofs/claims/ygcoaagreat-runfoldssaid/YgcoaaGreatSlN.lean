/-
  Package slow: nearby, round.
-/
import Derived.Test.YgcoaaGreatSlL
import Derived.Test.YgcoaaGreatBtA
set_option linter.unusedVariables false
set_option linter.unusedSimpArgs false
set_option maxRecDepth 20000
namespace Go.Proofs.YgcoaaGreat.NatW
open Go.RowKit
open Go.Proofs.YgcoaaGreat.Det
open Go.Proofs.YgcoaaGreat.Limbs Go.Proofs.YgcoaaGreat.Bits
attribute [local go_sem] Go.Instr.field Go.asAgg


def NyR (v : Value) : Prop := ∃ (n : Int) (b : Bool), v = .tuple #[.int .u64 n, .bool b]
set_option maxHeartbeats 2000000 in
theorem nearby_run (w : World) (m : Int) (neg : Bool) (sg dr : Int) (us : U64 sg) (hd : 0 ≤ dr) (ht : w.tape = fun _ _ => 0) :
    Calls Oaag.prog 354 #[.int .u8 m, .bool neg, .int .u64 sg, .int .i64 dr] w fun e w' => ∃ v, e = .returned v ∧ NyR v ∧ Below w.heap.size w w' := by
  have HT := hide ht
  clear ht
  obtain ⟨D, rfl⟩ := Int.eq_ofNat_of_zero_le hd
  by_cases h64 : D ≤ 64
  · obtain ⟨F, hF⟩ : ∃ F : Nat, (64 : Int) - D = F := ⟨64 - D, by omega⟩
    go_enter Oaag.func354, Oaag.ntmps354
    go_wp2_with (first
      | (with_reducible refine at_reg 3 ?_
         refine wp_region_zero_list (unhide HT) (by kernel_rfl) ?_)
      | fail)
    all_goals first
      | (go_ret2; exact ⟨_, rfl, ⟨_, _, rfl⟩, drew_below _⟩)
      | fail
  · go_enter Oaag.func354, Oaag.ntmps354
    go_wp2_with fail
    all_goals first
      | (go_ret2; exact ⟨_, rfl, ⟨_, _, rfl⟩, Below.refl _ _⟩)
      | fail
end Go.Proofs.YgcoaaGreat.NatW
