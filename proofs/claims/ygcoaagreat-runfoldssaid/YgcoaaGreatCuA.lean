/-
  Package exact: cutRest.
-/
import Derived.Test.YgcoaaGreatRsG
set_option linter.unusedVariables false
set_option linter.unusedSimpArgs false
set_option maxRecDepth 20000
namespace Go.Proofs.YgcoaaGreat.NatW
open Go.RowKit
open Go.Proofs.YgcoaaGreat.Limbs Go.Proofs.YgcoaaGreat.Bits
attribute [local go_sem] Go.Instr.field Go.asAgg


def CuR (v : Value) : Prop := ∃ (a : Int) (b : Bool), v = .agg #[.int .i8 a, .bool b]
set_option maxHeartbeats 1000000 in
theorem cutRest_run (w : World) (l p h : Int) (b : Bool) (l1 : -20000000000000000 ≤ l) (l2 : l ≤ 20000000000000000) (p1 : 1 ≤ p) (p2 : p ≤ 10000000000000000) :
    Calls Oaag.prog 304 #[.int .i64 l, .int .i64 p, .agg #[.int .i8 h, .bool b]] w fun e w' => ∃ v, e = .returned v ∧ CuR v ∧ Below w.heap.size w w' := by
  go_enter Oaag.func304, Oaag.ntmps304
  go_wp2_with fail
  all_goals first
    | (refine bodyPost_box rfl ?_
       intro r hr
       simp [results, Oaag.results304, go_sem] at hr
       subst hr
       exact ⟨_, rfl, _, rfl, ⟨_, _, rfl⟩, ((Below.refl _ _).alloc (Nat.le_refl _) _).alloc (by rw [size_new]; omega) _⟩)
    | fail
end Go.Proofs.YgcoaaGreat.NatW
