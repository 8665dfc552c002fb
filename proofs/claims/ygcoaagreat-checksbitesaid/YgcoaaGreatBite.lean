/-
  Package law: ChecksBite.
-/
import Derived.Test.YgcoaaGreatBiA
import Derived.Test.YgcoaaGreatBiR
import Derived.Test.YgcoaaGreatBiD
import Derived.Test.YgcoaaGreatBiU
import Derived.Test.YgcoaaGreatBiW
import Derived.Test.YgcoaaGreatBiS
set_option linter.unusedVariables false
set_option linter.unusedSimpArgs false
namespace Go.Proofs.YgcoaaGreat.NatW
attribute [local go_sem] Go.Instr.field Go.asAgg
open Go.RowKit

set_option maxRecDepth 20000 in
set_option maxHeartbeats 4000000 in
theorem bite_any (w : World) (a0 a1 : Int) (h0 : 0 ≤ a1) (h1 : a1 ≤ 255) : Calls Oaag.prog 4 #[.int .u64 a0, .int .u8 a1] w fun e w' => e = .returned (.bool true) ∧ Below w.heap.size w w' := by
  have hd : Dice w.heap.size (w.alloc (.cells #[.int .u64 a0] 33)) := ⟨a0, 33, heap_alloc_new _ _⟩
  have hb : Below w.heap.size w (w.alloc (.cells #[.int .u64 a0] 33)) := (Below.refl _ _).alloc (Nat.le_refl _) _
  have HD := hide hd
  have HB := hide hb
  clear hd hb
  go_enter Oaag.func4, Oaag.ntmps4
  go_wp2_with (first
    | (go_at_call 12; refine (biteNat_any _ _ (unhide HD) _).mono ?_; rintro e w' ⟨rfl, hb'⟩)
    | (go_at_call 13; refine (biteRat_any _ _ (unhide HD) _).mono ?_; rintro e w' ⟨rfl, hb'⟩)
    | (go_at_call 14; refine (biteDec_any _ _ (unhide HD) _).mono ?_; rintro e w' ⟨rfl, hb'⟩)
    | (go_at_call 15; refine (biteTable_any _ _ (unhide HD) _).mono ?_; rintro e w' ⟨rfl, hb'⟩)
    | (go_at_call 16; refine (biteWalk_any _ _ (unhide HD) _).mono ?_; rintro e w' ⟨rfl, hb'⟩)
    | (go_at_call 17; refine (biteSound_any _ _ (unhide HD) _).mono ?_; rintro e w' ⟨rfl, hb'⟩))
  all_goals
    go_ret
    exact ⟨rfl, (unhide HB).trans hb'⟩
end Go.Proofs.YgcoaaGreat.NatW
